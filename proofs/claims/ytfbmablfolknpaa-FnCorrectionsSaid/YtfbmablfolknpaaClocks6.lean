/-
  Proved here: what NeedlessMarks and its reference return.
  Conditions: the number of marks fits an int.
-/
import Derived.Test.YtfbmablfolknpaaClocks2
import Derived.Test.YtfbmablfolknpaaInts
import Derived.Test.YtfbmablfolknpaaAppend
import Derived.Deep.DeepCutAuto
namespace Go.Proofs.Ytfbmablfolknpaa
open Go.RowKit

/-- mark k lies on the line of its neighbours -/
def ndB (ms : List Mark) (k : Nat) : Bool :=
  ((nth ms k).real - (nth ms (k - 1)).real) * ((nth ms (k + 1)).shown - (nth ms (k - 1)).shown) == ((nth ms (k + 1)).real - (nth ms (k - 1)).real) * ((nth ms k).shown - (nth ms (k - 1)).shown)
def needU (ms : List Mark) : Nat → List Int
  | 0 => []
  | k + 1 => if decide (1 ≤ k) && ndB ms k then needU ms k ++ [(k : Int)] else needU ms k
theorem needU_len (ms : List Mark) (k : Nat) : (needU ms k).length ≤ k := by
  induction k with
  | zero => simp [needU]
  | succ k ih =>
    rw [needU]
    split
    · simp; omega
    · omega
def nmL (ms : List Mark) : List Int := if marksB ms then needU ms (max (ms.length - 1) 1) else []
theorem nd_small {a b : Int} (h0 : 0 ≤ a) (h1 : a ≤ 36000) (h2 : 0 ≤ b) (h3 : b ≤ 36000) : 0 ≤ a * b ∧ a * b ≤ 1296000000 :=
  ⟨Int.mul_nonneg h0 h2, by have := Int.mul_le_mul h1 h3 h2 (by omega); omega⟩

set_option maxRecDepth 100000 in
set_option maxHeartbeats 2000000 in
theorem impl_NeedlessMarks {ao : Option Addr} {cap : Nat} {ms : List Mark} {w : World} (h : RowAt w ao 2 ms.length (fun k => (nth ms k).c)) (hn : ms.length ≤ 9223372036854775807) :
    Calls Try.prog 49 #[.slice ao ms.length cap] w fun e w' => ∃ bo bc, e = .returned (.tuple #[.slice bo (nmL ms).length bc, .bool (marksB ms)]) ∧ Ext w w' ∧ FreshAt w.heap.size w' bo 1 (nmL ms).length (ic (nmL ms)) := by
  obtain ⟨i0, hi, hz0, hz1, hz2⟩ := info_parts infoInt
  by_cases hm : marksB ms = true
  · obtain ⟨hl1, hl2⟩ := marksB_len hm
    have hv := marksB_valid hm
    have hr := marksB_rises hm
    have hfin : nmL ms = needU ms (max (ms.length - 1) 1) := by simp [nmL, hm]
    rw [hfin, hm]
    clear hfin
    obtain ⟨b, off, rfl, hcell⟩ := h (by omega)
    go_enter Try.func49, Try.ntmps49
    go_wp2_with (go_at_call 32; refine (impl_AreClockMarks h hn).mono ?_; rw [hm]; rintro e w1 ⟨rfl, hx1⟩)
    have hx2 := hx1.alloc (Obj.cells #[] 3)
    have ho2 : (w1.alloc (Obj.cells #[] 3)).ownsRow w.heap.size 3 1 (.slice (some ⟨w1.heap.size, 0, none⟩) 0 0) ((needU ms 1).map (Value.int .i64)).length ((needU ms 1).map (Value.int .i64)) := World.ownsRow_lit w1 #[] 0 hx1.size (by decide) (by decide)
    clear h
    go_loopw [4, 5] (fun v i wr => ∃ k : Nat, 1 ≤ k ∧ k ≤ max (ms.length - 1) 1 ∧ i = .int .i64 k ∧ Ext w wr ∧ wr.ownsRow w.heap.size 3 1 v ((needU ms k).map (Value.int .i64)).length ((needU ms k).map (Value.int .i64))) (fun _ i _ => ms.length - (intOf i).toNat)
    case atStart => exact ⟨1, by omega, by omega, rfl, hx2, ho2⟩
    case round =>
      clear hx2 ho2 hx1
      obtain ⟨k, hk1, hk, rfl, hx, hown⟩ := hrel
      by_cases hlt : k + 1 < ms.length
      · have q0 := hv (k - 1) (by omega)
        have q1 := hv k (by omega)
        have q2 := hv (k + 1) (by omega)
        have q3 := hr k (by omega) (by omega)
        have q4 := hr (k + 1) (by omega) hlt
        rw [Nat.add_sub_cancel] at q4
        have d0 := hx.cells (hcell (k - 1) (by omega) 0 (by decide))
        have d1 := hx.cells (hcell (k - 1) (by omega) 1 (by decide))
        have d2 := hx.cells (hcell k (by omega) 0 (by decide))
        have d3 := hx.cells (hcell k (by omega) 1 (by decide))
        have d4 := hx.cells (hcell (k + 1) hlt 0 (by decide))
        have d5 := hx.cells (hcell (k + 1) hlt 1 (by decide))
        simp only [Mark.c0, Mark.c1, Nat.add_zero] at d0 d1 d2 d3 d4 d5
        have hbw : b < wr.heap.size := World.block_lt_of_cell? _ _ d0
        have hbw1 : b < wr.heap.size + 1 := by omega
        have hbw2 : b < wr.heap.size + 1 + 1 := by omega
        have m1 := nd_small (a := (nth ms k).real - (nth ms (k - 1)).real) (b := (nth ms (k + 1)).shown - (nth ms (k - 1)).shown) (by omega) (by omega) (by omega) (by omega)
        have m2 := nd_small (a := (nth ms (k + 1)).real - (nth ms (k - 1)).real) (b := (nth ms k).shown - (nth ms (k - 1)).shown) (by omega) (by omega) (by omega) (by omega)
        have hlen := needU_len ms k
        clear hcell hv hr
        go_wp2
        go_cut [6, 7, 8] (fun va vx vb wc => Ext wr wc ∧ ∃ ba bx bb : Nat, va = .pointer (some ⟨ba, 0, none⟩) ∧ vx = .pointer (some ⟨bx, 0, none⟩) ∧ vb = .pointer (some ⟨bb, 0, none⟩) ∧
          wc.cell? ⟨ba, 0, none⟩ = some (.int .i64 (nth ms (k - 1)).shown) ∧ wc.cell? ⟨ba, 1, none⟩ = some (.int .i64 (nth ms (k - 1)).real) ∧
          wc.cell? ⟨bx, 0, none⟩ = some (.int .i64 (nth ms k).shown) ∧ wc.cell? ⟨bx, 1, none⟩ = some (.int .i64 (nth ms k).real) ∧
          wc.cell? ⟨bb, 0, none⟩ = some (.int .i64 (nth ms (k + 1)).shown) ∧ wc.cell? ⟨bb, 1, none⟩ = some (.int .i64 (nth ms (k + 1)).real))
        case first =>
          go_region
          all_goals
            go_wp2_with fail
            go_meet
            exact ⟨(by repeat (first | (with_reducible exact Ext.refl _) | (with_reducible assumption) | with_reducible refine Ext.drew ?_ | with_reducible refine Ext.alloc ?_ _ | with_reducible refine Ext.setCell ?_ (by first | (simp; done) | (simp; omega) | omega) _ | with_reducible refine Ext.trans ?_ (by with_reducible assumption))), _, _, _, rfl, rfl, rfl, by go_simp, by go_simp, by go_simp, by go_simp, by go_simp, by go_simp⟩
        case rest =>
          obtain ⟨hxc, ba, bx, bb, rfl, rfl, rfl, c0, c1, c2, c3, c4, c5⟩ := hcut
          have hownc := own_kept hown hxc
          have hxw := hx.trans hxc
          clear hown hx hxc d0 d1 d2 d3 d4 d5 hbw hbw1 hbw2
          by_cases hT : (((nth ms k).real - (nth ms (k - 1)).real) * ((nth ms (k + 1)).shown - (nth ms (k - 1)).shown) == ((nth ms (k + 1)).real - (nth ms (k - 1)).real) * ((nth ms k).shown - (nth ms (k - 1)).shown)) = true
          · have hnx : needU ms (k + 1) = needU ms k ++ [(k : Int)] := by rw [needU, if_pos (by simp only [ndB, hT, Bool.and_true, decide_eq_true_eq]; exact hk1)]
            have HN := Lib.hid hnx; clear hnx
            go_wp2_with (at_builtin; refine wpList_append_own _ rfl _ _ 48 rfl w.heap.size 3 i0 (.int .i64 0) 1 8 Try.underlying48 hi hz0 hz1 hz2 rfl (by decide) _ _ _ rfl (hownc.alloc _) ⟨wc.heap.size, 0, none⟩ 1 1 [.int .i64 (k : Int)] rfl rfl (by intro j u hj; match j, hj with | 0, hj => simp at hj; subst hj; simp [Addr.add]) (by intro u hu; simp at hu; subst hu; rfl) (by simp only [List.length_map]; unfold maxLen; omega) (by simp only [List.length_map]; omega) (by have := hxw.size; simp; omega) ?_; intro v' w2 hown2 hgrow2 _)
            have hE := own_ext (hxw.alloc _) (hownc.alloc _) hgrow2
            have hO : w2.ownsRow w.heap.size 3 1 v' ((needU ms (k + 1)).map (Value.int .i64)).length ((needU ms (k + 1)).map (Value.int .i64)) := by rw [HN.out]; simpa using hown2
            clear hown2 hgrow2 hownc hxw
            go_wp2
            go_roundw
            case rel => exact ⟨k + 1, by omega, by omega, by go_num, hE, hO⟩
            case measure => simp [intOf]; omega
          · have hnx : needU ms (k + 1) = needU ms k := by rw [needU, if_neg (by simp only [ndB, Bool.and_eq_true]; exact fun h => hT h.2)]
            have hT' : (((nth ms k).real - (nth ms (k - 1)).real) * ((nth ms (k + 1)).shown - (nth ms (k - 1)).shown) == ((nth ms (k + 1)).real - (nth ms (k - 1)).real) * ((nth ms k).shown - (nth ms (k - 1)).shown)) = false := by simpa using hT
            have hO := hownc
            rw [← hnx] at hO
            clear hnx hT
            go_wp2
            go_roundw
            case rel => exact ⟨k + 1, by omega, by omega, by go_num, hxw, hO⟩
            case measure => simp [intOf]; omega
      · have hkm : k = max (ms.length - 1) 1 := by omega
        have HK := Lib.hid hkm; clear hkm
        obtain ⟨bo, bc, rfl, hF⟩ := own_fresh (c := ic (needU ms k)) hown (by rw [List.length_map]; exact own_ints)
        rw [List.length_map] at hF ⊢
        clear hown hcell hv hr
        go_wp2
        go_ret2
        rw [← HK.out]
        exact ⟨bo, bc, rfl, (by repeat (first | (with_reducible exact Ext.refl _) | (with_reducible assumption) | with_reducible refine Ext.drew ?_ | with_reducible refine Ext.alloc ?_ _ | with_reducible refine Ext.setCell ?_ (by first | (simp; done) | (simp; omega) | omega) _ | with_reducible refine Ext.trans ?_ (by with_reducible assumption))), hF⟩
  · have hfin : nmL ms = [] := by simp [nmL, hm]
    rw [hfin]
    go_enter Try.func49, Try.ntmps49
    go_wp2_with (go_at_call 32; refine (impl_AreClockMarks h hn).mono ?_; rintro e w1 ⟨rfl, hx1⟩)
    go_ret2
    have hm' : marksB ms = false := by simpa using hm
    rw [hm']
    exact ⟨none, 0, rfl, (by repeat (first | (with_reducible exact Ext.refl _) | (with_reducible assumption) | with_reducible refine Ext.drew ?_ | with_reducible refine Ext.alloc ?_ _ | with_reducible refine Ext.setCell ?_ (by first | (simp; done) | (simp; omega) | omega) _ | with_reducible refine Ext.trans ?_ (by with_reducible assumption))), ⟨fun h => by simp at h, fun a e => (by cases e), fun b off e => (by cases e)⟩⟩

set_option maxRecDepth 100000 in
set_option maxHeartbeats 2000000 in
theorem spec_NeedlessMarks {ao : Option Addr} {cap : Nat} {ms : List Mark} {w : World} (h : RowAt w ao 2 ms.length (fun k => (nth ms k).c)) (hn : ms.length ≤ 9223372036854775807) :
    Calls Try.prog 50 #[.slice ao ms.length cap] w fun e w' => ∃ bo bc, e = .returned (.tuple #[.slice bo (nmL ms).length bc, .bool (marksB ms)]) ∧ Ext w w' ∧ FreshAt w.heap.size w' bo 1 (nmL ms).length (ic (nmL ms)) := by
  obtain ⟨i0, hi, hz0, hz1, hz2⟩ := info_parts infoInt
  by_cases hm : marksB ms = true
  · obtain ⟨hl1, hl2⟩ := marksB_len hm
    have hv := marksB_valid hm
    have hr := marksB_rises hm
    have hfin : nmL ms = needU ms (max (ms.length - 1) 1) := by simp [nmL, hm]
    rw [hfin, hm]
    clear hfin
    obtain ⟨b, off, rfl, hcell⟩ := h (by omega)
    go_enter Try.func50, Try.ntmps50
    go_wp2_with (go_at_call 51; refine (spec_l13Marks (h.ext (by repeat (first | (with_reducible exact Ext.refl _) | (with_reducible assumption) | with_reducible refine Ext.drew ?_ | with_reducible refine Ext.alloc ?_ _ | with_reducible refine Ext.setCell ?_ (by first | (simp; done) | (simp; omega) | omega) _ | with_reducible refine Ext.trans ?_ (by with_reducible assumption)))) hn).mono ?_; rw [hm]; rintro e w1 ⟨rfl, hx1⟩)
    have hx2 : Ext w w1 := ((Ext.refl w).alloc _).trans hx1
    have ho1 : (w.alloc (Obj.cells #[] 3)).ownsRow w.heap.size 3 1 (.slice (some ⟨w.heap.size, 0, none⟩) 0 0) ((needU ms 1).map (Value.int .i64)).length ((needU ms 1).map (Value.int .i64)) := World.ownsRow_lit w #[] 0 (Nat.le_refl _) (by decide) (by decide)
    have ho2 := own_kept ho1 hx1
    clear ho1
    clear h
    go_loopw [4, 5] (fun v i wr => ∃ k : Nat, 1 ≤ k ∧ k ≤ max (ms.length - 1) 1 ∧ i = .int .i64 k ∧ Ext w wr ∧ wr.ownsRow w.heap.size 3 1 v ((needU ms k).map (Value.int .i64)).length ((needU ms k).map (Value.int .i64))) (fun _ i _ => ms.length - (intOf i).toNat)
    case atStart => exact ⟨1, by omega, by omega, rfl, hx2, ho2⟩
    case round =>
      clear hx2 ho2 hx1
      obtain ⟨k, hk1, hk, rfl, hx, hown⟩ := hrel
      by_cases hlt : k + 1 < ms.length
      · have q0 := hv (k - 1) (by omega)
        have q1 := hv k (by omega)
        have q2 := hv (k + 1) (by omega)
        have q3 := hr k (by omega) (by omega)
        have q4 := hr (k + 1) (by omega) hlt
        rw [Nat.add_sub_cancel] at q4
        have d0 := hx.cells (hcell (k - 1) (by omega) 0 (by decide))
        have d1 := hx.cells (hcell (k - 1) (by omega) 1 (by decide))
        have d2 := hx.cells (hcell k (by omega) 0 (by decide))
        have d3 := hx.cells (hcell k (by omega) 1 (by decide))
        have d4 := hx.cells (hcell (k + 1) hlt 0 (by decide))
        have d5 := hx.cells (hcell (k + 1) hlt 1 (by decide))
        simp only [Mark.c0, Mark.c1, Nat.add_zero] at d0 d1 d2 d3 d4 d5
        have hbw : b < wr.heap.size := World.block_lt_of_cell? _ _ d0
        have hbw1 : b < wr.heap.size + 1 := by omega
        have hbw2 : b < wr.heap.size + 1 + 1 := by omega
        have m1 := nd_small (a := (nth ms k).real - (nth ms (k - 1)).real) (b := (nth ms (k + 1)).shown - (nth ms (k - 1)).shown) (by omega) (by omega) (by omega) (by omega)
        have m2 := nd_small (a := (nth ms (k + 1)).real - (nth ms (k - 1)).real) (b := (nth ms k).shown - (nth ms (k - 1)).shown) (by omega) (by omega) (by omega) (by omega)
        have hlen := needU_len ms k
        clear hcell hv hr
        go_wp2
        go_cut [6, 7, 8] (fun va vx vb wc => Ext wr wc ∧ ∃ ba bx bb : Nat, va = .pointer (some ⟨ba, 0, none⟩) ∧ vx = .pointer (some ⟨bx, 0, none⟩) ∧ vb = .pointer (some ⟨bb, 0, none⟩) ∧
          wc.cell? ⟨ba, 0, none⟩ = some (.int .i64 (nth ms (k - 1)).shown) ∧ wc.cell? ⟨ba, 1, none⟩ = some (.int .i64 (nth ms (k - 1)).real) ∧
          wc.cell? ⟨bx, 0, none⟩ = some (.int .i64 (nth ms k).shown) ∧ wc.cell? ⟨bx, 1, none⟩ = some (.int .i64 (nth ms k).real) ∧
          wc.cell? ⟨bb, 0, none⟩ = some (.int .i64 (nth ms (k + 1)).shown) ∧ wc.cell? ⟨bb, 1, none⟩ = some (.int .i64 (nth ms (k + 1)).real))
        case first =>
          go_region
          all_goals
            go_wp2_with fail
            go_meet
            exact ⟨(by repeat (first | (with_reducible exact Ext.refl _) | (with_reducible assumption) | with_reducible refine Ext.drew ?_ | with_reducible refine Ext.alloc ?_ _ | with_reducible refine Ext.setCell ?_ (by first | (simp; done) | (simp; omega) | omega) _ | with_reducible refine Ext.trans ?_ (by with_reducible assumption))), _, _, _, rfl, rfl, rfl, by go_simp, by go_simp, by go_simp, by go_simp, by go_simp, by go_simp⟩
        case rest =>
          obtain ⟨hxc, ba, bx, bb, rfl, rfl, rfl, c0, c1, c2, c3, c4, c5⟩ := hcut
          have hownc := own_kept hown hxc
          have hxw := hx.trans hxc
          clear hown hx hxc d0 d1 d2 d3 d4 d5 hbw hbw1 hbw2
          by_cases hT : (((nth ms k).real - (nth ms (k - 1)).real) * ((nth ms (k + 1)).shown - (nth ms (k - 1)).shown) == ((nth ms (k + 1)).real - (nth ms (k - 1)).real) * ((nth ms k).shown - (nth ms (k - 1)).shown)) = true
          · have hnx : needU ms (k + 1) = needU ms k ++ [(k : Int)] := by rw [needU, if_pos (by simp only [ndB, hT, Bool.and_true, decide_eq_true_eq]; exact hk1)]
            have HN := Lib.hid hnx; clear hnx
            go_wp2_with (at_builtin; refine wpList_append_own _ rfl _ _ 48 rfl w.heap.size 3 i0 (.int .i64 0) 1 8 Try.underlying48 hi hz0 hz1 hz2 rfl (by decide) _ _ _ rfl (hownc.alloc _) ⟨wc.heap.size, 0, none⟩ 1 1 [.int .i64 (k : Int)] rfl rfl (by intro j u hj; match j, hj with | 0, hj => simp at hj; subst hj; simp [Addr.add]) (by intro u hu; simp at hu; subst hu; rfl) (by simp only [List.length_map]; unfold maxLen; omega) (by simp only [List.length_map]; omega) (by have := hxw.size; simp; omega) ?_; intro v' w2 hown2 hgrow2 _)
            have hE := own_ext (hxw.alloc _) (hownc.alloc _) hgrow2
            have hO : w2.ownsRow w.heap.size 3 1 v' ((needU ms (k + 1)).map (Value.int .i64)).length ((needU ms (k + 1)).map (Value.int .i64)) := by rw [HN.out]; simpa using hown2
            clear hown2 hgrow2 hownc hxw
            go_wp2
            go_roundw
            case rel => exact ⟨k + 1, by omega, by omega, by go_num, hE, hO⟩
            case measure => simp [intOf]; omega
          · have hnx : needU ms (k + 1) = needU ms k := by rw [needU, if_neg (by simp only [ndB, Bool.and_eq_true]; exact fun h => hT h.2)]
            have hT' : (((nth ms k).real - (nth ms (k - 1)).real) * ((nth ms (k + 1)).shown - (nth ms (k - 1)).shown) == ((nth ms (k + 1)).real - (nth ms (k - 1)).real) * ((nth ms k).shown - (nth ms (k - 1)).shown)) = false := by simpa using hT
            have hO := hownc
            rw [← hnx] at hO
            clear hnx hT
            go_wp2
            go_roundw
            case rel => exact ⟨k + 1, by omega, by omega, by go_num, hxw, hO⟩
            case measure => simp [intOf]; omega
      · have hkm : k = max (ms.length - 1) 1 := by omega
        have HK := Lib.hid hkm; clear hkm
        obtain ⟨bo, bc, rfl, hF⟩ := own_fresh (c := ic (needU ms k)) hown (by rw [List.length_map]; exact own_ints)
        rw [List.length_map] at hF ⊢
        clear hown hcell hv hr
        go_wp2
        go_ret2
        rw [← HK.out]
        exact ⟨bo, bc, rfl, (by repeat (first | (with_reducible exact Ext.refl _) | (with_reducible assumption) | with_reducible refine Ext.drew ?_ | with_reducible refine Ext.alloc ?_ _ | with_reducible refine Ext.setCell ?_ (by first | (simp; done) | (simp; omega) | omega) _ | with_reducible refine Ext.trans ?_ (by with_reducible assumption))), hF⟩
  · have hfin : nmL ms = [] := by simp [nmL, hm]
    rw [hfin]
    have hm' : marksB ms = false := by simpa using hm
    have ho1 : (w.alloc (Obj.cells #[] 3)).ownsRow w.heap.size 3 1 (.slice (some ⟨w.heap.size, 0, none⟩) 0 0) 0 [] := World.ownsRow_lit w #[] 0 (Nat.le_refl _) (by decide) (by decide)
    obtain ⟨bo, bc, hbv, hF⟩ := own_fresh (c := ic []) ho1 (fun k j hk => by omega)
    simp only [Value.slice.injEq, true_and] at hbv
    obtain ⟨rfl, rfl⟩ := hbv
    go_enter Try.func50, Try.ntmps50
    go_wp2_with (go_at_call 51; refine (spec_l13Marks (h.ext (by repeat (first | (with_reducible exact Ext.refl _) | (with_reducible assumption) | with_reducible refine Ext.drew ?_ | with_reducible refine Ext.alloc ?_ _ | with_reducible refine Ext.setCell ?_ (by first | (simp; done) | (simp; omega) | omega) _ | with_reducible refine Ext.trans ?_ (by with_reducible assumption)))) hn).mono ?_; rw [hm']; rintro e w1 ⟨rfl, hx1⟩)
    go_ret2
    rw [hm']
    exact ⟨_, _, rfl, (by repeat (first | (with_reducible exact Ext.refl _) | (with_reducible assumption) | with_reducible refine Ext.drew ?_ | with_reducible refine Ext.alloc ?_ _ | with_reducible refine Ext.setCell ?_ (by first | (simp; done) | (simp; omega) | omega) _ | with_reducible refine Ext.trans ?_ (by with_reducible assumption))), hF.ext hx1⟩

end Go.Proofs.Ytfbmablfolknpaa
