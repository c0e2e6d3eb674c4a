/-
  Proved here: what DropWeak and its reference return.
  Conditions: no more than 1048576 proofs; a nil slice has no capacity.
-/
import Derived.Test.YtfnjoinkfghalaaDelProof
import Derived.Test.YtfnjoinkfghalaaProof7
namespace Go.Proofs.Ytfnjoinkfghalaa
open Go.RowKit

def weakB (least : Int) (x : Prf) : Bool := decide (x.weight < least)
def drpB (xs : List Prf) (least : Int) : Bool := prfsB xs && inB least 1 10
def drpL (xs : List Prf) (least : Int) : List Prf := if drpB xs least then keptL (weakB least) xs else []
theorem drpL_len (xs : List Prf) (least : Int) : (drpL xs least).length ≤ xs.length := by
  unfold drpL
  split
  · exact List.length_filter_le _ _
  · simp

theorem impl_DropWeak_1 {r c k t least : Int} {a : Bool} {b : Nat} {w : World} (hq : w.cell? ⟨b, 0, none⟩ = some (.int .i64 least)) :
    Calls Try.prog 83 #[.agg #[.int .i64 r, .int .i64 c, .int .i64 k, .int .i64 t, .bool a], .pointer (some ⟨b, 0, none⟩)] w fun e w' => e = .returned (.bool (weakB least ⟨r, c, k, t, a⟩)) ∧ Ext w w' := by
  have hb : b < w.heap.size := World.block_lt_of_cell? _ _ hq
  go_enter Try.func83, Try.ntmps83
  go_wp2
  go_ret
  exact ⟨rfl, (by repeat (first | (with_reducible exact Ext.refl _) | (with_reducible assumption) | with_reducible refine Ext.drew ?_ | with_reducible refine Ext.alloc ?_ _ | with_reducible refine Ext.setCell ?_ (by first | (simp; done) | (simp; omega) | omega) _ | with_reducible refine Ext.trans ?_ (by with_reducible assumption)))⟩

set_option maxRecDepth 100000 in
set_option maxHeartbeats 2000000 in
theorem impl_DropWeak {ao : Option Addr} {cap : Nat} {ms : List Prf} {l : Int} {w : World} (h : RowAt w ao 5 ms.length (fun k => (nth ms k).c)) (hn : ms.length ≤ 9223372036854775807) (_hl : I64 l) (hs : ms.length ≤ 1048576) (hnil : ao = none → cap = 0) :
    Calls Try.prog 34 #[.slice ao ms.length cap, .int .i64 l] w fun e w' => ∃ bo bc, e = .returned (.tuple #[.slice bo (drpL ms l).length bc, .bool (drpB ms l)]) ∧ Ext w w' ∧ FreshAt w.heap.size w' bo 5 (drpL ms l).length (fun k => (nth (drpL ms l) k).c) := by
  obtain ⟨i0, hi, hz0, hz1, hz2⟩ := info_parts infoPrf
  cases hv : prfsB ms
  · have hB : drpB ms l = false := by simp [drpB, hv]
    have hL : drpL ms l = [] := by simp [drpL, hB]
    rw [hB, hL]; clear hB hL
    go_enter Try.func34, Try.ntmps34
    go_wp2_with fail
    refine (impl_AreProofs (h.ext (by repeat (first | (with_reducible exact Ext.refl _) | (with_reducible assumption) | with_reducible refine Ext.drew ?_ | with_reducible refine Ext.alloc ?_ _ | with_reducible refine Ext.setCell ?_ (by first | (simp; done) | (simp; omega) | omega) _ | with_reducible refine Ext.trans ?_ (by with_reducible assumption)))) hn).mono ?_; rw [hv]; rintro e w1 ⟨rfl, hx1⟩
    go_wp2
    go_ret2
    exact ⟨none, 0, rfl, (by repeat (first | (with_reducible exact Ext.refl _) | (with_reducible assumption) | with_reducible refine Ext.drew ?_ | with_reducible refine Ext.alloc ?_ _ | with_reducible refine Ext.setCell ?_ (by first | (simp; done) | (simp; omega) | omega) _ | with_reducible refine Ext.trans ?_ (by with_reducible assumption))), ⟨fun h => by simp at h, fun a e => (by cases e), fun b off e => (by cases e)⟩⟩
  · cases hl : inB l 1 10
    · have hB : drpB ms l = false := by simp [drpB, hl]
      have hL : drpL ms l = [] := by simp [drpL, hB]
      rw [hB, hL]; clear hB hL
      go_enter Try.func34, Try.ntmps34
      go_wp2_with fail
      refine (impl_AreProofs (h.ext (by repeat (first | (with_reducible exact Ext.refl _) | (with_reducible assumption) | with_reducible refine Ext.drew ?_ | with_reducible refine Ext.alloc ?_ _ | with_reducible refine Ext.setCell ?_ (by first | (simp; done) | (simp; omega) | omega) _ | with_reducible refine Ext.trans ?_ (by with_reducible assumption)))) hn).mono ?_; rw [hv]; rintro e w1 ⟨rfl, hx1⟩
      have d0 : w1.cell? ⟨w.heap.size, 0, none⟩ = some (.int .i64 l) := hx1.cells (by go_simp)
      go_wp2_with fail
      refine impl_isWeight.mono ?_; rw [hl]; rintro e w2 ⟨rfl, rfl⟩
      go_wp2
      go_ret2
      exact ⟨none, 0, rfl, (by repeat (first | (with_reducible exact Ext.refl _) | (with_reducible assumption) | with_reducible refine Ext.drew ?_ | with_reducible refine Ext.alloc ?_ _ | with_reducible refine Ext.setCell ?_ (by first | (simp; done) | (simp; omega) | omega) _ | with_reducible refine Ext.trans ?_ (by with_reducible assumption))), ⟨fun h => by simp at h, fun a e => (by cases e), fun b off e => (by cases e)⟩⟩
    · have hB : drpB ms l = true := by simp [drpB, hv, hl]
      have hL : drpL ms l = keptL (weakB l) ms := by simp [drpL, hB]
      rw [hB, hL]; clear hB hL
      have hw0 : Ext w (w.alloc (Obj.cells #[.int .i64 l] 3)) := (Ext.refl _).alloc _
      go_enter Try.func34, Try.ntmps34
      go_wp2_with fail
      refine (impl_AreProofs (h.ext (by repeat (first | (with_reducible exact Ext.refl _) | (with_reducible assumption) | with_reducible refine Ext.drew ?_ | with_reducible refine Ext.alloc ?_ _ | with_reducible refine Ext.setCell ?_ (by first | (simp; done) | (simp; omega) | omega) _ | with_reducible refine Ext.trans ?_ (by with_reducible assumption)))) hn).mono ?_; rw [hv]; rintro e w1 ⟨rfl, hx1⟩
      have d0 : w1.cell? ⟨w.heap.size, 0, none⟩ = some (.int .i64 l) := hx1.cells (by go_simp)
      have hst := Owns.start (e := 45) (s := 5) (cc := Prf.c) hx1
      go_wp2_with fail
      refine impl_isWeight.mono ?_; rw [hl]; rintro e w2 ⟨rfl, rfl⟩
      have hr1 := h.ext (hw0.trans hx1)
      go_wp2_with (at_builtin; refine wpList_append_rows rfl _ _ 27 rfl (w.alloc (Obj.cells #[.int .i64 l] 3)) 45 i0 _ 5 40 Try.underlying27 hi hz0 hz1 hz2 rfl (by decide) Prf.c prf_one _ [] ms rfl hst ao ms.length cap rfl rfl hnil (hr1.ext ((Ext.refl _).alloc _)) (by simp; omega) (by simp; omega) (hx1.alloc _) ?_; intro v1 w3 ho1 hx3; rw [List.nil_append] at ho1; have HO := Lib.hid ho1.form; clear ho1 hst hnil hr1)
      have hcl : w3.cell? ⟨w.heap.size, 0, none⟩ = some (.int .i64 l) := hx3.cells (by go_simp)
      have hxw := hw0.trans hx3
      have hsz : (w.alloc (Obj.cells #[.int .i64 l] 3)).heap.size = w.heap.size + 1 := by simp
      rcases HO.out with ⟨hv1, hmz⟩ | ⟨g, c1, hv1, hlc, hcm, hF⟩
      · have hK : keptL (weakB l) ms = [] := by rw [hmz]; rfl
        have HK := Lib.hid hK
        rw [hv1]
        clear HO hv1 hK hmz
        refine deleteFunc_nil_Proof.mono ?_; rintro e w4 ⟨rfl, hx4⟩
        go_wp2
        go_ret2
        exact ⟨none, 0, by rw [HK.out]; rfl, (by repeat (first | (with_reducible exact Ext.refl _) | (with_reducible assumption) | with_reducible refine Ext.drew ?_ | with_reducible refine Ext.alloc ?_ _ | with_reducible refine Ext.setCell ?_ (by first | (simp; done) | (simp; omega) | omega) _ | with_reducible refine Ext.trans ?_ (by with_reducible assumption))), by rw [HK.out]; exact ⟨fun h => by simp at h, fun a e => (by cases e), fun b off e => (by cases e)⟩⟩
      · have hb := hF.base _ rfl
        simp only at hb
        rw [hsz] at hb
        have hdel := deleteFunc_Proof (p := weakB l) (caps := #[.pointer (some ⟨w.heap.size, 0, none⟩)]) hF (by omega) hlc hcm (entersF_of Try.func83 (by kernel_rfl) rfl) (fun r c k t a w' hg => impl_DropWeak_1 ((grown_cell hg (by omega) (fun e => by injection e with e; omega)).trans hcl))
        rw [hv1]
        clear HO hv1 d0
        refine hdel.mono ?_; rintro e w4 ⟨rfl, hg4, hF4⟩
        have hxe := grown_ext hxw hg4 (fun k e => by injection e with e; omega)
        clear hdel hg4 hcl hxw hx3 hx1 hw0
        go_wp2
        go_ret2
        exact ⟨_, _, rfl, (by repeat (first | (with_reducible exact Ext.refl _) | (with_reducible assumption) | with_reducible refine Ext.drew ?_ | with_reducible refine Ext.alloc ?_ _ | with_reducible refine Ext.setCell ?_ (by first | (simp; done) | (simp; omega) | omega) _ | with_reducible refine Ext.trans ?_ (by with_reducible assumption))), hF4.mono (by omega)⟩

set_option maxRecDepth 100000 in
set_option maxHeartbeats 2000000 in
theorem spec_DropWeak {ao : Option Addr} {cap : Nat} {ms : List Prf} {l : Int} {w : World} (h : RowAt w ao 5 ms.length (fun k => (nth ms k).c)) (hn : ms.length ≤ 9223372036854775807) (_hl : I64 l) (hs : ms.length ≤ 1048576) (_hnil : ao = none → cap = 0) :
    Calls Try.prog 35 #[.slice ao ms.length cap, .int .i64 l] w fun e w' => ∃ bo bc, e = .returned (.tuple #[.slice bo (drpL ms l).length bc, .bool (drpB ms l)]) ∧ Ext w w' ∧ FreshAt w.heap.size w' bo 5 (drpL ms l).length (fun k => (nth (drpL ms l) k).c) := by
  obtain ⟨i0, hi, hz0, hz1, hz2⟩ := info_parts infoPrf
  have hst : Owns (w.alloc (.cells #[] 45)) w.heap.size 45 5 Prf.c (.slice (some ⟨w.heap.size, 0, none⟩) 0 0) ([] : List Prf) := Owns.start (Ext.refl _)
  cases hv : prfsB ms
  · have hB : drpB ms l = false := by simp [drpB, hv]
    have hL : drpL ms l = [] := by simp [drpL, hB]
    rw [hB, hL]; clear hB hL
    go_enter Try.func35, Try.ntmps35
    go_wp2_with fail
    refine (spec_l14Good (h.ext (by repeat (first | (with_reducible exact Ext.refl _) | (with_reducible assumption) | with_reducible refine Ext.drew ?_ | with_reducible refine Ext.alloc ?_ _ | with_reducible refine Ext.setCell ?_ (by first | (simp; done) | (simp; omega) | omega) _ | with_reducible refine Ext.trans ?_ (by with_reducible assumption)))) hn).mono ?_; rw [hv]; rintro e w1 ⟨rfl, hx1⟩
    go_wp2
    go_ret2
    exact ⟨_, _, rfl, (by repeat (first | (with_reducible exact Ext.refl _) | (with_reducible assumption) | with_reducible refine Ext.drew ?_ | with_reducible refine Ext.alloc ?_ _ | with_reducible refine Ext.setCell ?_ (by first | (simp; done) | (simp; omega) | omega) _ | with_reducible refine Ext.trans ?_ (by with_reducible assumption))), (hst.kept hx1).fresh0⟩
  · cases hl : inB l 1 10
    · have hB : drpB ms l = false := by simp [drpB, hl]
      have hL : drpL ms l = [] := by simp [drpL, hB]
      rw [hB, hL]; clear hB hL
      go_enter Try.func35, Try.ntmps35
      go_wp2_with fail
      refine (spec_l14Good (h.ext (by repeat (first | (with_reducible exact Ext.refl _) | (with_reducible assumption) | with_reducible refine Ext.drew ?_ | with_reducible refine Ext.alloc ?_ _ | with_reducible refine Ext.setCell ?_ (by first | (simp; done) | (simp; omega) | omega) _ | with_reducible refine Ext.trans ?_ (by with_reducible assumption)))) hn).mono ?_; rw [hv]; rintro e w1 ⟨rfl, hx1⟩
      go_wp2_with fail
      refine spec_l1In.mono ?_; rw [hl]; rintro e w2 ⟨rfl, rfl⟩
      go_wp2
      go_ret2
      exact ⟨_, _, rfl, (by repeat (first | (with_reducible exact Ext.refl _) | (with_reducible assumption) | with_reducible refine Ext.drew ?_ | with_reducible refine Ext.alloc ?_ _ | with_reducible refine Ext.setCell ?_ (by first | (simp; done) | (simp; omega) | omega) _ | with_reducible refine Ext.trans ?_ (by with_reducible assumption))), (hst.kept hx1).fresh0⟩
    · have hB : drpB ms l = true := by simp [drpB, hv, hl]
      have hL : drpL ms l = keptL (weakB l) ms := by simp [drpL, hB]
      rw [hB, hL]; clear hB hL
      go_enter Try.func35, Try.ntmps35
      go_wp2_with fail
      refine (spec_l14Good (h.ext (by repeat (first | (with_reducible exact Ext.refl _) | (with_reducible assumption) | with_reducible refine Ext.drew ?_ | with_reducible refine Ext.alloc ?_ _ | with_reducible refine Ext.setCell ?_ (by first | (simp; done) | (simp; omega) | omega) _ | with_reducible refine Ext.trans ?_ (by with_reducible assumption)))) hn).mono ?_; rw [hv]; rintro e w1 ⟨rfl, hx1⟩
      go_wp2_with fail
      refine spec_l1In.mono ?_; rw [hl]; rintro e w2 ⟨rfl, rfl⟩
      go_wp2
      go_loopw [6, 7] (fun v i wr => ∃ k : Nat, k ≤ ms.length ∧ i = .int .i64 k ∧ Ext w wr ∧ Owns wr w.heap.size 45 5 Prf.c v (keptL (weakB l) (ms.take k))) (fun _ i _ => ms.length - (intOf i).toNat)
      case atStart => exact ⟨0, by omega, rfl, (by repeat (first | (with_reducible exact Ext.refl _) | (with_reducible assumption) | with_reducible refine Ext.drew ?_ | with_reducible refine Ext.alloc ?_ _ | with_reducible refine Ext.setCell ?_ (by first | (simp; done) | (simp; omega) | omega) _ | with_reducible refine Ext.trans ?_ (by with_reducible assumption))), hst.kept hx1⟩
      case round =>
        clear hx1 hst hv hl
        obtain ⟨k, hk, rfl, hx, hown⟩ := hrel
        by_cases hlt : k < ms.length
        · obtain ⟨b, off, rfl, hcell⟩ := h (by omega)
          have d0 := hx.cells (hcell k hlt 0 (by decide))
          have d1 := hx.cells (hcell k hlt 1 (by decide))
          have d2 := hx.cells (hcell k hlt 2 (by decide))
          have d3 := hx.cells (hcell k hlt 3 (by decide))
          have d4 := hx.cells (hcell k hlt 4 (by decide))
          simp only [Prf.c0, Prf.c1, Prf.c2, Prf.c3, Prf.c4, Nat.add_zero] at d0 d1 d2 d3 d4
          have hlen : (keptL (weakB l) (ms.take k)).length ≤ k := Nat.le_trans (List.length_filter_le _ _) (List.length_take_le _ _)
          clear hcell h
          by_cases hw : l ≤ (nth ms k).weight
          · have hnx : keptL (weakB l) (ms.take (k + 1)) = keptL (weakB l) (ms.take k) ++ [nth ms k] := by
              rw [take_succ_nth hlt]; simp [keptL, weakB]; omega
            have HN := Lib.hid hnx; clear hnx
            have hrow2 := fun x => row_lit (w := x) (cs := #[.int .i64 (nth ms k).runner, .int .i64 (nth ms k).code, .int .i64 (nth ms k).kind, .int .i64 (nth ms k).weight, .bool (nth ms k).against]) (T := 45) (s := 5) (cc := Prf.c) (x := nth ms k) (by intro j hj; match j, hj with | 0, _ => rfl | 1, _ => rfl | 2, _ => rfl | 3, _ => rfl | 4, _ => rfl)
            go_wp2_with (at_builtin; refine wpList_append_rows rfl _ _ 27 rfl w 45 i0 _ 5 40 Try.underlying27 hi hz0 hz1 hz2 rfl (by decide) Prf.c prf_one _ (keptL (weakB l) (ms.take k)) [nth ms k] rfl (hown.kept ((Ext.refl _).alloc _)) (some ⟨wr.heap.size, 0, none⟩) 1 1 rfl rfl (fun h => by cases h) (hrow2 _) (by simp; omega) (by simp; omega) (hx.alloc _) ?_; intro v1 w3 ho1 hx3)
            rw [← HN.out] at ho1
            go_wp2
            go_roundw
            case rel => exact ⟨k + 1, by omega, by go_num, (by repeat (first | (with_reducible exact Ext.refl _) | (with_reducible assumption) | with_reducible refine Ext.drew ?_ | with_reducible refine Ext.alloc ?_ _ | with_reducible refine Ext.setCell ?_ (by first | (simp; done) | (simp; omega) | omega) _ | with_reducible refine Ext.trans ?_ (by with_reducible assumption))), ho1⟩
            case measure => simp [intOf]; omega
          · have hnx : keptL (weakB l) (ms.take (k + 1)) = keptL (weakB l) (ms.take k) := by
              rw [take_succ_nth hlt]; simp [keptL, weakB]; omega
            have HN := Lib.hid hnx; clear hnx
            go_wp2
            go_roundw
            case rel => exact ⟨k + 1, by omega, by go_num, (by repeat (first | (with_reducible exact Ext.refl _) | (with_reducible assumption) | with_reducible refine Ext.drew ?_ | with_reducible refine Ext.alloc ?_ _ | with_reducible refine Ext.setCell ?_ (by first | (simp; done) | (simp; omega) | omega) _ | with_reducible refine Ext.trans ?_ (by with_reducible assumption))), by rw [HN.out]; exact hown⟩
            case measure => simp [intOf]; omega
        · obtain rfl : k = ms.length := by omega
          rw [List.take_length] at hown
          obtain ⟨bo, bc, rfl, hF, _, _, _⟩ := hown.fresh
          go_wp2
          go_ret2
          exact ⟨bo, bc, rfl, (by repeat (first | (with_reducible exact Ext.refl _) | (with_reducible assumption) | with_reducible refine Ext.drew ?_ | with_reducible refine Ext.alloc ?_ _ | with_reducible refine Ext.setCell ?_ (by first | (simp; done) | (simp; omega) | omega) _ | with_reducible refine Ext.trans ?_ (by with_reducible assumption))), hF⟩

end Go.Proofs.Ytfnjoinkfghalaa
