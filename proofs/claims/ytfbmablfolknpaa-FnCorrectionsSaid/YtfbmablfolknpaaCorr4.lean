/-
  Proved here: what OrderTrouble and its reference return.
  Conditions: the lengths fit.
-/
import Derived.Test.YtfbmablfolknpaaCorr2
import Derived.Test.YtfbmablfolknpaaInts
namespace Go.Proofs.Ytfbmablfolknpaa
open Go.RowKit

/-- the places among the first at which a time goes back -/
def otU (L : List Pch) : Nat → List Int
  | 0 => []
  | k + 1 => if 0 < k ∧ (nth L k).time < (nth L (k - 1)).time then otU L k ++ [(k : Int)] else otU L k
def otL (c : CardD) (code : Int) (ms : List Mark) : List Int := if corA c code ms then otU (corL c code ms c.ps.length) c.ps.length else []
theorem otU_len (L : List Pch) (k : Nat) : (otU L k).length ≤ k := by
  induction k with
  | zero => simp [otU]
  | succ k ih => rw [otU]; split <;> (try simp) <;> omega
theorem otU_one (L : List Pch) : otU L 1 = [] := by simp [otU]
theorem otL_len (c : CardD) (code : Int) (ms : List Mark) : (otL c code ms).length ≤ 12 := by
  unfold otL
  split
  · rename_i h
    simp only [corA, Bool.and_eq_true] at h
    have := card_len h.1.1
    have := otU_len (corL c code ms c.ps.length) c.ps.length
    omega
  · simp

set_option maxRecDepth 100000 in
set_option maxHeartbeats 4000000 in
theorem impl_OrderTrouble {c : CardD} {ad : Addr} {cap : Nat} {code : Int} {ms : List Mark} {mo : Option Addr} {mcap : Nat} {w : World} (h : RowAt w (some ad) 2 c.ps.length (fun k => (nth c.ps k).c)) (hn : c.ps.length ≤ cap ∧ cap ≤ 9223372036854775807)
    (h' : RowAt w mo 2 ms.length (fun k => (nth ms k).c)) (hn' : ms.length ≤ 1048576) :
    Calls Try.prog 24 #[c.val (some ad) cap, .int .i64 code, .slice mo ms.length mcap] w fun e w' => ∃ go gc, e = .returned (.tuple #[.slice go (otL c code ms).length gc, .bool (corA c code ms)]) ∧ Ext w w' ∧ FreshAt w.heap.size w' go 1 (otL c code ms).length (ic (otL c code ms)) := by
  obtain ⟨i0, hi, hz0, hz1, hz2⟩ := info_parts infoInt
  have H := fun x hx => impl_IsCard (w := x) (ao := some ad) (cap := cap) (h.ext hx) (by omega)
  have HM := fun x hx => impl_AreClockMarks (w := x) (ao := mo) (cap := mcap) (h'.ext hx) (by omega)
  have zero : corA c code ms = false → otL c code ms = [] := fun hA => by simp [otL, hA]
  cases hb : cardB c
  · have hA : corA c code ms = false := by simp [corA, hb]
    rw [zero hA, hA]
    rw [hb] at H
    clear hA zero hb
    unfold CardD.val at H ⊢
    go_enter Try.func24, Try.ntmps24
    go_wp2_with fail
    refine (H _ (by repeat (first | (with_reducible exact Ext.refl _) | (with_reducible assumption) | with_reducible refine Ext.drew ?_ | with_reducible refine Ext.alloc ?_ _ | with_reducible refine Ext.setCell ?_ (by first | (simp; done) | (simp; omega) | omega) _ | with_reducible refine Ext.trans ?_ (by with_reducible assumption)))).mono ?_; rintro e w1 ⟨rfl, hx1⟩
    have hx01 : Ext w w1 := (by repeat (first | (with_reducible exact Ext.refl _) | (with_reducible assumption) | with_reducible refine Ext.drew ?_ | with_reducible refine Ext.alloc ?_ _ | with_reducible refine Ext.setCell ?_ (by first | (simp; done) | (simp; omega) | omega) _ | with_reducible refine Ext.trans ?_ (by with_reducible assumption)))
    obtain ⟨q0, q1, q2, q3⟩ := Box4.of hx1
    have zq : w.heap.size < w1.heap.size := World.block_lt_of_cell? _ _ q0
    clear hx1
    go_wp2
    go_ret2
    first
      | exact ⟨none, 0, rfl, (by repeat (first | (with_reducible exact Ext.refl _) | (with_reducible assumption) | with_reducible refine Ext.drew ?_ | with_reducible refine Ext.alloc ?_ _ | with_reducible refine Ext.setCell ?_ (by first | (simp; done) | (simp; omega) | omega) _ | with_reducible refine Ext.trans ?_ (by with_reducible assumption))), fresh_nil⟩
      | exact ⟨none, ⟨0, rfl⟩, (by repeat (first | (with_reducible exact Ext.refl _) | (with_reducible assumption) | with_reducible refine Ext.drew ?_ | with_reducible refine Ext.alloc ?_ _ | with_reducible refine Ext.setCell ?_ (by first | (simp; done) | (simp; omega) | omega) _ | with_reducible refine Ext.trans ?_ (by with_reducible assumption))), fresh_nil⟩
  · rw [hb] at H
    cases hcd : inB code 31 99
    · have hA : corA c code ms = false := by simp [corA, hcd]
      rw [zero hA, hA]
      clear hA zero hb
      unfold CardD.val at H ⊢
      go_enter Try.func24, Try.ntmps24
      go_wp2_with fail
      refine (H _ (by repeat (first | (with_reducible exact Ext.refl _) | (with_reducible assumption) | with_reducible refine Ext.drew ?_ | with_reducible refine Ext.alloc ?_ _ | with_reducible refine Ext.setCell ?_ (by first | (simp; done) | (simp; omega) | omega) _ | with_reducible refine Ext.trans ?_ (by with_reducible assumption)))).mono ?_; rintro e w1 ⟨rfl, hx1⟩
      have hx01 : Ext w w1 := (by repeat (first | (with_reducible exact Ext.refl _) | (with_reducible assumption) | with_reducible refine Ext.drew ?_ | with_reducible refine Ext.alloc ?_ _ | with_reducible refine Ext.setCell ?_ (by first | (simp; done) | (simp; omega) | omega) _ | with_reducible refine Ext.trans ?_ (by with_reducible assumption)))
      obtain ⟨q0, q1, q2, q3⟩ := Box4.of hx1
      have zq : w.heap.size < w1.heap.size := World.block_lt_of_cell? _ _ q0
      clear hx1
      go_wp2_with fail
      refine impl_isCode.mono ?_; rintro e w2 ⟨rfl, rfl⟩
      rw [hcd]
      clear hcd
      go_wp2
      go_ret2
      first
        | exact ⟨none, 0, rfl, (by repeat (first | (with_reducible exact Ext.refl _) | (with_reducible assumption) | with_reducible refine Ext.drew ?_ | with_reducible refine Ext.alloc ?_ _ | with_reducible refine Ext.setCell ?_ (by first | (simp; done) | (simp; omega) | omega) _ | with_reducible refine Ext.trans ?_ (by with_reducible assumption))), fresh_nil⟩
        | exact ⟨none, ⟨0, rfl⟩, (by repeat (first | (with_reducible exact Ext.refl _) | (with_reducible assumption) | with_reducible refine Ext.drew ?_ | with_reducible refine Ext.alloc ?_ _ | with_reducible refine Ext.setCell ?_ (by first | (simp; done) | (simp; omega) | omega) _ | with_reducible refine Ext.trans ?_ (by with_reducible assumption))), fresh_nil⟩
    · cases hm : marksB ms
      · have hA : corA c code ms = false := by simp [corA, hm]
        rw [zero hA, hA]
        rw [hm] at HM
        clear hA zero hb hm
        unfold CardD.val at H ⊢
        go_enter Try.func24, Try.ntmps24
        go_wp2_with fail
        refine (H _ (by repeat (first | (with_reducible exact Ext.refl _) | (with_reducible assumption) | with_reducible refine Ext.drew ?_ | with_reducible refine Ext.alloc ?_ _ | with_reducible refine Ext.setCell ?_ (by first | (simp; done) | (simp; omega) | omega) _ | with_reducible refine Ext.trans ?_ (by with_reducible assumption)))).mono ?_; rintro e w1 ⟨rfl, hx1⟩
        have hx01 : Ext w w1 := (by repeat (first | (with_reducible exact Ext.refl _) | (with_reducible assumption) | with_reducible refine Ext.drew ?_ | with_reducible refine Ext.alloc ?_ _ | with_reducible refine Ext.setCell ?_ (by first | (simp; done) | (simp; omega) | omega) _ | with_reducible refine Ext.trans ?_ (by with_reducible assumption)))
        obtain ⟨q0, q1, q2, q3⟩ := Box4.of hx1
        have zq : w.heap.size < w1.heap.size := World.block_lt_of_cell? _ _ q0
        clear hx1
        go_wp2_with fail
        refine impl_isCode.mono ?_; rintro e w2 ⟨rfl, rfl⟩
        rw [hcd]
        clear hcd
        go_wp2_with fail
        refine (HM _ hx01).mono ?_; rintro e w3 ⟨rfl, hx3⟩
        clear q0 q1 q2 q3
        go_wp2
        go_ret2
        first
          | exact ⟨none, 0, rfl, (by repeat (first | (with_reducible exact Ext.refl _) | (with_reducible assumption) | with_reducible refine Ext.drew ?_ | with_reducible refine Ext.alloc ?_ _ | with_reducible refine Ext.setCell ?_ (by first | (simp; done) | (simp; omega) | omega) _ | with_reducible refine Ext.trans ?_ (by with_reducible assumption))), fresh_nil⟩
          | exact ⟨none, ⟨0, rfl⟩, (by repeat (first | (with_reducible exact Ext.refl _) | (with_reducible assumption) | with_reducible refine Ext.drew ?_ | with_reducible refine Ext.alloc ?_ _ | with_reducible refine Ext.setCell ?_ (by first | (simp; done) | (simp; omega) | omega) _ | with_reducible refine Ext.trans ?_ (by with_reducible assumption))), fresh_nil⟩
      · have hA : corA c code ms = true := by simp [corA, hb, hcd, hm]
        have HC := fun x hx => impl_corrected (w := x) (ao := some ad) (cap := cap) (code := code) (mo := mo) (mcap := mcap) (h.ext hx) hb (h'.ext hx) hm
        have h12 := card_len hb
        rw [show otL c code ms = otU (corL c code ms c.ps.length) c.ps.length by simp [otL, hA], hA]
        rw [hm] at HM
        simp only [corL_len] at HC
        generalize corL c code ms c.ps.length = L at *
        clear hA zero hb hm
        unfold CardD.val at H HC ⊢
        go_enter Try.func24, Try.ntmps24
        go_wp2_with fail
        refine (H _ (by repeat (first | (with_reducible exact Ext.refl _) | (with_reducible assumption) | with_reducible refine Ext.drew ?_ | with_reducible refine Ext.alloc ?_ _ | with_reducible refine Ext.setCell ?_ (by first | (simp; done) | (simp; omega) | omega) _ | with_reducible refine Ext.trans ?_ (by with_reducible assumption)))).mono ?_; rintro e w1 ⟨rfl, hx1⟩
        have hx01 : Ext w w1 := (by repeat (first | (with_reducible exact Ext.refl _) | (with_reducible assumption) | with_reducible refine Ext.drew ?_ | with_reducible refine Ext.alloc ?_ _ | with_reducible refine Ext.setCell ?_ (by first | (simp; done) | (simp; omega) | omega) _ | with_reducible refine Ext.trans ?_ (by with_reducible assumption)))
        obtain ⟨q0, q1, q2, q3⟩ := Box4.of hx1
        have zq : w.heap.size < w1.heap.size := World.block_lt_of_cell? _ _ q0
        clear hx1
        go_wp2_with fail
        refine impl_isCode.mono ?_; rintro e w2 ⟨rfl, rfl⟩
        rw [hcd]
        clear hcd
        go_wp2_with fail
        refine (HM _ hx01).mono ?_; rintro e w3 ⟨rfl, hx3⟩
        obtain ⟨q0, q1, q2, q3⟩ := Box4.ext ⟨q0, q1, q2, q3⟩ hx3
        replace zq : w.heap.size < w3.heap.size := World.block_lt_of_cell? _ _ q0
        replace hx01 := hx01.trans hx3
        go_wp2_with fail
        refine (HC _ hx01).mono ?_; rintro e w4 ⟨po, pc, rfl, hx4, hF⟩
        replace hx01 := hx01.trans hx4
        have hrF := hF.row
        have hown0 := Owns.start (α := Int) (e := 3) (s := 1) (cc := icc) (Ext.refl w4)
        clear H HM HC hF hx3 hx4 q0 q1 q2 q3 zq h h'
        obtain ⟨wb, hwb⟩ : ∃ wb, wb = w4 := ⟨_, rfl⟩
        go_wp2
        rw [← hwb]
        rw [← hwb] at hx01 hrF hown0
        clear hwb
        have hrW := hrF
        replace hrF := hrF.ext ((Ext.refl wb).alloc (.cells #[] 3))
        go_loopw [10, 11] (fun out i wr => ∃ k : Nat, 1 ≤ k ∧ k ≤ max c.ps.length 1 ∧ i = .int .i64 k ∧ Ext wb wr ∧ Owns wr wb.heap.size 3 1 icc out (otU L k) ∧ RowAt wr po 2 c.ps.length (fun j => (nth L j).c)) (fun _ i _ => c.ps.length - (intOf i).toNat)
        case atStart => exact ⟨1, by omega, by omega, rfl, (by repeat (first | (with_reducible exact Ext.refl _) | (with_reducible assumption) | with_reducible refine Ext.drew ?_ | with_reducible refine Ext.alloc ?_ _ | with_reducible refine Ext.setCell ?_ (by first | (simp; done) | (simp; omega) | omega) _ | with_reducible refine Ext.trans ?_ (by with_reducible assumption))), by rw [otU_one]; exact hown0, hrF⟩
        case round =>
          clear hown0
          clear hrF
          obtain ⟨k, hk1, hk, rfl, hx, hown, hrF⟩ := hrel
          have hlen := otU_len L k
          by_cases hlt : k < c.ps.length
          · obtain ⟨b, off, rfl, hcell⟩ := hrF (by omega)
            have d1 := hcell k hlt 1 (by decide)
            have d2 := hcell (k - 1) (by omega) 1 (by decide)
            simp only [Pch.c1] at d1 d2
            have dl := World.block_lt_of_cell? _ _ d1
            have g1 := Grow.cells d1
            have g2 := Grow.cells d2
            by_cases hback : (nth L k).time < (nth L (k - 1)).time
            · have hnx : otU L (k + 1) = otU L k ++ [(k : Int)] := by rw [otU, if_pos ⟨by omega, hback⟩]
              have HN := Lib.hid hnx; clear hnx hcell
              have hrow2 := fun x => row_lit (w := x) (cs := #[.int .i64 (k : Int)]) (T := 3) (s := 1) (cc := icc) (x := (k : Int)) (by intro j hj; obtain rfl : j = 0 := (by omega); rfl)
              go_wp2
              refine wp_region_ext (by kernel_rfl) (by kernel_rfl) ?_
              repeat (go_big_quiet_step (fail))
              refine wpQuiet_nil ?_
              rintro _ ⟨⟨w1, hx1⟩, rfl⟩
              clear g1 g2
              rename_i w1
              have hown2 := hown.kept hx1
              have hxw := hx.trans hx1
              have hrF2 := hrF.ext hx1
              go_wp2_with (at_builtin; refine wpList_append_bf rfl _ _ 48 rfl 3 i0 _ 1 8 Try.underlying48 hi hz0 hz1 hz2 rfl (by decide) icc icc_one wb.heap.size (Nat.le_trans hxw.size (by simp)) _ (otU L k) [(k : Int)] (otU L (k + 1)) HN rfl (hown2.ext' ((Ext.refl _).alloc _)) ⟨w1.heap.size, 0, none⟩ 1 1 rfl rfl (hrow2 _) (by simp; omega) (by simp; omega) ?_; intro go1 gc1 w3 ho1 hb3 hg3 hv3; have hx3 : Ext wb w3 := Ext.below (hxw.alloc _) hb3 (Nat.le_refl _); have hrF3 := hrW.ext hx3; clear hb3 hg3 hv3)
              go_wp2
              go_roundw
              case rel => exact ⟨k + 1, by omega, by omega, by go_num, hx3, ho1, hrF3⟩
              case measure => simp [intOf]; omega
            · have hnx : otU L (k + 1) = otU L k := by rw [otU, if_neg (fun h => hback h.2)]
              have HN := Lib.hid hnx; clear hnx hcell
              have hback' : decide ((nth L k).time < (nth L (k - 1)).time) = false := by simpa using hback
              go_wp2
              refine wp_region_ext (by kernel_rfl) (by kernel_rfl) ?_
              repeat (go_big_quiet_step (fail))
              refine wpQuiet_nil ?_
              rintro _ ⟨⟨w1, hx1⟩, rfl⟩
              clear g1 g2
              rename_i w1
              go_wp2
              go_roundw
              case rel => exact ⟨k + 1, by omega, by omega, by go_num, hx.trans hx1, by rw [HN.out]; exact hown.kept hx1, hrF.ext hx1⟩
              case measure => simp [intOf]; omega
          · have hend : otU L k = otU L c.ps.length := by
              by_cases h0 : c.ps.length = 0
              · have : k = 1 := by omega
                rw [this, otU_one, h0]; rfl
              · have : k = c.ps.length := by omega
                rw [this]
            obtain ⟨go', gc', rfl, hFo, _, _, _⟩ := hown.fresh
            have HK := Lib.hid hend; clear hend
            go_wp2
            go_ret2
            rw [← HK.out]
            first
              | exact ⟨go', gc', rfl, hx01.trans hx, hFo.mono hx01.size⟩
              | exact ⟨go', ⟨gc', rfl⟩, hx01.trans hx, hFo.mono hx01.size⟩

set_option maxRecDepth 100000 in
set_option maxHeartbeats 4000000 in
theorem spec_OrderTrouble {c : CardD} {ad : Addr} {cap : Nat} {code : Int} {ms : List Mark} {mo : Option Addr} {mcap : Nat} {w : World} (h : RowAt w (some ad) 2 c.ps.length (fun k => (nth c.ps k).c)) (hn : c.ps.length ≤ cap ∧ cap ≤ 9223372036854775807)
    (h' : RowAt w mo 2 ms.length (fun k => (nth ms k).c)) (hn' : ms.length ≤ 1048576) :
    Calls Try.prog 23 #[c.val (some ad) cap, .int .i64 code, .slice mo ms.length mcap] w fun e w' => ∃ go gc, e = .returned (.tuple #[.slice go (otL c code ms).length gc, .bool (corA c code ms)]) ∧ Ext w w' ∧ FreshAt w.heap.size w' go 1 (otL c code ms).length (ic (otL c code ms)) := by
  obtain ⟨i0, hi, hz0, hz1, hz2⟩ := info_parts infoInt
  have H := fun x hx => spec_l13Card (w := x) (ad := ad) (cap := cap) (code := code) (mo := mo) (mcap := mcap) (h.ext hx) (by omega) (h'.ext hx) (by omega)
  cases hA : corA c code ms
  · rw [show otL c code ms = [] by simp [otL, hA]]
    rw [hA] at H
    clear hA
    unfold CardD.val at H ⊢
    go_enter Try.func23, Try.ntmps23
    go_wp2_with fail
    refine (H _ (by repeat (first | (with_reducible exact Ext.refl _) | (with_reducible assumption) | with_reducible refine Ext.drew ?_ | with_reducible refine Ext.alloc ?_ _ | with_reducible refine Ext.setCell ?_ (by first | (simp; done) | (simp; omega) | omega) _ | with_reducible refine Ext.trans ?_ (by with_reducible assumption)))).mono ?_; rintro e w1 ⟨rfl, hx1⟩
    have hx01 : Ext w w1 := (by repeat (first | (with_reducible exact Ext.refl _) | (with_reducible assumption) | with_reducible refine Ext.drew ?_ | with_reducible refine Ext.alloc ?_ _ | with_reducible refine Ext.setCell ?_ (by first | (simp; done) | (simp; omega) | omega) _ | with_reducible refine Ext.trans ?_ (by with_reducible assumption)))
    have ho := Owns.early (α := Int) (e := 3) (s := 1) (cc := icc) (Ext.refl (w.alloc (Obj.cells #[.int .i64 c.number, .int .i64 c.start, .int .i64 c.finish, .slice (some ad) c.ps.length cap] 41))) hx1
    rw [World.size_alloc] at ho
    clear hx1
    go_wp2
    go_ret2
    first
      | exact ⟨_, _, rfl, hx01, ho.fresh0.mono (by omega)⟩
      | exact ⟨_, ⟨_, rfl⟩, hx01, ho.fresh0.mono (by omega)⟩
  · rw [hA] at H
    have hA2 := hA
    simp only [corA, Bool.and_eq_true] at hA2
    have HC := fun x hx => spec_l13Correct (w := x) (ad := ad) (cap := cap) (code := code) (mo := mo) (mcap := mcap) (h.ext hx) hA2.1.1 hn.1 (h'.ext hx) hA2.2
    have h12 := card_len hA2.1.1
    rw [show otL c code ms = otU (corL c code ms c.ps.length) c.ps.length by simp [otL, hA]]
    simp only [corL_len] at HC
    generalize corL c code ms c.ps.length = L at *
    clear hA hA2
    unfold CardD.val at H HC ⊢
    go_enter Try.func23, Try.ntmps23
    go_wp2_with fail
    refine (H _ (by repeat (first | (with_reducible exact Ext.refl _) | (with_reducible assumption) | with_reducible refine Ext.drew ?_ | with_reducible refine Ext.alloc ?_ _ | with_reducible refine Ext.setCell ?_ (by first | (simp; done) | (simp; omega) | omega) _ | with_reducible refine Ext.trans ?_ (by with_reducible assumption)))).mono ?_; rintro e w1 ⟨rfl, hx1⟩
    have hxa : Ext (w.alloc (Obj.cells #[.int .i64 c.number, .int .i64 c.start, .int .i64 c.finish, .slice (some ad) c.ps.length cap] 41)) w1 := (by repeat (first | (with_reducible exact Ext.refl _) | (with_reducible assumption) | with_reducible refine Ext.drew ?_ | with_reducible refine Ext.alloc ?_ _ | with_reducible refine Ext.setCell ?_ (by first | (simp; done) | (simp; omega) | omega) _ | with_reducible refine Ext.trans ?_ (by with_reducible assumption)))
    obtain ⟨q0, q1, q2, q3⟩ := Box4.of hxa
    have zq : w.heap.size < w1.heap.size := World.block_lt_of_cell? _ _ q0
    have hx01 : Ext w w1 := (by repeat (first | (with_reducible exact Ext.refl _) | (with_reducible assumption) | with_reducible refine Ext.drew ?_ | with_reducible refine Ext.alloc ?_ _ | with_reducible refine Ext.setCell ?_ (by first | (simp; done) | (simp; omega) | omega) _ | with_reducible refine Ext.trans ?_ (by with_reducible assumption)))
    go_wp2_with fail
    refine (HC _ hx01).mono ?_; rintro e w4 ⟨po, pc, rfl, hx4, hF⟩
    have hx14 := hx1.trans hx4
    have hxb : Ext (w.alloc (Obj.cells #[.int .i64 c.number, .int .i64 c.start, .int .i64 c.finish, .slice (some ad) c.ps.length cap] 41)) w4 := hxa.trans hx4
    have hown0 := Owns.early (α := Int) (e := 3) (s := 1) (cc := icc) (Ext.refl (w.alloc (Obj.cells #[.int .i64 c.number, .int .i64 c.start, .int .i64 c.finish, .slice (some ad) c.ps.length cap] 41))) hx14
    have hwa := hx1.size
    rw [World.size_alloc, World.size_alloc] at hwa
    have hF' := hF.mono hwa
    have hap0 := Apart.new hF' (v := .slice (some ⟨w.heap.size + 1, 0, none⟩) 0 0) (by simpa using early_block)
    have hrF := hF.row
    have hx0 : Ext w (w.alloc (Obj.cells #[.int .i64 c.number, .int .i64 c.start, .int .i64 c.finish, .slice (some ad) c.ps.length cap] 41)) := (Ext.refl _).alloc _
    have hwl2 : (w.alloc (Obj.cells #[.int .i64 c.number, .int .i64 c.start, .int .i64 c.finish, .slice (some ad) c.ps.length cap] 41)).heap.size = w.heap.size + 1 := by simp
    rw [World.size_alloc] at hown0
    obtain ⟨wb, hwb⟩ : ∃ wb, wb = (w.alloc (Obj.cells #[.int .i64 c.number, .int .i64 c.start, .int .i64 c.finish, .slice (some ad) c.ps.length cap] 41)) := ⟨_, rfl⟩
    rw [← hwb] at hxb hx0 hwl2
    rw [← hwl2] at hown0 hap0
    have hfd : ∀ x : World, (Instr.field 41 (.agg #[.int .i64 c.number, .int .i64 c.start, .int .i64 c.finish, .slice po c.ps.length pc]) 3).run Try.prog x = .ok (.slice po c.ps.length pc) x := fun x => by kernel_rfl
    clear H HC hF hF' hx1 hx4 hx14 hxa hx01 q0 q1 q2 q3 zq h h' hwb hwa
    go_wp2
    clear hfd
    rw [← hwl2]
    clear hwl2
    go_loopw [8, 10] (fun out i wr => ∃ k : Nat, 1 ≤ k ∧ k ≤ max c.ps.length 1 ∧ i = .int .i64 k ∧ Ext wb wr ∧ Owns wr wb.heap.size 3 1 icc out (otU L k) ∧ RowAt wr po 2 c.ps.length (fun j => (nth L j).c) ∧ Apart wr po out) (fun _ i _ => c.ps.length - (intOf i).toNat)
    case atStart => exact ⟨1, by omega, by omega, rfl, hxb, by rw [otU_one]; exact hown0, hrF, hap0⟩
    case round =>
      clear hown0 hap0 hrF hxb
      obtain ⟨k, hk1, hk, rfl, hx, hown, hrF, hap⟩ := hrel
      have hlen := otU_len L k
      by_cases hlt : k < c.ps.length
      · obtain ⟨b, off, rfl, hcell⟩ := hrF (by omega)
        have d1 := hcell k hlt 1 (by decide)
        have d2 := hcell (k - 1) (by omega) 1 (by decide)
        simp only [Pch.c1] at d1 d2
        have dl := World.block_lt_of_cell? _ _ d1
        have g1 := Grow.cells d1
        have g2 := Grow.cells d2
        by_cases hback : (nth L k).time < (nth L (k - 1)).time
        · have hnx : otU L (k + 1) = otU L k ++ [(k : Int)] := by rw [otU, if_pos ⟨by omega, hback⟩]
          have HN := Lib.hid hnx; clear hnx hcell
          have hrow2 := fun x => row_lit (w := x) (cs := #[.int .i64 (k : Int)]) (T := 3) (s := 1) (cc := icc) (x := (k : Int)) (by intro j hj; obtain rfl : j = 0 := (by omega); rfl)
          go_wp2
          refine wp_region_ext (by kernel_rfl) (by kernel_rfl) ?_
          repeat (go_big_quiet_step (fail))
          refine wpQuiet_nil ?_
          rintro _ ⟨⟨w1, hx1⟩, rfl⟩
          clear g1 g2
          rename_i w1
          have hown2 := hown.kept hx1
          have hxw := hx.trans hx1
          have hrF2 := hrF.ext hx1
          have hap2 := fun o => (hap.ext hx1).ext ((Ext.refl w1).alloc o)
          have hrF2a := fun o => hrF2.ext ((Ext.refl w1).alloc o)
          go_wp2_with (at_builtin; refine wpList_append_form rfl _ _ 48 rfl wb 3 i0 _ 1 8 Try.underlying48 hi hz0 hz1 hz2 rfl (by decide) icc icc_one _ (otU L k) [(k : Int)] (otU L (k + 1)) HN rfl (hown2.kept ((Ext.refl _).alloc _)) ⟨w1.heap.size, 0, none⟩ 1 1 rfl rfl (hrow2 _) (by simp; omega) (by simp; omega) (hxw.alloc _) ?_; intro go1 gc1 w3 ho1 hx3 hg3 hv3; have hap3 := (hap2 _).append hg3 hv3; have hrF3 := (hap2 _).row (by decide) (hrF2a _) hg3; clear hg3 hv3)
          go_wp2
          go_roundw
          case rel => exact ⟨k + 1, by omega, by omega, by go_num, hx3, ho1, hrF3, hap3⟩
          case measure => simp [intOf]; omega
        · have hnx : otU L (k + 1) = otU L k := by rw [otU, if_neg (fun h => hback h.2)]
          have HN := Lib.hid hnx; clear hnx hcell
          have hback' : decide ((nth L k).time < (nth L (k - 1)).time) = false := by simpa using hback
          go_wp2
          refine wp_region_ext (by kernel_rfl) (by kernel_rfl) ?_
          repeat (go_big_quiet_step (fail))
          refine wpQuiet_nil ?_
          rintro _ ⟨⟨w1, hx1⟩, rfl⟩
          clear g1 g2
          rename_i w1
          go_wp2
          go_roundw
          case rel => exact ⟨k + 1, by omega, by omega, by go_num, hx.trans hx1, by rw [HN.out]; exact hown.kept hx1, hrF.ext hx1, hap.ext hx1⟩
          case measure => simp [intOf]; omega
      · have hend : otU L k = otU L c.ps.length := by
          by_cases h0 : c.ps.length = 0
          · have : k = 1 := by omega
            rw [this, otU_one, h0]; rfl
          · have : k = c.ps.length := by omega
            rw [this]
        obtain ⟨go', gc', rfl, hFo, _, _, _⟩ := hown.fresh
        have HK := Lib.hid hend; clear hend
        go_wp2
        go_ret2
        rw [← HK.out]
        first
          | exact ⟨go', gc', rfl, hx0.trans hx, hFo.mono hx0.size⟩
          | exact ⟨go', ⟨gc', rfl⟩, hx0.trans hx, hFo.mono hx0.size⟩

end Go.Proofs.Ytfbmablfolknpaa
