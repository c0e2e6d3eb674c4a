/-
  Proved here: what IsMap, isCell, isOpen and their references return.
  Conditions: the lengths fit an int.
-/
import Derived.Test.YtidcfohlhamgmaaTMap
import Derived.Test.YtidcfohlhamgmaaIdxInts
namespace Go.Proofs.Ytidcfohlhamgmaa
open Go.RowKit

def riseB (m : MapD) : Bool := upto (fun k => inB (nth m.rise k) 0 9) m.rise.length
def costB (m : MapD) : Bool := upto (fun k => inB (nth m.cost k) 0 9) m.cost.length
def sizeB (m : MapD) : Bool := inB m.wid 1 6 && inB m.hei 1 6 && decide ((m.rise.length : Int) = m.wid * m.hei) && decide (m.cost.length = m.rise.length)
def mapB (m : MapD) : Bool := sizeB m && riseB m && costB m
def cellB (m : MapD) (x : Int) : Bool := mapB m && inB x 0 ((m.cost.length : Int) - 1)
def openB (m : MapD) (x : Int) : Bool := cellB m x && decide (0 < nth m.cost x.toNat)

theorem size_bd {a b : Int} (ha : inB a 1 6 = true) (hb : inB b 1 6 = true) : 1 ≤ a * b ∧ a * b ≤ 36 := by
  rw [inB_iff] at ha hb
  constructor
  · have := Int.mul_le_mul ha.1 hb.1 (by decide) (by omega)
    simpa using this
  · have := Int.mul_le_mul ha.2 hb.2 (by omega) (by decide)
    simpa using this
theorem map_len {m : MapD} (h : mapB m = true) : m.cost.length = m.rise.length ∧ 1 ≤ m.cost.length ∧ m.cost.length ≤ 36 ∧ (m.cost.length : Int) = m.wid * m.hei ∧ 1 ≤ m.wid ∧ m.wid ≤ 6 ∧ 1 ≤ m.hei ∧ m.hei ≤ 6 := by
  simp only [mapB, sizeB, Bool.and_eq_true, decide_eq_true_eq] at h
  obtain ⟨⟨⟨⟨⟨h1, h2⟩, h3⟩, h4⟩, _⟩, _⟩ := h
  have h5 := size_bd h1 h2
  rw [inB_iff] at h1 h2
  rw [← h3] at h5
  rw [← h4] at h5 h3
  omega

theorem impl_IsMap_1 {a : Int} {w : World} :
    Calls Try.prog 127 #[.int .i64 a] w fun e w' => e = .returned (.bool (!inB a 0 9)) ∧ Ext w w' := by
  go_enter Try.func127, Try.ntmps127
  go_wp2_with (go_at_call 83; refine (impl_inside).mono ?_; rintro e w1 ⟨rfl, rfl⟩)
  go_ret
  exact ⟨rfl, (by repeat (first | (with_reducible exact Ext.refl _) | (with_reducible assumption) | with_reducible refine Ext.drew ?_ | with_reducible refine Ext.alloc ?_ _ | with_reducible refine Ext.setCell ?_ (by first | (simp; done) | (simp; omega) | omega) _ | with_reducible refine Ext.trans ?_ (by with_reducible assumption)))⟩
theorem impl_IsMap_2 {a : Int} {w : World} :
    Calls Try.prog 128 #[.int .i64 a] w fun e w' => e = .returned (.bool (!inB a 0 9)) ∧ Ext w w' := by
  go_enter Try.func128, Try.ntmps128
  go_wp2_with (go_at_call 83; refine (impl_inside).mono ?_; rintro e w1 ⟨rfl, rfl⟩)
  go_ret
  exact ⟨rfl, (by repeat (first | (with_reducible exact Ext.refl _) | (with_reducible assumption) | with_reducible refine Ext.drew ?_ | with_reducible refine Ext.alloc ?_ _ | with_reducible refine Ext.setCell ?_ (by first | (simp; done) | (simp; omega) | omega) _ | with_reducible refine Ext.trans ?_ (by with_reducible assumption)))⟩

set_option maxRecDepth 100000 in
set_option maxHeartbeats 2000000 in
theorem impl_IsMap {m : MapD} {ao bo : Option Addr} {ac bc : Nat} {w : World} (hr : RowAt w ao 1 m.rise.length (ic m.rise)) (ht : RowAt w bo 1 m.cost.length (ic m.cost)) (hn : m.rise.length ≤ 9223372036854775807) (hn' : m.cost.length ≤ 9223372036854775807) :
    Calls Try.prog 116 #[m.val ao ac bo bc] w fun e w' => e = .returned (.bool (mapB m)) ∧ Ext w w' := by
  have H1 := fun x hx => containsFunc_Int (w := x) (cap := ac) (caps := #[]) (p := fun x => !inB x 0 9) (hr.ext hx) hn (entersF_of Try.func127 (by kernel_rfl) rfl) (fun a w' _ => impl_IsMap_1)
  have H2 := fun x hx => containsFunc_Int (w := x) (cap := bc) (caps := #[]) (p := fun x => !inB x 0 9) (ht.ext hx) hn' (entersF_of Try.func128 (by kernel_rfl) rfl) (fun a w' _ => impl_IsMap_2)
  simp only [Bool.not_not] at H1 H2
  have e1 : upto (fun k => inB (nth m.rise k) 0 9) m.rise.length = riseB m := rfl
  have e2 : upto (fun k => inB (nth m.cost k) 0 9) m.cost.length = costB m := rfl
  rw [e1] at H1
  rw [e2] at H2
  clear e1 e2
  unfold MapD.val
  cases hw : inB m.wid 1 6
  · have hfin : mapB m = false := by simp [mapB, sizeB, hw]
    rw [hfin]; clear hfin
    go_enter Try.func116, Try.ntmps116
    go_wp2_with fail
    refine impl_inside.mono ?_; rintro e w1 ⟨rfl, rfl⟩
    rw [hw]
    go_wp2
    go_ret
    exact ⟨rfl, (by repeat (first | (with_reducible exact Ext.refl _) | (with_reducible assumption) | with_reducible refine Ext.drew ?_ | with_reducible refine Ext.alloc ?_ _ | with_reducible refine Ext.setCell ?_ (by first | (simp; done) | (simp; omega) | omega) _ | with_reducible refine Ext.trans ?_ (by with_reducible assumption)))⟩
  · cases hh : inB m.hei 1 6
    · have hfin : mapB m = false := by simp [mapB, sizeB, hh]
      rw [hfin]; clear hfin
      go_enter Try.func116, Try.ntmps116
      go_wp2_with fail
      refine impl_inside.mono ?_; rintro e w1 ⟨rfl, rfl⟩
      rw [hw]
      go_wp2_with fail
      refine impl_inside.mono ?_; rintro e w1 ⟨rfl, rfl⟩
      rw [hh]
      go_wp2
      go_ret
      exact ⟨rfl, (by repeat (first | (with_reducible exact Ext.refl _) | (with_reducible assumption) | with_reducible refine Ext.drew ?_ | with_reducible refine Ext.alloc ?_ _ | with_reducible refine Ext.setCell ?_ (by first | (simp; done) | (simp; omega) | omega) _ | with_reducible refine Ext.trans ?_ (by with_reducible assumption)))⟩
    · have hP := size_bd hw hh
      have hPw : IntKind.i64.wrap (m.wid * m.hei) = m.wid * m.hei := IntWalk.i64_in _ (by omega)
      have hPw2 : wrap64 (m.wid * m.hei) = m.wid * m.hei := IntWalk.wrap64_in _ (by omega)
      by_cases h3 : (m.rise.length : Int) = m.wid * m.hei
      · by_cases h4 : m.cost.length = m.rise.length
        · have hfin : mapB m = (riseB m && costB m) := by simp [mapB, sizeB, hw, hh, h3, h4]
          rw [hfin]
          have t3 : ((m.rise.length : Int) != m.wid * m.hei) = false := by simp [h3]
          have t4 : ((m.cost.length : Int) != (m.rise.length : Int)) = false := by simp [h4]
          clear hfin h3 h4 hPw
          cases hA : riseB m
          · rw [hA] at H1
            clear hA
            go_enter Try.func116, Try.ntmps116
            go_wp2_with fail
            refine impl_inside.mono ?_; rintro e w1 ⟨rfl, rfl⟩
            rw [hw]
            go_wp2_with fail
            refine impl_inside.mono ?_; rintro e w1 ⟨rfl, rfl⟩
            rw [hh]
            clear hw hh
            go_wp2_with fail
            refine (H1 _ (by repeat (first | (with_reducible exact Ext.refl _) | (with_reducible assumption) | with_reducible refine Ext.drew ?_ | with_reducible refine Ext.alloc ?_ _ | with_reducible refine Ext.setCell ?_ (by first | (simp; done) | (simp; omega) | omega) _ | with_reducible refine Ext.trans ?_ (by with_reducible assumption)))).mono ?_; rintro e w1 ⟨rfl, hx1⟩
            go_wp2
            go_ret
            exact ⟨rfl, (by repeat (first | (with_reducible exact Ext.refl _) | (with_reducible assumption) | with_reducible refine Ext.drew ?_ | with_reducible refine Ext.alloc ?_ _ | with_reducible refine Ext.setCell ?_ (by first | (simp; done) | (simp; omega) | omega) _ | with_reducible refine Ext.trans ?_ (by with_reducible assumption)))⟩
          · rw [hA] at H1
            clear hA
            go_enter Try.func116, Try.ntmps116
            go_wp2_with fail
            refine impl_inside.mono ?_; rintro e w1 ⟨rfl, rfl⟩
            rw [hw]
            go_wp2_with fail
            refine impl_inside.mono ?_; rintro e w1 ⟨rfl, rfl⟩
            rw [hh]
            clear hw hh
            go_wp2_with fail
            refine (H1 _ (by repeat (first | (with_reducible exact Ext.refl _) | (with_reducible assumption) | with_reducible refine Ext.drew ?_ | with_reducible refine Ext.alloc ?_ _ | with_reducible refine Ext.setCell ?_ (by first | (simp; done) | (simp; omega) | omega) _ | with_reducible refine Ext.trans ?_ (by with_reducible assumption)))).mono ?_; rintro e w1 ⟨rfl, hx1⟩
            have hx01 : Ext w w1 := (by repeat (first | (with_reducible exact Ext.refl _) | (with_reducible assumption) | with_reducible refine Ext.drew ?_ | with_reducible refine Ext.alloc ?_ _ | with_reducible refine Ext.setCell ?_ (by first | (simp; done) | (simp; omega) | omega) _ | with_reducible refine Ext.trans ?_ (by with_reducible assumption)))
            have hc1 := hx1.cellr
            have hz : w.heap.size < w1.heap.size := Nat.lt_of_lt_of_le (by simp) hx1.size
            go_wp2_with fail
            refine (H2 _ hx01).mono ?_; rintro e w2 ⟨rfl, hx2⟩
            clear hc1
            go_wp2
            go_ret
            exact ⟨by simp, (by repeat (first | (with_reducible exact Ext.refl _) | (with_reducible assumption) | with_reducible refine Ext.drew ?_ | with_reducible refine Ext.alloc ?_ _ | with_reducible refine Ext.setCell ?_ (by first | (simp; done) | (simp; omega) | omega) _ | with_reducible refine Ext.trans ?_ (by with_reducible assumption)))⟩
        · have hfin : mapB m = false := by simp [mapB, sizeB, h4]
          rw [hfin]
          have t3 : ((m.rise.length : Int) != m.wid * m.hei) = false := by simp [h3]
          have t4 : ((m.cost.length : Int) != (m.rise.length : Int)) = true := by simp; omega
          clear hfin h3 hPw
          go_enter Try.func116, Try.ntmps116
          go_wp2_with fail
          refine impl_inside.mono ?_; rintro e w1 ⟨rfl, rfl⟩
          rw [hw]
          go_wp2_with fail
          refine impl_inside.mono ?_; rintro e w1 ⟨rfl, rfl⟩
          rw [hh]
          clear hw hh
          go_wp2
          go_ret
          exact ⟨rfl, (by repeat (first | (with_reducible exact Ext.refl _) | (with_reducible assumption) | with_reducible refine Ext.drew ?_ | with_reducible refine Ext.alloc ?_ _ | with_reducible refine Ext.setCell ?_ (by first | (simp; done) | (simp; omega) | omega) _ | with_reducible refine Ext.trans ?_ (by with_reducible assumption)))⟩
      · have hfin : mapB m = false := by simp [mapB, sizeB, h3]
        rw [hfin]
        have t3 : ((m.rise.length : Int) != m.wid * m.hei) = true := by simpa using h3
        clear hfin hPw
        go_enter Try.func116, Try.ntmps116
        go_wp2_with fail
        refine impl_inside.mono ?_; rintro e w1 ⟨rfl, rfl⟩
        rw [hw]
        go_wp2_with fail
        refine impl_inside.mono ?_; rintro e w1 ⟨rfl, rfl⟩
        rw [hh]
        clear hw hh
        go_wp2
        go_ret
        exact ⟨rfl, (by repeat (first | (with_reducible exact Ext.refl _) | (with_reducible assumption) | with_reducible refine Ext.drew ?_ | with_reducible refine Ext.alloc ?_ _ | with_reducible refine Ext.setCell ?_ (by first | (simp; done) | (simp; omega) | omega) _ | with_reducible refine Ext.trans ?_ (by with_reducible assumption)))⟩

end Go.Proofs.Ytidcfohlhamgmaa
