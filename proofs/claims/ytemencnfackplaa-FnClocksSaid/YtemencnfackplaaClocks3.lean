/-
  Proved here: what DriftOf and its reference return.
  Conditions: the number of marks fits an int.
-/
import Derived.Test.YtemencnfackplaaClocks2
namespace Go.Proofs.Ytemencnfackplaa
open Go.RowKit

theorem absI_cast (x : Nat) : absI (x : Int) = x := by unfold absI; rw [if_neg (by omega)]

set_option maxHeartbeats 400000 in
theorem impl_gcdOf {x y : Nat} {w : World} (h0 : x ≤ 9223372036854775807) (h1 : y ≤ 9223372036854775807) :
    Calls Try.prog 51 #[.int .i64 x, .int .i64 y] w fun e w' => e = .returned (.int .i64 (Nat.gcd x y)) ∧ Ext w w' := by
  obtain ⟨G, hG⟩ : ∃ G, G = Nat.gcd x y := ⟨_, rfl⟩
  rw [← hG]
  have HG := Lib.hid hG; clear hG
  go_enter Try.func51, Try.ntmps51
  go_wp2_with (go_at_call 41; refine (impl_absOf (by omega) (by omega)).mono ?_; rw [absI_cast]; rintro e w1 ⟨rfl, rfl⟩)
  go_loopw [0, 1] (fun a b wr => ∃ p q : Nat, p ≤ 9223372036854775807 ∧ q ≤ 9223372036854775807 ∧ a = .int .i64 p ∧ b = .int .i64 q ∧ Nat.gcd p q = G ∧ Ext w wr) (fun _ b _ => (intOf b).toNat)
  case atStart => exact ⟨x, y, h0, h1, rfl, rfl, HG.out.symm, Ext.refl _⟩
  case round =>
    obtain ⟨p, q, hp, hq, rfl, rfl, hg, hx⟩ := hrel
    have HQ := Lib.hid hg; clear hg
    by_cases hz : q = 0
    · have hb : ((q : Int) != 0) = false := by simp [hz]
      have hpG : p = G := by have := HQ.out; rw [hz, Nat.gcd_zero_right] at this; exact this
      have HP := Lib.hid hpG; clear hpG
      have HZ := Lib.hid hz; clear hz
      go_wp2
      go_ret
      exact ⟨ret_i (by rw [HP.out]), (by repeat (first | (with_reducible exact Ext.refl _) | (with_reducible assumption) | with_reducible refine Ext.drew ?_ | with_reducible refine Ext.alloc ?_ _ | with_reducible refine Ext.setCell ?_ (by first | (simp; done) | (simp; omega) | omega) _ | with_reducible refine Ext.trans ?_ (by with_reducible assumption)))⟩
    · have hb : ((q : Int) != 0) = true := by simpa using hz
      have hlt : p % q < q := Nat.mod_lt _ (by omega)
      go_wp2
      refine wp_region_ext (by kernel_rfl) (by kernel_rfl) ?_
      repeat (go_big_quiet_step (fail))
      refine wpQuiet_nil ?_
      rintro _ ⟨⟨w1, hx1⟩, rfl⟩
      go_wp2
      have hgg : Nat.gcd q (p % q) = G := by rw [← HQ.out, Nat.gcd_comm q, ← Nat.gcd_rec, Nat.gcd_comm]
      refine ⟨⟨q, p % q, hq, by omega, rfl, by rw [Int.natCast_emod], hgg, (by repeat (first | (with_reducible exact Ext.refl _) | (with_reducible assumption) | with_reducible refine Ext.drew ?_ | with_reducible refine Ext.alloc ?_ _ | with_reducible refine Ext.setCell ?_ (by first | (simp; done) | (simp; omega) | omega) _ | with_reducible refine Ext.trans ?_ (by with_reducible assumption)))⟩, ?_⟩
      simp only [intOf]
      omega

theorem impl_lowestTerms {x y : Nat} {w : World} (h0 : x ≤ 9223372036854775807) (h1 : y ≤ 9223372036854775807) (hy : 0 < y) :
    Calls Try.prog 43 #[.int .i64 x, .int .i64 y] w fun e w' => e = .returned (.tuple #[.int .i64 ((x : Int) / (Nat.gcd x y : Nat)), .int .i64 ((y : Int) / (Nat.gcd x y : Nat))]) ∧ Ext w w' := by
  have hG : 0 < Nat.gcd x y := Nat.gcd_pos_of_pos_right _ hy
  have hGi : (0 : Int) < (Nat.gcd x y : Nat) := by omega
  have hGl : Nat.gcd x y ≤ y := Nat.gcd_le_right _ hy
  have hb : (((Nat.gcd x y : Nat) : Int) == 0) = false := by simp; omega
  go_enter Try.func43, Try.ntmps43
  go_wp2_with (go_at_call 51; refine (impl_gcdOf h0 h1).mono ?_; rintro e w1 ⟨rfl, hx1⟩)
  refine wp_region_ext (by kernel_rfl) (by kernel_rfl) ?_
  repeat (go_big_quiet_step (fail))
  refine wpQuiet_nil ?_
  rintro _ ⟨⟨w1, hx1⟩, rfl⟩
  go_wp2
  go_ret2
  exact ⟨ret_ii (wrap_div h0) (wrap_div h1), (by repeat (first | (with_reducible exact Ext.refl _) | (with_reducible assumption) | with_reducible refine Ext.drew ?_ | with_reducible refine Ext.alloc ?_ _ | with_reducible refine Ext.setCell ?_ (by first | (simp; done) | (simp; omega) | omega) _ | with_reducible refine Ext.trans ?_ (by with_reducible assumption)))⟩

set_option maxHeartbeats 400000 in
theorem spec_l13Reduce {x y : Nat} {w : World} (h0 : x ≤ 9223372036854775807) (h1 : y ≤ 9223372036854775807) (hy : 0 < y) :
    Calls Try.prog 44 #[.int .i64 x, .int .i64 y] w fun e w' => e = .returned (.tuple #[.int .i64 ((x : Int) / (Nat.gcd x y : Nat)), .int .i64 ((y : Int) / (Nat.gcd x y : Nat))]) ∧ Ext w w' := by
  obtain ⟨G, hG⟩ : ∃ G, G = Nat.gcd x y := ⟨_, rfl⟩
  have hG0 : 0 < G := by rw [hG]; exact Nat.gcd_pos_of_pos_right _ hy
  have hGl : G ≤ y := by rw [hG]; exact Nat.gcd_le_right _ hy
  rw [← hG]
  have HG := Lib.hid hG; clear hG
  go_enter Try.func44, Try.ntmps44
  go_wp2
  go_loopw [6, 7] (fun a b wr => ∃ p q : Nat, p ≤ 9223372036854775807 ∧ q ≤ 9223372036854775807 ∧ a = .int .i64 p ∧ b = .int .i64 q ∧ Nat.gcd p q = G ∧ Ext w wr) (fun _ b _ => (intOf b).toNat)
  case atStart => exact ⟨x, y, h0, h1, rfl, rfl, HG.out.symm, Ext.refl _⟩
  case round =>
    obtain ⟨p, q, hp, hq, rfl, rfl, hg, hx⟩ := hrel
    have HQ := Lib.hid hg; clear hg
    by_cases hz : q = 0
    · have hpG : p = G := by have := HQ.out; rw [hz, Nat.gcd_zero_right] at this; exact this
      subst hpG
      have hzz : ¬ (0 : Int) < (q : Int) := by omega
      have hGi : (0 : Int) < (p : Int) := by omega
      have HZ := Lib.hid hz; clear hz
      go_wp2
      refine wp_region_ext (by kernel_rfl) (by kernel_rfl) ?_
      repeat (go_big_quiet_step (fail))
      refine wpQuiet_nil ?_
      rintro _ ⟨⟨w1, hx1⟩, rfl⟩
      go_wp2
      go_ret2
      exact ⟨ret_ii (wrap_div h0) (wrap_div h1), (by repeat (first | (with_reducible exact Ext.refl _) | (with_reducible assumption) | with_reducible refine Ext.drew ?_ | with_reducible refine Ext.alloc ?_ _ | with_reducible refine Ext.setCell ?_ (by first | (simp; done) | (simp; omega) | omega) _ | with_reducible refine Ext.trans ?_ (by with_reducible assumption)))⟩
    · have hb : (0 : Int) < (q : Int) := by omega
      have hlt : p % q < q := Nat.mod_lt _ (by omega)
      go_wp2
      have hgg : Nat.gcd q (p % q) = G := by rw [← HQ.out, Nat.gcd_comm q, ← Nat.gcd_rec, Nat.gcd_comm]
      refine ⟨⟨q, p % q, hq, by omega, rfl, by rw [Int.natCast_emod], hgg, (by repeat (first | (with_reducible exact Ext.refl _) | (with_reducible assumption) | with_reducible refine Ext.drew ?_ | with_reducible refine Ext.alloc ?_ _ | with_reducible refine Ext.setCell ?_ (by first | (simp; done) | (simp; omega) | omega) _ | with_reducible refine Ext.trans ?_ (by with_reducible assumption)))⟩, ?_⟩
      simp only [intOf]
      omega

/-- the first and the last mark -/
def dNum (ms : List Mark) : Int := (nth ms (ms.length - 1)).real - (nth ms 0).real
def dDen (ms : List Mark) : Int := (nth ms (ms.length - 1)).shown - (nth ms 0).shown
/-- what both return -/
def gDrift (ms : List Mark) : Value :=
  if marksB ms && decide (2 ≤ ms.length) then .tuple #[.int .i64 (((dNum ms).toNat : Int) / (Nat.gcd (dNum ms).toNat (dDen ms).toNat : Nat)), .int .i64 (((dDen ms).toNat : Int) / (Nat.gcd (dNum ms).toNat (dDen ms).toNat : Nat)), .bool true]
  else .tuple #[.int .i64 0, .int .i64 0, .bool false]

theorem marksB_far {ms : List Mark} (h : marksB ms = true) : ∀ j, j < ms.length → ∀ i, i < j → (nth ms i).shown < (nth ms j).shown ∧ (nth ms i).real < (nth ms j).real := by
  intro j
  induction j with
  | zero => intro _ i hi; omega
  | succ j ih =>
    intro hj i hi
    have h1 := marksB_rises h (j + 1) (by omega) hj
    simp only [Nat.add_sub_cancel] at h1
    by_cases e : i = j
    · subst e; exact h1
    · have := ih (by omega) i (by omega)
      omega

set_option maxHeartbeats 1000000 in
theorem impl_DriftOf {ao : Option Addr} {cap : Nat} {ms : List Mark} {w : World} (h : RowAt w ao 2 ms.length (fun k => (nth ms k).c)) (hn : ms.length ≤ 9223372036854775807) :
    Calls Try.prog 27 #[.slice ao ms.length cap] w fun e w' => e = .returned (gDrift ms) ∧ Ext w w' := by
  by_cases hm : marksB ms = true
  · by_cases h2 : 2 ≤ ms.length
    · have hfin : gDrift ms = .tuple #[.int .i64 (((dNum ms).toNat : Int) / (Nat.gcd (dNum ms).toNat (dDen ms).toNat : Nat)), .int .i64 (((dDen ms).toNat : Int) / (Nat.gcd (dNum ms).toNat (dDen ms).toNat : Nat)), .bool true] := by simp [gDrift, hm, h2]
      rw [hfin]; clear hfin
      obtain ⟨hl1, hl2⟩ := marksB_len hm
      have hv0 := marksB_valid hm 0 (by omega)
      have hv1 := marksB_valid hm (ms.length - 1) (by omega)
      have hfar := marksB_far hm (ms.length - 1) (by omega) 0 (by omega)
      have hb1 : ((ms.length : Int) == 1) = false := by simp; omega
      obtain ⟨A, hA⟩ : ∃ A : Nat, (A : Int) = (nth ms (ms.length - 1)).real - (nth ms 0).real := ⟨((nth ms (ms.length - 1)).real - (nth ms 0).real).toNat, by omega⟩
      obtain ⟨C, hC⟩ : ∃ C : Nat, (C : Int) = (nth ms (ms.length - 1)).shown - (nth ms 0).shown := ⟨((nth ms (ms.length - 1)).shown - (nth ms 0).shown).toNat, by omega⟩
      have hA' : (dNum ms).toNat = A := by unfold dNum; omega
      have hC' : (dDen ms).toNat = C := by unfold dDen; omega
      rw [hA', hC']
      clear hA' hC'
      have hA1 : A ≤ 9223372036854775807 := by omega
      have hC1 : C ≤ 9223372036854775807 := by omega
      have hC2 : 0 < C := by omega
      obtain ⟨b, off, rfl, hcell⟩ := h (by omega)
      have HA := Lib.hid hA; clear hA
      have HC := Lib.hid hC; clear hC
      go_enter Try.func27, Try.ntmps27
      go_wp2_with fail
      refine (impl_AreClockMarks h hn).mono ?_; rintro e w1 ⟨rfl, hx1⟩
      have d0 := hx1.cells (hcell 0 (by omega) 0 (by decide))
      have d1 := hx1.cells (hcell 0 (by omega) 1 (by decide))
      have d2 := hx1.cells (hcell (ms.length - 1) (by omega) 0 (by decide))
      have d3 := hx1.cells (hcell (ms.length - 1) (by omega) 1 (by decide))
      rw [Mark.c0] at d0 d2
      rw [Mark.c1] at d1 d3
      simp only [Nat.zero_mul, Nat.add_zero] at d0 d1 d2 d3
      clear hcell h
      have hA := HA.out.symm
      have hC := HC.out.symm
      have d4 : (w1.alloc (Obj.cells #[.int .i64 (nth ms (ms.length - 1)).shown, .int .i64 (nth ms (ms.length - 1)).real] 30)).cell? ⟨w1.heap.size, 0, none⟩ = some (.int .i64 (nth ms (ms.length - 1)).shown) := by go_simp
      have d5 : (w1.alloc (Obj.cells #[.int .i64 (nth ms (ms.length - 1)).shown, .int .i64 (nth ms (ms.length - 1)).real] 30)).cell? ⟨w1.heap.size, 1, none⟩ = some (.int .i64 (nth ms (ms.length - 1)).real) := by go_simp
      have hx2 : Ext w1 (w1.alloc (Obj.cells #[.int .i64 (nth ms (ms.length - 1)).shown, .int .i64 (nth ms (ms.length - 1)).real] 30)) := (Ext.refl _).alloc _
      have g0 := Grow.cells (hx2.cells d0)
      have g1 := Grow.cells (hx2.cells d1)
      have g4 := Grow.cells d4
      have g5 := Grow.cells d5
      clear d0 d1 d4 d5
      go_wp2
      refine wp_region_ext (by kernel_rfl) (by kernel_rfl) ?_
      repeat (go_big_quiet_step ((go_at_call 43; exact Calls.ext_of (impl_lowestTerms hA1 hC1 hC2))))
      refine wpQuiet_nil ?_
      rintro _ ⟨⟨w1, hx1⟩, rfl⟩
      go_wp2
      go_ret3
      exact ⟨rfl, (by repeat (first | (with_reducible exact Ext.refl _) | (with_reducible assumption) | with_reducible refine Ext.drew ?_ | with_reducible refine Ext.alloc ?_ _ | with_reducible refine Ext.setCell ?_ (by first | (simp; done) | (simp; omega) | omega) _ | with_reducible refine Ext.trans ?_ (by with_reducible assumption)))⟩
    · have hfin : gDrift ms = .tuple #[.int .i64 0, .int .i64 0, .bool false] := by simp [gDrift, h2]
      rw [hfin]; clear hfin
      have hl := marksB_len hm
      have hb1 : ((ms.length : Int) == 1) = true := by simp; omega
      go_enter Try.func27, Try.ntmps27
      go_wp2_with fail
      refine (impl_AreClockMarks h hn).mono ?_; rintro e w1 ⟨rfl, hx1⟩
      go_wp2
      go_ret3
      exact ⟨rfl, (by repeat (first | (with_reducible exact Ext.refl _) | (with_reducible assumption) | with_reducible refine Ext.drew ?_ | with_reducible refine Ext.alloc ?_ _ | with_reducible refine Ext.setCell ?_ (by first | (simp; done) | (simp; omega) | omega) _ | with_reducible refine Ext.trans ?_ (by with_reducible assumption)))⟩
  · have hfin : gDrift ms = .tuple #[.int .i64 0, .int .i64 0, .bool false] := by simp [gDrift, hm]
    rw [hfin]; clear hfin
    go_enter Try.func27, Try.ntmps27
    go_wp2_with fail
    refine (impl_AreClockMarks h hn).mono ?_; rintro e w1 ⟨rfl, hx1⟩
    go_wp2
    go_ret3
    exact ⟨rfl, (by repeat (first | (with_reducible exact Ext.refl _) | (with_reducible assumption) | with_reducible refine Ext.drew ?_ | with_reducible refine Ext.alloc ?_ _ | with_reducible refine Ext.setCell ?_ (by first | (simp; done) | (simp; omega) | omega) _ | with_reducible refine Ext.trans ?_ (by with_reducible assumption)))⟩

set_option maxHeartbeats 1000000 in
theorem spec_DriftOf {ao : Option Addr} {cap : Nat} {ms : List Mark} {w : World} (h : RowAt w ao 2 ms.length (fun k => (nth ms k).c)) (hn : ms.length ≤ 9223372036854775807) :
    Calls Try.prog 28 #[.slice ao ms.length cap] w fun e w' => e = .returned (gDrift ms) ∧ Ext w w' := by
  by_cases hm : marksB ms = true
  · by_cases h2 : 2 ≤ ms.length
    · have hfin : gDrift ms = .tuple #[.int .i64 (((dNum ms).toNat : Int) / (Nat.gcd (dNum ms).toNat (dDen ms).toNat : Nat)), .int .i64 (((dDen ms).toNat : Int) / (Nat.gcd (dNum ms).toNat (dDen ms).toNat : Nat)), .bool true] := by simp [gDrift, hm, h2]
      rw [hfin]; clear hfin
      obtain ⟨hl1, hl2⟩ := marksB_len hm
      have hv0 := marksB_valid hm 0 (by omega)
      have hv1 := marksB_valid hm (ms.length - 1) (by omega)
      have hfar := marksB_far hm (ms.length - 1) (by omega) 0 (by omega)
      have hb2 : ¬ (ms.length : Int) < 2 := by omega
      obtain ⟨A, hA⟩ : ∃ A : Nat, (A : Int) = (nth ms (ms.length - 1)).real - (nth ms 0).real := ⟨((nth ms (ms.length - 1)).real - (nth ms 0).real).toNat, by omega⟩
      obtain ⟨C, hC⟩ : ∃ C : Nat, (C : Int) = (nth ms (ms.length - 1)).shown - (nth ms 0).shown := ⟨((nth ms (ms.length - 1)).shown - (nth ms 0).shown).toNat, by omega⟩
      have hA' : (dNum ms).toNat = A := by unfold dNum; omega
      have hC' : (dDen ms).toNat = C := by unfold dDen; omega
      rw [hA', hC']
      clear hA' hC'
      have hA1 : A ≤ 9223372036854775807 := by omega
      have hC1 : C ≤ 9223372036854775807 := by omega
      have hC2 : 0 < C := by omega
      obtain ⟨b, off, rfl, hcell⟩ := h (by omega)
      have HA := Lib.hid hA.symm; clear hA
      have HC := Lib.hid hC.symm; clear hC
      go_enter Try.func28, Try.ntmps28
      go_wp2_with fail
      refine (spec_l13Marks h hn).mono ?_; rintro e w1 ⟨rfl, hx1⟩
      have d0 := hx1.cells (hcell 0 (by omega) 0 (by decide))
      have d1 := hx1.cells (hcell 0 (by omega) 1 (by decide))
      have d2 := hx1.cells (hcell (ms.length - 1) (by omega) 0 (by decide))
      have d3 := hx1.cells (hcell (ms.length - 1) (by omega) 1 (by decide))
      rw [Mark.c0] at d0 d2
      rw [Mark.c1] at d1 d3
      simp only [Nat.zero_mul, Nat.add_zero] at d0 d1 d2 d3
      clear hcell h
      have g0 := Grow.cells d0
      have g1 := Grow.cells d1
      have g4 := Grow.cells d2
      have g5 := Grow.cells d3
      clear d0 d1 d2 d3
      have hA := HA.out
      have hC := HC.out
      go_wp2
      refine wp_region_ext (by kernel_rfl) (by kernel_rfl) ?_
      repeat (go_big_quiet_step ((go_at_call 44; exact Calls.ext_of (spec_l13Reduce hA1 hC1 hC2))))
      refine wpQuiet_nil ?_
      rintro _ ⟨⟨w1, hx1⟩, rfl⟩
      go_wp2
      go_ret3
      exact ⟨rfl, (by repeat (first | (with_reducible exact Ext.refl _) | (with_reducible assumption) | with_reducible refine Ext.drew ?_ | with_reducible refine Ext.alloc ?_ _ | with_reducible refine Ext.setCell ?_ (by first | (simp; done) | (simp; omega) | omega) _ | with_reducible refine Ext.trans ?_ (by with_reducible assumption)))⟩
    · have hfin : gDrift ms = .tuple #[.int .i64 0, .int .i64 0, .bool false] := by simp [gDrift, h2]
      rw [hfin]; clear hfin
      have hl := marksB_len hm
      have hb2 : (ms.length : Int) < 2 := by omega
      go_enter Try.func28, Try.ntmps28
      go_wp2_with fail
      refine (spec_l13Marks h hn).mono ?_; rintro e w1 ⟨rfl, hx1⟩
      go_wp2
      go_ret3
      exact ⟨rfl, (by repeat (first | (with_reducible exact Ext.refl _) | (with_reducible assumption) | with_reducible refine Ext.drew ?_ | with_reducible refine Ext.alloc ?_ _ | with_reducible refine Ext.setCell ?_ (by first | (simp; done) | (simp; omega) | omega) _ | with_reducible refine Ext.trans ?_ (by with_reducible assumption)))⟩
  · have hfin : gDrift ms = .tuple #[.int .i64 0, .int .i64 0, .bool false] := by simp [gDrift, hm]
    rw [hfin]; clear hfin
    go_enter Try.func28, Try.ntmps28
    go_wp2_with fail
    refine (spec_l13Marks h hn).mono ?_; rintro e w1 ⟨rfl, hx1⟩
    go_wp2
    go_ret3
    exact ⟨rfl, (by repeat (first | (with_reducible exact Ext.refl _) | (with_reducible assumption) | with_reducible refine Ext.drew ?_ | with_reducible refine Ext.alloc ?_ _ | with_reducible refine Ext.setCell ?_ (by first | (simp; done) | (simp; omega) | omega) _ | with_reducible refine Ext.trans ?_ (by with_reducible assumption)))⟩

end Go.Proofs.Ytemencnfackplaa
