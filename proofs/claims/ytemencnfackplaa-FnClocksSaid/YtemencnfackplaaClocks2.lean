/-
  Proved here: what GreatestOffset and its reference return.
  Conditions: the number of marks fits an int.
-/
import Derived.Test.YtemencnfackplaaClocks1
namespace Go.Proofs.Ytemencnfackplaa
open Go.RowKit

theorem marksB_valid {ms : List Mark} (h : marksB ms = true) : ∀ k, k < ms.length → (0 ≤ (nth ms k).shown ∧ (nth ms k).shown ≤ 36000) ∧ (0 ≤ (nth ms k).real ∧ (nth ms k).real ≤ 36000) := by
  intro k hk
  have h1 := upto_true.1 (Bool.and_eq_true_iff.1 h).1 k hk
  simp only [okMark, Bool.and_eq_true, inB_iff] at h1
  exact ⟨h1.1.1, h1.1.2⟩
theorem marksB_rises {ms : List Mark} (h : marksB ms = true) : ∀ k, 0 < k → k < ms.length → (nth ms (k - 1)).shown < (nth ms k).shown ∧ (nth ms (k - 1)).real < (nth ms k).real := by
  intro k h0 hk
  have h1 := upto_true.1 (Bool.and_eq_true_iff.1 h).1 k hk
  simp only [okMark, Bool.and_eq_true, h0, decide_true, Bool.true_and, Bool.not_eq_true', Bool.or_eq_false_iff, decide_eq_false_iff_not] at h1
  omega
theorem marksB_len {ms : List Mark} (h : marksB ms = true) : 1 ≤ ms.length ∧ ms.length ≤ 6 := by
  have := (Bool.and_eq_true_iff.1 h).2
  rw [inB_iff] at this
  omega

/-- a number without its sign -/
def absI (x : Int) : Int := if x < 0 then -x else x

theorem impl_absOf {x : Int} {w : World} (h0 : -9223372036854775807 ≤ x) (h1 : x ≤ 9223372036854775807) :
    Calls Try.prog 41 #[.int .i64 x] w fun e w' => e = .returned (.int .i64 (absI x)) ∧ w = w' := by
  go_enter Try.func41, Try.ntmps41
  go_wp2
  all_goals go_ret
  all_goals exact ⟨ret_i (by unfold absI; split <;> omega), rfl⟩

theorem spec_l1Most {a b : Int} {w : World} :
    Calls Try.prog 42 #[.int .i64 a, .int .i64 b] w fun e w' => e = .returned (.int .i64 (if b < a then a else b)) ∧ w = w' := by
  by_cases h : b < a
  · rw [if_pos h]
    go_enter Try.func42, Try.ntmps42
    go_wp2
    go_ret
    exact ⟨rfl, rfl⟩
  · rw [if_neg h]
    go_enter Try.func42, Try.ntmps42
    go_wp2
    go_ret
    exact ⟨rfl, rfl⟩

def Mark.off (m : Mark) : Int := m.real - m.shown
/-- the first of the greatest offsets among the first k -/
def bestU (ms : List Mark) : Nat → Nat
  | 0 => 0
  | k + 1 => if absI (nth ms (bestU ms k)).off < absI (nth ms k).off then k else bestU ms k
theorem bestU_le (ms : List Mark) (k : Nat) : bestU ms k = 0 ∨ bestU ms k < k := by
  induction k with
  | zero => simp [bestU]
  | succ k ih => simp only [bestU]; split <;> omega
theorem bestU_lt {ms : List Mark} {k n : Nat} (hk : k ≤ n) (hn : 0 < n) : bestU ms k < n := by have := bestU_le ms k; omega
theorem bestU_yes {ms : List Mark} {k : Nat} (h : absI ((nth ms (bestU ms k)).real - (nth ms (bestU ms k)).shown) < absI ((nth ms k).real - (nth ms k).shown)) : bestU ms (k + 1) = k := by simp [bestU, Mark.off, h]
theorem bestU_no {ms : List Mark} {k : Nat} (h : ¬ absI ((nth ms (bestU ms k)).real - (nth ms (bestU ms k)).shown) < absI ((nth ms k).real - (nth ms k).shown)) : bestU ms (k + 1) = bestU ms k := by rw [bestU, if_neg (by simpa [Mark.off] using h)]

/-- what both return -/
def gOff (ms : List Mark) : Value := if marksB ms then .tuple #[.int .i64 (bestU ms ms.length), .int .i64 (nth ms (bestU ms ms.length)).off, .bool true] else .tuple #[.int .i64 0, .int .i64 0, .bool false]

set_option maxHeartbeats 1000000 in
theorem impl_GreatestOffset {ao : Option Addr} {cap : Nat} {ms : List Mark} {w : World} (h : RowAt w ao 2 ms.length (fun k => (nth ms k).c)) (hn : ms.length ≤ 9223372036854775807) :
    Calls Try.prog 24 #[.slice ao ms.length cap] w fun e w' => e = .returned (gOff ms) ∧ Ext w w' := by
  by_cases hm : marksB ms = true
  · obtain ⟨hl1, hl2⟩ := marksB_len hm
    have hv := marksB_valid hm
    have hfin : gOff ms = .tuple #[.int .i64 (bestU ms ms.length), .int .i64 (nth ms (bestU ms ms.length)).off, .bool true] := by simp [gOff, hm]
    rw [hfin]; clear hfin
    obtain ⟨b, off, rfl, hcell⟩ := h (by omega)
    go_enter Try.func24, Try.ntmps24
    go_wp2_with (go_at_call 17; refine (impl_AreClockMarks h hn).mono ?_; rintro e w1 ⟨rfl, hx1⟩)
    clear hm h
    go_loopw [5, 13] (fun b i wr => ∃ k : Nat, k ≤ ms.length ∧ i = .int .i64 k ∧ b = .int .i64 (bestU ms k) ∧ Ext w wr) (fun _ i _ => ms.length - (intOf i).toNat)
    case atStart => exact ⟨0, Nat.zero_le _, rfl, rfl, hx1⟩
    case round =>
      obtain ⟨k, hk, rfl, rfl, hx⟩ := hrel
      have hbl : bestU ms k < ms.length := bestU_lt hk (by omega)
      have hb1 := hv _ hbl
      have p0 := hx.cells (hcell _ hbl 0 (by decide))
      have p1 := hx.cells (hcell _ hbl 1 (by decide))
      rw [Mark.c0, Nat.add_zero] at p0
      rw [Mark.c1] at p1
      by_cases hlt : k < ms.length
      · have hb2 := hv _ hlt
        have d0 := hx.cells (hcell _ hlt 0 (by decide))
        have d1 := hx.cells (hcell _ hlt 1 (by decide))
        rw [Mark.c0, Nat.add_zero] at d0
        rw [Mark.c1] at d1
        have hx0 : Ext wr (wr.alloc (Obj.cells #[Value.int IntKind.i64 (nth ms k).shown, Value.int IntKind.i64 (nth ms k).real] 30)) := (Ext.refl _).alloc _
        have g0 : ∀ x : Grow (wr.alloc (Obj.cells #[Value.int IntKind.i64 (nth ms k).shown, Value.int IntKind.i64 (nth ms k).real] 30)), x.w.cell? ⟨wr.heap.size, 0, none⟩ = some (.int .i64 (nth ms k).shown) := Grow.cells (by go_simp)
        have g1 : ∀ x : Grow (wr.alloc (Obj.cells #[Value.int IntKind.i64 (nth ms k).shown, Value.int IntKind.i64 (nth ms k).real] 30)), x.w.cell? ⟨wr.heap.size, 1, none⟩ = some (.int .i64 (nth ms k).real) := Grow.cells (by go_simp)
        have g2 := Grow.cells (hx0.cells p0)
        have g3 := Grow.cells (hx0.cells p1)
        clear hcell hx0
        by_cases hA : absI ((nth ms (bestU ms k)).real - (nth ms (bestU ms k)).shown) < absI ((nth ms k).real - (nth ms k).shown)
        · go_wp2
          refine wp_region_ext (by kernel_rfl) (by kernel_rfl) ?_
          repeat (go_big_quiet_step ((go_at_call 41; exact Calls.ext_of_same (impl_absOf (by omega) (by omega)))))
          refine wpQuiet_nil ?_
          rintro _ ⟨⟨w1, hx1⟩, rfl⟩
          clear g0 g1 g2 g3 p0 p1 d0 d1
          go_wp2
          go_roundw
          case rel => exact ⟨k + 1, by omega, by go_num, by rw [bestU_yes hA], (by repeat (first | (with_reducible exact Ext.refl _) | (with_reducible assumption) | with_reducible refine Ext.drew ?_ | with_reducible refine Ext.alloc ?_ _ | with_reducible refine Ext.setCell ?_ (by first | (simp; done) | (simp; omega) | omega) _ | with_reducible refine Ext.trans ?_ (by with_reducible assumption)))⟩
          case measure => simp [intOf]; omega
        · go_wp2
          refine wp_region_ext (by kernel_rfl) (by kernel_rfl) ?_
          repeat (go_big_quiet_step ((go_at_call 41; exact Calls.ext_of_same (impl_absOf (by omega) (by omega)))))
          refine wpQuiet_nil ?_
          rintro _ ⟨⟨w1, hx1⟩, rfl⟩
          clear g0 g1 g2 g3 p0 p1 d0 d1
          go_wp2
          go_roundw
          case rel => exact ⟨k + 1, by omega, by go_num, by rw [bestU_no (by omega)], (by repeat (first | (with_reducible exact Ext.refl _) | (with_reducible assumption) | with_reducible refine Ext.drew ?_ | with_reducible refine Ext.alloc ?_ _ | with_reducible refine Ext.setCell ?_ (by first | (simp; done) | (simp; omega) | omega) _ | with_reducible refine Ext.trans ?_ (by with_reducible assumption)))⟩
          case measure => simp [intOf]; omega
      · have hkn : k = ms.length := by omega
        subst hkn
        have g2 := Grow.cells p0
        have g3 := Grow.cells p1
        clear hcell
        go_wp2
        refine wp_region_ext (by kernel_rfl) (by kernel_rfl) ?_
        repeat (go_big_quiet_step (fail))
        refine wpQuiet_nil ?_
        rintro _ ⟨⟨w1, hx1⟩, rfl⟩
        clear g2 g3 p0 p1
        go_wp2
        go_ret3
        exact ⟨rfl, (by repeat (first | (with_reducible exact Ext.refl _) | (with_reducible assumption) | with_reducible refine Ext.drew ?_ | with_reducible refine Ext.alloc ?_ _ | with_reducible refine Ext.setCell ?_ (by first | (simp; done) | (simp; omega) | omega) _ | with_reducible refine Ext.trans ?_ (by with_reducible assumption)))⟩
  · have hfin : gOff ms = .tuple #[.int .i64 0, .int .i64 0, .bool false] := by simp [gOff, hm]
    rw [hfin]; clear hfin
    go_enter Try.func24, Try.ntmps24
    go_wp2_with (go_at_call 17; refine (impl_AreClockMarks h hn).mono ?_; rintro e w1 ⟨rfl, hx1⟩)
    go_ret3
    exact ⟨rfl, hx1⟩

theorem spec_l1Most_abs {a : Int} {w : World} (_h : -9223372036854775807 ≤ a) :
    Calls Try.prog 42 #[.int .i64 a, .int .i64 (-a)] w fun e w' => e = .returned (.int .i64 (absI a)) ∧ w = w' :=
  spec_l1Most.mono fun _ _ ⟨he, hw⟩ => ⟨he.trans (ret_i (by unfold absI; split <;> split <;> omega)), hw⟩

/-- the greatest offset among the first k, -1 if there is none -/
def mostU (ms : List Mark) (k : Nat) : Int := if k = 0 then -1 else absI (nth ms (bestU ms k)).off
theorem absI_nonneg (x : Int) : 0 ≤ absI x := by unfold absI; split <;> omega
theorem mostU_yes {ms : List Mark} {k : Nat} (h : mostU ms k < absI ((nth ms k).real - (nth ms k).shown)) : bestU ms (k + 1) = k ∧ mostU ms (k + 1) = absI ((nth ms k).real - (nth ms k).shown) := by
  have e : bestU ms (k + 1) = k := by
    cases k with
    | zero => simp [bestU]
    | succ k =>
      have h' : absI (nth ms (bestU ms (k + 1))).off < absI (nth ms (k + 1)).off := by
        have h2 : mostU ms (k + 1) = absI (nth ms (bestU ms (k + 1))).off := by simp [mostU]
        rw [h2] at h
        exact h
      rw [bestU, if_pos h']
  exact ⟨e, by rw [mostU, if_neg (by omega), e]; rfl⟩
theorem mostU_no {ms : List Mark} {k : Nat} (h : absI ((nth ms k).real - (nth ms k).shown) ≤ mostU ms k) : bestU ms (k + 1) = bestU ms k ∧ mostU ms (k + 1) = mostU ms k := by
  cases k with
  | zero =>
    have h0 : mostU ms 0 = -1 := by simp [mostU]
    have := absI_nonneg ((nth ms 0).real - (nth ms 0).shown)
    omega
  | succ k =>
    have h' : ¬ absI (nth ms (bestU ms (k + 1))).off < absI (nth ms (k + 1)).off := by
      have h2 : mostU ms (k + 1) = absI (nth ms (bestU ms (k + 1))).off := by simp [mostU]
      rw [h2] at h
      have : absI (nth ms (k + 1)).off ≤ absI (nth ms (bestU ms (k + 1))).off := h
      omega
    have e : bestU ms (k + 1 + 1) = bestU ms (k + 1) := by rw [bestU, if_neg h']
    exact ⟨e, by rw [mostU, mostU, if_neg (by omega), if_neg (by omega), e]⟩

set_option maxHeartbeats 1000000 in
theorem spec_GreatestOffset {ao : Option Addr} {cap : Nat} {ms : List Mark} {w : World} (h : RowAt w ao 2 ms.length (fun k => (nth ms k).c)) (hn : ms.length ≤ 9223372036854775807) :
    Calls Try.prog 25 #[.slice ao ms.length cap] w fun e w' => e = .returned (gOff ms) ∧ Ext w w' := by
  by_cases hm : marksB ms = true
  · obtain ⟨hl1, hl2⟩ := marksB_len hm
    have hv := marksB_valid hm
    have hfin : gOff ms = .tuple #[.int .i64 (bestU ms ms.length), .int .i64 (nth ms (bestU ms ms.length)).off, .bool true] := by simp [gOff, hm]
    rw [hfin]; clear hfin
    obtain ⟨b, off, rfl, hcell⟩ := h (by omega)
    go_enter Try.func25, Try.ntmps25
    go_wp2_with (go_at_call 29; refine (spec_l13Marks h hn).mono ?_; rintro e w1 ⟨rfl, hx1⟩)
    clear hm h
    go_loopw [5, 6, 7] (fun b m i wr => ∃ k : Nat, k ≤ ms.length ∧ i = .int .i64 k ∧ b = .int .i64 (bestU ms k) ∧ m = .int .i64 (mostU ms k) ∧ Ext w wr) (fun _ _ i _ => ms.length - (intOf i).toNat)
    case atStart => exact ⟨0, Nat.zero_le _, rfl, rfl, rfl, hx1⟩
    case round =>
      obtain ⟨k, hk, rfl, rfl, rfl, hx⟩ := hrel
      have hbl : bestU ms k < ms.length := bestU_lt hk (by omega)
      have hb1 := hv _ hbl
      have p0 := hx.cells (hcell _ hbl 0 (by decide))
      have p1 := hx.cells (hcell _ hbl 1 (by decide))
      rw [Mark.c0, Nat.add_zero] at p0
      rw [Mark.c1] at p1
      by_cases hlt : k < ms.length
      · have hb2 := hv _ hlt
        have d0 := hx.cells (hcell _ hlt 0 (by decide))
        have d1 := hx.cells (hcell _ hlt 1 (by decide))
        rw [Mark.c0, Nat.add_zero] at d0
        rw [Mark.c1] at d1
        have g0 := Grow.cells d0
        have g1 := Grow.cells d1
        clear hcell p0 p1
        by_cases hA : mostU ms k < absI ((nth ms k).real - (nth ms k).shown)
        · have hyes := Lib.hid (mostU_yes hA)
          go_wp2
          refine wp_region_ext (by kernel_rfl) (by kernel_rfl) ?_
          repeat (go_big_quiet_step (fail))
          refine wpQuiet_nil ?_
          rintro _ ⟨⟨w1, hx1⟩, rfl⟩
          clear g0 g1 d0 d1
          go_wp2_with (go_at_call 42; refine (spec_l1Most_abs (by omega)).mono ?_; rintro e w1 ⟨rfl, rfl⟩)
          go_roundw
          case rel => exact ⟨k + 1, by omega, by go_num, by rw [hyes.out.1], by rw [hyes.out.2], (by repeat (first | (with_reducible exact Ext.refl _) | (with_reducible assumption) | with_reducible refine Ext.drew ?_ | with_reducible refine Ext.alloc ?_ _ | with_reducible refine Ext.setCell ?_ (by first | (simp; done) | (simp; omega) | omega) _ | with_reducible refine Ext.trans ?_ (by with_reducible assumption)))⟩
          case measure => simp [intOf]; omega
        · have hno := Lib.hid (mostU_no (show absI ((nth ms k).real - (nth ms k).shown) ≤ mostU ms k by omega))
          go_wp2
          refine wp_region_ext (by kernel_rfl) (by kernel_rfl) ?_
          repeat (go_big_quiet_step (fail))
          refine wpQuiet_nil ?_
          rintro _ ⟨⟨w1, hx1⟩, rfl⟩
          clear g0 g1 d0 d1
          go_wp2_with (go_at_call 42; refine (spec_l1Most_abs (by omega)).mono ?_; rintro e w1 ⟨rfl, rfl⟩)
          go_roundw
          case rel => exact ⟨k + 1, by omega, by go_num, by rw [hno.out.1], by rw [hno.out.2], (by repeat (first | (with_reducible exact Ext.refl _) | (with_reducible assumption) | with_reducible refine Ext.drew ?_ | with_reducible refine Ext.alloc ?_ _ | with_reducible refine Ext.setCell ?_ (by first | (simp; done) | (simp; omega) | omega) _ | with_reducible refine Ext.trans ?_ (by with_reducible assumption)))⟩
          case measure => simp [intOf]; omega
      · have hkn : k = ms.length := by omega
        subst hkn
        have g2 := Grow.cells p0
        have g3 := Grow.cells p1
        clear hcell
        go_wp2
        refine wp_region_ext (by kernel_rfl) (by kernel_rfl) ?_
        repeat (go_big_quiet_step (fail))
        refine wpQuiet_nil ?_
        rintro _ ⟨⟨w1, hx1⟩, rfl⟩
        clear g2 g3 p0 p1
        go_wp2
        go_ret3
        exact ⟨rfl, (by repeat (first | (with_reducible exact Ext.refl _) | (with_reducible assumption) | with_reducible refine Ext.drew ?_ | with_reducible refine Ext.alloc ?_ _ | with_reducible refine Ext.setCell ?_ (by first | (simp; done) | (simp; omega) | omega) _ | with_reducible refine Ext.trans ?_ (by with_reducible assumption)))⟩
  · have hfin : gOff ms = .tuple #[.int .i64 0, .int .i64 0, .bool false] := by simp [gOff, hm]
    rw [hfin]; clear hfin
    go_enter Try.func25, Try.ntmps25
    go_wp2_with (go_at_call 29; refine (spec_l13Marks h hn).mono ?_; rintro e w1 ⟨rfl, hx1⟩)
    go_ret3
    exact ⟨rfl, hx1⟩

end Go.Proofs.Ytemencnfackplaa
