/-
  Proved here: what trueTime, TrueTime, OffsetAt and their references return.
  Conditions: the number of marks fits an int.
-/
import Derived.Test.YtemencnfackplaaClocks2
namespace Go.Proofs.Ytemencnfackplaa
open Go.RowKit

theorem Calls.quiet_of_eq {P : Program} {f : FuncId} {args : Array Value} {w : World} {n : Nat} {v : Value}
    (h : Calls P f args (w.drewN n) fun e w' => e = .returned v ∧ w.drewN n = w') : Calls P f args (w.drewN n) fun e w'' => e = .returned v ∧ ∃ m, w'' = w.drewN m :=
  h.mono fun _ _ ⟨he, hm⟩ => ⟨he, n, hm.symm⟩
theorem Calls.quiet_C {P : Program} {f : FuncId} {args : Array Value} {W : World} {v : Value} {C : World → Prop} (hC : C W)
    (h : Calls P f args W fun e w' => e = .returned v ∧ W = w') : Calls P f args W fun e w'' => e = .returned v ∧ C w'' :=
  h.mono fun _ _ ⟨he, hm⟩ => ⟨he, hm ▸ hC⟩
theorem Ext.drewN {a w : World} (h : Ext a w) (n : Nat) : Ext a (w.drewN n) := ⟨h.os, h.tape, h.output, h.size, h.block⟩

/-- the first place from i on behind whose successor the time does not lie -/
def segF (ms : List Mark) (t : Int) : Nat → Nat → Nat
  | 0, i => i
  | f + 1, i => if (nth ms (i + 1)).shown < t then segF ms t f (i + 1) else i
def segT (ms : List Mark) (t : Int) (i : Nat) : Int :=
  (nth ms i).real + (2 * (t - (nth ms i).shown) * ((nth ms (i + 1)).real - (nth ms i).real) + ((nth ms (i + 1)).shown - (nth ms i).shown)) / (2 * ((nth ms (i + 1)).shown - (nth ms i).shown))
/-- the true time of a shown one -/
def trueT (ms : List Mark) (t : Int) : Int :=
  if t ≤ (nth ms 0).shown then t + (nth ms 0).real - (nth ms 0).shown
  else if (nth ms (ms.length - 1)).shown ≤ t then t + (nth ms (ms.length - 1)).real - (nth ms (ms.length - 1)).shown
  else segT ms t (segF ms t ms.length 0)

theorem segF_yes {ms : List Mark} {t : Int} {f i : Nat} (h : (nth ms (i + 1)).shown < t) : segF ms t (f + 1) i = segF ms t f (i + 1) := by rw [segF, if_pos h]
theorem segF_no {ms : List Mark} {t : Int} {f i : Nat} (h : ¬ (nth ms (i + 1)).shown < t) : segF ms t f i = i := by
  cases f with
  | zero => rfl
  | succ f => rw [segF, if_neg h]

/-- the numbers of the middle case are small -/
theorem seg_small {sa sb ra rb t : Int} (h1 : 0 ≤ sa) (h2 : sb ≤ 36000) (h3 : 0 ≤ ra) (h4 : rb ≤ 36000) (h5 : ra < rb) (h6 : sa < t) (h7 : t ≤ sb) :
    0 ≤ 2 * (t - sa) * (rb - ra) ∧ 2 * (t - sa) * (rb - ra) ≤ 2592000000 := by
  have a1 : 0 ≤ 2 * (t - sa) := by omega
  have a2 : 2 * (t - sa) ≤ 72000 := by omega
  have a3 : 0 ≤ rb - ra := by omega
  have a4 : rb - ra ≤ 36000 := by omega
  constructor
  · exact Int.mul_nonneg a1 a3
  · have := Int.mul_le_mul a2 a4 a3 (by omega)
    omega
theorem seg_quot {p d : Int} (h0 : 0 ≤ p) (h1 : p ≤ 2592000000) (h2 : 0 < d) : 0 ≤ (p + d) / (2 * d) ∧ (p + d) / (2 * d) ≤ 2592000001 := by
  constructor
  · exact Int.ediv_nonneg (by omega) (by omega)
  · have := Int.ediv_le_self (2 * d) (show 0 ≤ p + d by omega)
    refine Int.ediv_le_of_le_mul (by omega) ?_
    have : 2592000001 * d ≥ 2592000001 := by omega
    omega

theorem impl_floorDiv {a b : Int} {w : World} (h0 : 0 ≤ a) (h1 : a ≤ 9223372036854775807) (h2 : 0 < b) (h3 : b ≤ 9223372036854775807) :
    Calls Try.prog 50 #[.int .i64 a, .int .i64 b] w fun e w' => e = .returned (.int .i64 (a / b)) ∧ w = w' := by
  have e1 : wrap64 (a / b) = a / b := by
    have b1 := Int.ediv_nonneg h0 (Int.le_of_lt h2)
    have b2 := Int.ediv_le_self b h0
    exact IntWalk.wrap64_in _ ⟨by omega, by omega⟩
  have e2 := Int.emod_nonneg a (show b ≠ 0 by omega)
  have e3 : ¬ a % b < 0 := by omega
  have hb : (b == 0) = false := by simp; omega
  go_enter Try.func50, Try.ntmps50
  go_wp2
  go_ret
  exact ⟨rfl, rfl⟩

set_option maxHeartbeats 1000000 in
theorem impl_trueTime {ao : Option Addr} {cap : Nat} {ms : List Mark} {t : Int} {w : World} (h : RowAt w ao 2 ms.length (fun k => (nth ms k).c)) (hm : marksB ms = true) (ht : 0 ≤ t ∧ t ≤ 36000) :
    Calls Try.prog 35 #[.slice ao ms.length cap, .int .i64 t] w fun e w' => e = .returned (.int .i64 (trueT ms t)) ∧ Ext w w' := by
  obtain ⟨hl1, hl2⟩ := marksB_len hm
  have hv := marksB_valid hm
  have hr := marksB_rises hm
  obtain ⟨b, off, rfl, hcell⟩ := h (by omega)
  have hv0 := hv 0 (by omega)
  have hvl := hv (ms.length - 1) (by omega)
  have d0 := hcell 0 (by omega) 0 (by decide)
  have d1 := hcell 0 (by omega) 1 (by decide)
  have e0 := hcell (ms.length - 1) (by omega) 0 (by decide)
  have e1 := hcell (ms.length - 1) (by omega) 1 (by decide)
  simp only [Mark.c0, Mark.c1, Nat.zero_mul, Nat.add_zero] at d0 d1 e0 e1
  have hx0 : Ext w (w.alloc (Obj.cells #[.int .i64 (nth ms (ms.length - 1)).shown, .int .i64 (nth ms (ms.length - 1)).real] 30)) := (Ext.refl _).alloc _
  have g0 := Grow.cells (hx0.cells d0)
  have g1 := Grow.cells (hx0.cells d1)
  have f0 := hx0.cells d0
  have f1 := hx0.cells d1
  by_cases hA : t ≤ (nth ms 0).shown
  · have hfin : trueT ms t = t + (nth ms 0).real - (nth ms 0).shown := by rw [trueT, if_pos hA]
    have HF := Lib.hid hfin; clear hfin hcell h hm hv hr
    go_enter Try.func35, Try.ntmps35
    go_wp2
    refine wp_region_ext (by kernel_rfl) (by kernel_rfl) ?_
    repeat (go_big_quiet_step (fail))
    refine wpQuiet_nil ?_
    rintro _ ⟨⟨w1, hx1⟩, rfl⟩
    go_wp2
    go_ret
    exact ⟨ret_i (by rw [HF.out]), (by repeat (first | (with_reducible exact Ext.refl _) | (with_reducible assumption) | with_reducible refine Ext.drew ?_ | with_reducible refine Ext.alloc ?_ _ | with_reducible refine Ext.setCell ?_ (by first | (simp; done) | (simp; omega) | omega) _ | with_reducible refine Ext.trans ?_ (by with_reducible assumption)))⟩
  · have hA' : decide (t ≤ (nth ms 0).shown) = false := by simpa using hA
    by_cases hB : (nth ms (ms.length - 1)).shown ≤ t
    · have hfin : trueT ms t = t + (nth ms (ms.length - 1)).real - (nth ms (ms.length - 1)).shown := by rw [trueT, if_neg hA, if_pos hB]
      have HF := Lib.hid hfin; clear hfin hcell h hm hv hr
      go_enter Try.func35, Try.ntmps35
      go_wp2
      go_ret
      exact ⟨ret_i (by rw [HF.out]), (by repeat (first | (with_reducible exact Ext.refl _) | (with_reducible assumption) | with_reducible refine Ext.drew ?_ | with_reducible refine Ext.alloc ?_ _ | with_reducible refine Ext.setCell ?_ (by first | (simp; done) | (simp; omega) | omega) _ | with_reducible refine Ext.trans ?_ (by with_reducible assumption)))⟩
    · have hfin : trueT ms t = segT ms t (segF ms t ms.length 0) := by rw [trueT, if_neg hA, if_neg hB]
      have HF := Lib.hid hfin; clear hfin
      clear g0 g1 f0 f1 d0 d1 h
      go_enter Try.func35, Try.ntmps35
      have f0 := hx0.cells (hcell 0 (by omega) 0 (by decide))
      simp only [Mark.c0, Nat.zero_mul, Nat.add_zero] at f0
      go_wp2
      clear f0
      go_loopw [6] (fun i wr => ∃ k : Nat, k + 1 < ms.length ∧ i = .int .i64 k ∧ (nth ms k).shown < t ∧ segF ms t (ms.length - k) k = segF ms t ms.length 0 ∧ Ext w wr) (fun i _ => ms.length - (intOf i).toNat)
      case atStart => exact ⟨0, by by_cases e : ms.length = 1; (rw [e, Nat.sub_self] at hB; omega); omega, rfl, by omega, rfl, (by repeat (first | (with_reducible exact Ext.refl _) | (with_reducible assumption) | with_reducible refine Ext.drew ?_ | with_reducible refine Ext.alloc ?_ _ | with_reducible refine Ext.setCell ?_ (by first | (simp; done) | (simp; omega) | omega) _ | with_reducible refine Ext.trans ?_ (by with_reducible assumption)))⟩
      case round =>
        obtain ⟨k, hk, rfl, hlt, hs, hx⟩ := hrel
        have HS := Lib.hid hs; clear hs
        have hvk := hv k (by omega)
        have hvk1 := hv (k + 1) (by omega)
        have hrk := hr (k + 1) (by omega) hk
        rw [Nat.add_sub_cancel] at hrk
        have p0 := hx.cells (hcell k (by omega) 0 (by decide))
        have p1 := hx.cells (hcell k (by omega) 1 (by decide))
        have q0 := hx.cells (hcell (k + 1) hk 0 (by decide))
        have q1 := hx.cells (hcell (k + 1) hk 1 (by decide))
        simp only [Mark.c0, Mark.c1, Nat.add_zero] at p0 p1 q0 q1
        clear e0 e1
        by_cases hC : (nth ms (k + 1)).shown < t
        · have hk2 : k + 1 + 1 < ms.length := by
            by_cases e : k + 1 + 1 = ms.length
            · rw [← e] at hB; simp at hB; omega
            · omega
          have hss : segF ms t (ms.length - (k + 1)) (k + 1) = segF ms t ms.length 0 := by
            rw [← HS.out, show ms.length - k = (ms.length - (k + 1)) + 1 by omega, segF_yes hC]
          have HSS := Lib.hid hss; clear hss
          clear hcell hv hr
          go_wp2
          go_roundw
          case rel => exact ⟨k + 1, hk2, by go_num, hC, HSS.out, (by repeat (first | (with_reducible exact Ext.refl _) | (with_reducible assumption) | with_reducible refine Ext.drew ?_ | with_reducible refine Ext.alloc ?_ _ | with_reducible refine Ext.setCell ?_ (by first | (simp; done) | (simp; omega) | omega) _ | with_reducible refine Ext.trans ?_ (by with_reducible assumption)))⟩
          case measure => simp [intOf]; omega
        · have hseg : segF ms t ms.length 0 = k := by rw [← HS.out, segF_no hC]
          rw [hseg] at HF
          have hsm := seg_small (sa := (nth ms k).shown) (sb := (nth ms (k + 1)).shown) (ra := (nth ms k).real) (rb := (nth ms (k + 1)).real) (t := t) (by omega) (by omega) (by omega) (by omega) (by omega) (by omega) (by omega)
          have hq := seg_quot hsm.1 hsm.2 (show 0 < (nth ms (k + 1)).shown - (nth ms k).shown by omega)
          have hbw : b < wr.heap.size := World.block_lt_of_cell? _ _ p0
          clear hcell hv hr hseg HS
          go_wp2
          go_region
          all_goals
            go_wp2
            go_quiet ((go_at_call 50; exact Calls.quiet_C (by exact ⟨_, rfl⟩) (impl_floorDiv (by omega) (by omega) (by omega) (by omega))))
            go_wp2
            go_ret
            refine ⟨ret_i (by rw [HF.out]; rfl), ?_⟩
            refine Ext.drewN ?_ _
            exact (by repeat (first | (with_reducible exact Ext.refl _) | (with_reducible assumption) | with_reducible refine Ext.drew ?_ | with_reducible refine Ext.alloc ?_ _ | with_reducible refine Ext.setCell ?_ (by first | (simp; done) | (simp; omega) | omega) _ | with_reducible refine Ext.trans ?_ (by with_reducible assumption)))

set_option maxHeartbeats 1000000 in
theorem spec_l13True {ao : Option Addr} {cap : Nat} {ms : List Mark} {t : Int} {w : World} (h : RowAt w ao 2 ms.length (fun k => (nth ms k).c)) (hm : marksB ms = true) (ht : 0 ≤ t ∧ t ≤ 36000) :
    Calls Try.prog 37 #[.slice ao ms.length cap, .int .i64 t] w fun e w' => e = .returned (.int .i64 (trueT ms t)) ∧ Ext w w' := by
  obtain ⟨hl1, hl2⟩ := marksB_len hm
  have hv := marksB_valid hm
  have hr := marksB_rises hm
  obtain ⟨b, off, rfl, hcell⟩ := h (by omega)
  have hv0 := hv 0 (by omega)
  have hvl := hv (ms.length - 1) (by omega)
  have d0 := hcell 0 (by omega) 0 (by decide)
  have d1 := hcell 0 (by omega) 1 (by decide)
  have e0 := hcell (ms.length - 1) (by omega) 0 (by decide)
  have e1 := hcell (ms.length - 1) (by omega) 1 (by decide)
  simp only [Mark.c0, Mark.c1, Nat.zero_mul, Nat.add_zero] at d0 d1 e0 e1
  have g0 := Grow.cells d0
  have g1 := Grow.cells d1
  have g2 := Grow.cells e0
  have g3 := Grow.cells e1
  by_cases hA : t ≤ (nth ms 0).shown
  · have hfin : trueT ms t = t + (nth ms 0).real - (nth ms 0).shown := by rw [trueT, if_pos hA]
    have HF := Lib.hid hfin; clear hfin hcell h hm hv hr
    go_enter Try.func37, Try.ntmps37
    go_wp2
    refine wp_region_ext (by kernel_rfl) (by kernel_rfl) ?_
    repeat (go_big_quiet_step (fail))
    refine wpQuiet_nil ?_
    rintro _ ⟨⟨w1, hx1⟩, rfl⟩
    go_wp2
    go_ret
    exact ⟨ret_i (by rw [HF.out]), (by repeat (first | (with_reducible exact Ext.refl _) | (with_reducible assumption) | with_reducible refine Ext.drew ?_ | with_reducible refine Ext.alloc ?_ _ | with_reducible refine Ext.setCell ?_ (by first | (simp; done) | (simp; omega) | omega) _ | with_reducible refine Ext.trans ?_ (by with_reducible assumption)))⟩
  · have hA' : decide (t ≤ (nth ms 0).shown) = false := by simpa using hA
    by_cases hB : (nth ms (ms.length - 1)).shown ≤ t
    · have hfin : trueT ms t = t + (nth ms (ms.length - 1)).real - (nth ms (ms.length - 1)).shown := by rw [trueT, if_neg hA, if_pos hB]
      have HF := Lib.hid hfin; clear hfin hcell h hm hv hr
      go_enter Try.func37, Try.ntmps37
      go_wp2
      refine wp_region_ext (by kernel_rfl) (by kernel_rfl) ?_
      repeat (go_big_quiet_step (fail))
      refine wpQuiet_nil ?_
      rintro _ ⟨⟨w1, hx1⟩, rfl⟩
      go_wp2
      go_ret
      exact ⟨ret_i (by rw [HF.out]), (by repeat (first | (with_reducible exact Ext.refl _) | (with_reducible assumption) | with_reducible refine Ext.drew ?_ | with_reducible refine Ext.alloc ?_ _ | with_reducible refine Ext.setCell ?_ (by first | (simp; done) | (simp; omega) | omega) _ | with_reducible refine Ext.trans ?_ (by with_reducible assumption)))⟩
    · have hfin : trueT ms t = segT ms t (segF ms t ms.length 0) := by rw [trueT, if_neg hA, if_neg hB]
      have HF := Lib.hid hfin; clear hfin
      have hB' : decide ((nth ms (ms.length - 1)).shown ≤ t) = false := by simpa using hB
      clear g0 g1 g2 g3 d1 h
      go_enter Try.func37, Try.ntmps37
      go_wp2
      clear d0
      go_loopw [6] (fun i wr => ∃ k : Nat, k + 1 < ms.length ∧ i = .int .i64 ((k : Int) + 1) ∧ (nth ms k).shown < t ∧ segF ms t (ms.length - k) k = segF ms t ms.length 0 ∧ Ext w wr) (fun i _ => ms.length - (intOf i).toNat)
      case atStart => exact ⟨0, by by_cases e : ms.length = 1; (rw [e, Nat.sub_self] at hB; omega); omega, rfl, by omega, rfl, (by repeat (first | (with_reducible exact Ext.refl _) | (with_reducible assumption) | with_reducible refine Ext.drew ?_ | with_reducible refine Ext.alloc ?_ _ | with_reducible refine Ext.setCell ?_ (by first | (simp; done) | (simp; omega) | omega) _ | with_reducible refine Ext.trans ?_ (by with_reducible assumption)))⟩
      case round =>
        obtain ⟨k, hk, rfl, hlt, hs, hx⟩ := hrel
        have HS := Lib.hid hs; clear hs
        have hvk := hv k (by omega)
        have hvk1 := hv (k + 1) (by omega)
        have hrk := hr (k + 1) (by omega) hk
        rw [Nat.add_sub_cancel] at hrk
        have p0 := hx.cells (hcell k (by omega) 0 (by decide))
        have p1 := hx.cells (hcell k (by omega) 1 (by decide))
        have q0 := hx.cells (hcell (k + 1) hk 0 (by decide))
        have q1 := hx.cells (hcell (k + 1) hk 1 (by decide))
        simp only [Mark.c0, Mark.c1, Nat.add_zero] at p0 p1 q0 q1
        clear e0 e1
        by_cases hC : (nth ms (k + 1)).shown < t
        · have hk2 : k + 1 + 1 < ms.length := by
            by_cases e : k + 1 + 1 = ms.length
            · rw [← e] at hB; simp at hB; omega
            · omega
          have hss : segF ms t (ms.length - (k + 1)) (k + 1) = segF ms t ms.length 0 := by
            rw [← HS.out, show ms.length - k = (ms.length - (k + 1)) + 1 by omega, segF_yes hC]
          have HSS := Lib.hid hss; clear hss
          clear hcell hv hr
          go_wp2
          go_roundw
          case rel => exact ⟨k + 1, hk2, by rw [Int.natCast_add]; rfl, hC, HSS.out, (by repeat (first | (with_reducible exact Ext.refl _) | (with_reducible assumption) | with_reducible refine Ext.drew ?_ | with_reducible refine Ext.alloc ?_ _ | with_reducible refine Ext.setCell ?_ (by first | (simp; done) | (simp; omega) | omega) _ | with_reducible refine Ext.trans ?_ (by with_reducible assumption)))⟩
          case measure => simp [intOf]; omega
        · have hseg : segF ms t ms.length 0 = k := by rw [← HS.out, segF_no hC]
          rw [hseg] at HF
          have hsm := seg_small (sa := (nth ms k).shown) (sb := (nth ms (k + 1)).shown) (ra := (nth ms k).real) (rb := (nth ms (k + 1)).real) (t := t) (by omega) (by omega) (by omega) (by omega) (by omega) (by omega) (by omega)
          have hq := seg_quot hsm.1 hsm.2 (show 0 < (nth ms (k + 1)).shown - (nth ms k).shown by omega)
          have hbw : b < wr.heap.size := World.block_lt_of_cell? _ _ p0
          clear hcell hv hr hseg HS
          go_wp2
          go_region
          all_goals
            go_wp2
            go_quiet (fail)
            go_wp2
            go_ret
            refine ⟨ret_i (by rw [HF.out]; rfl), ?_⟩
            refine Ext.drewN ?_ _
            exact (by repeat (first | (with_reducible exact Ext.refl _) | (with_reducible assumption) | with_reducible refine Ext.drew ?_ | with_reducible refine Ext.alloc ?_ _ | with_reducible refine Ext.setCell ?_ (by first | (simp; done) | (simp; omega) | omega) _ | with_reducible refine Ext.trans ?_ (by with_reducible assumption)))

end Go.Proofs.Ytemencnfackplaa
