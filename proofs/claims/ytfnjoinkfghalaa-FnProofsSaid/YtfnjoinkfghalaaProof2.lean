/-
  Proved here: what AreProofs and its reference return.
  Conditions: the number of proofs fits an int.
-/
import Derived.Test.YtfnjoinkfghalaaProof1
import Derived.Test.YtfnjoinkfghalaaIdxProof
namespace Go.Proofs.Ytfnjoinkfghalaa
open Go.RowKit

def prfsB (xs : List Prf) : Bool := decide (xs.length ≤ 12) && upto (fun k => prfB (nth xs k)) xs.length

theorem impl_AreProofs_1 {r c k t : Int} {g : Bool} {w : World} :
    Calls Try.prog 80 #[.agg #[.int .i64 r, .int .i64 c, .int .i64 k, .int .i64 t, .bool g]] w fun e w' => e = .returned (.bool (!prfB ⟨r, c, k, t, g⟩)) ∧ Ext w w' := by
  go_enter Try.func80, Try.ntmps80
  go_wp2_with (go_at_call 41; refine (impl_IsProof).mono ?_; rintro e w1 ⟨rfl, hx1⟩; have hc1 := Ext.cellr hx1; have hf1 := Ext.frozenr hx1; have hz1 := Ext.size hx1; (try simp at hz1))
  go_ret
  exact ⟨rfl, (by repeat (first | (with_reducible exact Ext.refl _) | (with_reducible assumption) | with_reducible refine Ext.drew ?_ | with_reducible refine Ext.alloc ?_ _ | with_reducible refine Ext.setCell ?_ (by first | (simp; done) | (simp; omega) | omega) _ | with_reducible refine Ext.trans ?_ (by with_reducible assumption)))⟩

theorem impl_AreProofs {ao : Option Addr} {cap : Nat} {ms : List Prf} {w : World} (h : RowAt w ao 5 ms.length (fun k => (nth ms k).c)) (hn : ms.length ≤ 9223372036854775807) :
    Calls Try.prog 32 #[.slice ao ms.length cap] w fun e w' => e = .returned (.bool (prfsB ms)) ∧ Ext w w' := by
  by_cases hl : ms.length ≤ 12
  · have H := containsFunc_Proof (cap := cap) (caps := #[]) (p := fun x => !prfB x) h hn (entersF_of Try.func80 (by kernel_rfl) rfl) (fun r c k t g w' _ => impl_AreProofs_1)
    have hfin : prfsB ms = upto (fun k => prfB (nth ms k)) ms.length := by simp [prfsB, hl]
    rw [hfin]; clear hfin
    simp only [Bool.not_not] at H
    have hl' : (ms.length : Int) ≤ 12 := by omega
    go_enter Try.func32, Try.ntmps32
    go_wp2_with fail
    refine H.mono ?_; rintro e w1 ⟨rfl, hx1⟩
    go_wp2
    go_ret
    exact ⟨ret_b (by simp), (by repeat (first | (with_reducible exact Ext.refl _) | (with_reducible assumption) | with_reducible refine Ext.drew ?_ | with_reducible refine Ext.alloc ?_ _ | with_reducible refine Ext.setCell ?_ (by first | (simp; done) | (simp; omega) | omega) _ | with_reducible refine Ext.trans ?_ (by with_reducible assumption)))⟩
  · have hfin : prfsB ms = false := by simp [prfsB]; omega
    rw [hfin]; clear hfin
    have hl' : ¬ (ms.length : Int) ≤ 12 := by omega
    go_enter Try.func32, Try.ntmps32
    go_wp2
    go_ret
    exact ⟨rfl, (by repeat (first | (with_reducible exact Ext.refl _) | (with_reducible assumption) | with_reducible refine Ext.drew ?_ | with_reducible refine Ext.alloc ?_ _ | with_reducible refine Ext.setCell ?_ (by first | (simp; done) | (simp; omega) | omega) _ | with_reducible refine Ext.trans ?_ (by with_reducible assumption)))⟩

set_option maxHeartbeats 400000 in
theorem spec_l14Good {ao : Option Addr} {cap : Nat} {xs : List Prf} {w : World} (h : RowAt w ao 5 xs.length (fun k => (nth xs k).c)) (hn : xs.length ≤ 9223372036854775807) :
    Calls Try.prog 42 #[.slice ao xs.length cap] w fun e w' => e = .returned (.bool (prfsB xs)) ∧ Ext w w' := by
  have hfin : prfsB xs = (decide (xs.length ≤ 12) && upto (fun k => prfB (nth xs k)) xs.length) := rfl
  have HF := Lib.hid hfin; clear hfin
  go_enter Try.func42, Try.ntmps42
  go_wp2
  go_loopw [3] (fun i wr => ∃ k : Nat, k ≤ xs.length ∧ i = .int .i64 k ∧ Ext w wr ∧ upto (fun k => prfB (nth xs k)) k = true) (fun i _ => xs.length - (intOf i).toNat)
  case atStart => exact ⟨0, Nat.zero_le _, rfl, Ext.refl _, rfl⟩
  case round =>
    obtain ⟨k, hk, rfl, hx, hu⟩ := hrel
    have HU := Lib.hid hu; clear hu
    by_cases hlt : k < xs.length
    · obtain ⟨b, off, rfl, hcell⟩ := h (by omega)
      have d0 := hx.cells (hcell k hlt 0 (by decide))
      have d1 := hx.cells (hcell k hlt 1 (by decide))
      have d2 := hx.cells (hcell k hlt 2 (by decide))
      have d3 := hx.cells (hcell k hlt 3 (by decide))
      have d4 := hx.cells (hcell k hlt 4 (by decide))
      simp only [Prf.c0, Prf.c1, Prf.c2, Prf.c3, Prf.c4, Nat.add_zero] at d0 d1 d2 d3 d4
      clear hcell h
      cases hpk : prfB (nth xs k)
      all_goals
        go_wp2_with fail
        refine spec_l14One.mono ?_; rintro e w1 ⟨rfl, hx1⟩
        rw [show prfB _ = _ from hpk]
        go_wp2
      · go_ret
        exact ⟨ret_b (by rw [HF.out, upto_false hlt hpk]; simp), (by repeat (first | (with_reducible exact Ext.refl _) | (with_reducible assumption) | with_reducible refine Ext.drew ?_ | with_reducible refine Ext.alloc ?_ _ | with_reducible refine Ext.setCell ?_ (by first | (simp; done) | (simp; omega) | omega) _ | with_reducible refine Ext.trans ?_ (by with_reducible assumption)))⟩
      · go_roundw
        case rel => exact ⟨k + 1, by omega, by go_num, (by repeat (first | (with_reducible exact Ext.refl _) | (with_reducible assumption) | with_reducible refine Ext.drew ?_ | with_reducible refine Ext.alloc ?_ _ | with_reducible refine Ext.setCell ?_ (by first | (simp; done) | (simp; omega) | omega) _ | with_reducible refine Ext.trans ?_ (by with_reducible assumption))), upto_succ HU.out hpk⟩
        case measure => simp [intOf]; omega
    · have hkn : k = xs.length := by omega
      subst hkn
      go_wp2
      go_ret
      exact ⟨ret_b (by rw [HF.out, HU.out]; simp; omega), (by repeat (first | (with_reducible exact Ext.refl _) | (with_reducible assumption) | with_reducible refine Ext.drew ?_ | with_reducible refine Ext.alloc ?_ _ | with_reducible refine Ext.setCell ?_ (by first | (simp; done) | (simp; omega) | omega) _ | with_reducible refine Ext.trans ?_ (by with_reducible assumption)))⟩

end Go.Proofs.Ytfnjoinkfghalaa
