/-
  Proved here: what RunTime and its reference return.
  Conditions: the number of punches fits an int.
-/
import Derived.Test.YtbpcejdpgckkoaaCards1
namespace Go.Proofs.Ytbpcejdpgckkoaa
open Go.RowKit

def gRun (c : CardD) : Value := if cardB c && c.finish != -1 then .tuple #[.int .i64 (c.finish - c.start), .bool true] else .tuple #[.int .i64 0, .bool false]

theorem card_times {c : CardD} (h : cardB c = true) : 0 ≤ c.start ∧ c.start ≤ 36000 ∧ (c.finish ≠ -1 → c.start ≤ c.finish ∧ c.finish ≤ 36000) := by
  simp only [cardB, headB, Bool.and_eq_true, inB_iff, decide_eq_true_eq] at h
  refine ⟨h.1.1.1.2.1, h.1.1.1.2.2, fun hf => ?_⟩
  have := h.1.1.2
  simpa [hf, inB_iff] using this

set_option maxHeartbeats 1000000 in
theorem impl_RunTime {c : CardD} {ao : Option Addr} {cap : Nat} {w : World} (h : RowAt w ao 2 c.ps.length (fun k => (nth c.ps k).c)) (hn : c.ps.length ≤ 9223372036854775807) :
    Calls Try.prog 34 #[c.val ao cap] w fun e w' => e = .returned (gRun c) ∧ Ext w w' := by
  have H := fun x hx => impl_IsCard (w := x) (ao := ao) (cap := cap) (h.ext hx) hn
  by_cases hb : cardB c = true
  · have ht := card_times hb
    rw [hb] at H
    by_cases hf : c.finish = -1
    · have hfin : gRun c = .tuple #[.int .i64 0, .bool false] := by simp [gRun, hf]
      rw [hfin]
      clear hfin
      unfold CardD.val at H ⊢
      rw [hf] at H ⊢
      go_enter Try.func34, Try.ntmps34
      go_wp2_with fail
      refine (H _ (by repeat (first | (with_reducible exact Ext.refl _) | (with_reducible assumption) | with_reducible refine Ext.drew ?_ | with_reducible refine Ext.alloc ?_ _ | with_reducible refine Ext.setCell ?_ (by first | (simp; done) | (simp; omega) | omega) _ | with_reducible refine Ext.trans ?_ (by with_reducible assumption)))).mono ?_; rintro e w1 ⟨rfl, hx1⟩
      have hc := hx1.cellr
      go_wp2
      go_ret2
      exact ⟨rfl, (by repeat (first | (with_reducible exact Ext.refl _) | (with_reducible assumption) | with_reducible refine Ext.drew ?_ | with_reducible refine Ext.alloc ?_ _ | with_reducible refine Ext.setCell ?_ (by first | (simp; done) | (simp; omega) | omega) _ | with_reducible refine Ext.trans ?_ (by with_reducible assumption)))⟩
    · have hfin : gRun c = .tuple #[.int .i64 (c.finish - c.start), .bool true] := by simp [gRun, hf, hb]
      rw [hfin]
      clear hfin
      have hff : (c.finish == -1) = false := by simpa using hf
      have ht2 := ht.2.2 hf
      unfold CardD.val at H ⊢
      go_enter Try.func34, Try.ntmps34
      go_wp2_with fail
      refine (H _ (by repeat (first | (with_reducible exact Ext.refl _) | (with_reducible assumption) | with_reducible refine Ext.drew ?_ | with_reducible refine Ext.alloc ?_ _ | with_reducible refine Ext.setCell ?_ (by first | (simp; done) | (simp; omega) | omega) _ | with_reducible refine Ext.trans ?_ (by with_reducible assumption)))).mono ?_; rintro e w1 ⟨rfl, hx1⟩
      have hc := hx1.cellr
      go_wp2
      all_goals first
        | (go_ret2; exact ⟨ret_ib (by first | rfl | go_num | omega) rfl, (by repeat (first | (with_reducible exact Ext.refl _) | (with_reducible assumption) | with_reducible refine Ext.drew ?_ | with_reducible refine Ext.alloc ?_ _ | with_reducible refine Ext.setCell ?_ (by first | (simp; done) | (simp; omega) | omega) _ | with_reducible refine Ext.trans ?_ (by with_reducible assumption)))⟩)
        | (exfalso; omega)
  · have hfin : gRun c = .tuple #[.int .i64 0, .bool false] := by simp [gRun, hb]
    have hb' : cardB c = false := by simpa using hb
    rw [hfin]
    rw [hb'] at H
    clear hfin
    unfold CardD.val at H ⊢
    go_enter Try.func34, Try.ntmps34
    go_wp2_with fail
    refine (H _ (by repeat (first | (with_reducible exact Ext.refl _) | (with_reducible assumption) | with_reducible refine Ext.drew ?_ | with_reducible refine Ext.alloc ?_ _ | with_reducible refine Ext.setCell ?_ (by first | (simp; done) | (simp; omega) | omega) _ | with_reducible refine Ext.trans ?_ (by with_reducible assumption)))).mono ?_; rintro e w1 ⟨rfl, hx1⟩
    have hc := hx1.cellr
    go_wp2
    go_ret2
    exact ⟨rfl, (by repeat (first | (with_reducible exact Ext.refl _) | (with_reducible assumption) | with_reducible refine Ext.drew ?_ | with_reducible refine Ext.alloc ?_ _ | with_reducible refine Ext.setCell ?_ (by first | (simp; done) | (simp; omega) | omega) _ | with_reducible refine Ext.trans ?_ (by with_reducible assumption)))⟩

set_option maxHeartbeats 1000000 in
theorem spec_RunTime {c : CardD} {ao : Option Addr} {cap : Nat} {w : World} (h : RowAt w ao 2 c.ps.length (fun k => (nth c.ps k).c)) (hn : c.ps.length ≤ 9223372036854775807) :
    Calls Try.prog 38 #[c.val ao cap] w fun e w' => e = .returned (gRun c) ∧ Ext w w' := by
  have H := fun x hx => spec_l12Card (w := x) (ao := ao) (cap := cap) (h.ext hx) hn
  by_cases hb : cardB c = true
  · have ht := card_times hb
    rw [hb] at H
    by_cases hf : c.finish = -1
    · have hfin : gRun c = .tuple #[.int .i64 0, .bool false] := by simp [gRun, hf]
      rw [hfin]
      clear hfin
      unfold CardD.val at H ⊢
      rw [hf] at H ⊢
      go_enter Try.func38, Try.ntmps38
      go_wp2_with fail
      refine (H _ (by repeat (first | (with_reducible exact Ext.refl _) | (with_reducible assumption) | with_reducible refine Ext.drew ?_ | with_reducible refine Ext.alloc ?_ _ | with_reducible refine Ext.setCell ?_ (by first | (simp; done) | (simp; omega) | omega) _ | with_reducible refine Ext.trans ?_ (by with_reducible assumption)))).mono ?_; rintro e w1 ⟨rfl, hx1⟩
      have hc := hx1.cellr
      go_wp2
      go_ret2
      exact ⟨rfl, (by repeat (first | (with_reducible exact Ext.refl _) | (with_reducible assumption) | with_reducible refine Ext.drew ?_ | with_reducible refine Ext.alloc ?_ _ | with_reducible refine Ext.setCell ?_ (by first | (simp; done) | (simp; omega) | omega) _ | with_reducible refine Ext.trans ?_ (by with_reducible assumption)))⟩
    · have hfin : gRun c = .tuple #[.int .i64 (c.finish - c.start), .bool true] := by simp [gRun, hf, hb]
      rw [hfin]
      clear hfin
      have hff : (c.finish == -1) = false := by simpa using hf
      have ht2 := ht.2.2 hf
      unfold CardD.val at H ⊢
      go_enter Try.func38, Try.ntmps38
      go_wp2_with fail
      refine (H _ (by repeat (first | (with_reducible exact Ext.refl _) | (with_reducible assumption) | with_reducible refine Ext.drew ?_ | with_reducible refine Ext.alloc ?_ _ | with_reducible refine Ext.setCell ?_ (by first | (simp; done) | (simp; omega) | omega) _ | with_reducible refine Ext.trans ?_ (by with_reducible assumption)))).mono ?_; rintro e w1 ⟨rfl, hx1⟩
      have hc := hx1.cellr
      go_wp2
      all_goals first
        | (go_ret2; exact ⟨ret_ib (by first | rfl | go_num | omega) rfl, (by repeat (first | (with_reducible exact Ext.refl _) | (with_reducible assumption) | with_reducible refine Ext.drew ?_ | with_reducible refine Ext.alloc ?_ _ | with_reducible refine Ext.setCell ?_ (by first | (simp; done) | (simp; omega) | omega) _ | with_reducible refine Ext.trans ?_ (by with_reducible assumption)))⟩)
        | (exfalso; omega)
  · have hfin : gRun c = .tuple #[.int .i64 0, .bool false] := by simp [gRun, hb]
    have hb' : cardB c = false := by simpa using hb
    rw [hfin]
    rw [hb'] at H
    clear hfin
    unfold CardD.val at H ⊢
    go_enter Try.func38, Try.ntmps38
    go_wp2_with fail
    refine (H _ (by repeat (first | (with_reducible exact Ext.refl _) | (with_reducible assumption) | with_reducible refine Ext.drew ?_ | with_reducible refine Ext.alloc ?_ _ | with_reducible refine Ext.setCell ?_ (by first | (simp; done) | (simp; omega) | omega) _ | with_reducible refine Ext.trans ?_ (by with_reducible assumption)))).mono ?_; rintro e w1 ⟨rfl, hx1⟩
    have hc := hx1.cellr
    go_wp2
    go_ret2
    exact ⟨rfl, (by repeat (first | (with_reducible exact Ext.refl _) | (with_reducible assumption) | with_reducible refine Ext.drew ?_ | with_reducible refine Ext.alloc ?_ _ | with_reducible refine Ext.setCell ?_ (by first | (simp; done) | (simp; omega) | omega) _ | with_reducible refine Ext.trans ?_ (by with_reducible assumption)))⟩

end Go.Proofs.Ytbpcejdpgckkoaa
