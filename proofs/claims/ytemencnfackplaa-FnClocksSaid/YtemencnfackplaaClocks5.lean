/-
  Proved here: what TrueTime, OffsetAt and their references return.
  Conditions: the number of marks fits an int.
-/
import Derived.Test.YtemencnfackplaaClocks4
namespace Go.Proofs.Ytemencnfackplaa
open Go.RowKit

/-- whether there is a true time -/
def ttB (ms : List Mark) (t : Int) : Bool := marksB ms && inB t 0 36000 && inB (trueT ms t) 0 36000
def gTrue (ms : List Mark) (t : Int) : Value := if ttB ms t then .tuple #[.int .i64 (trueT ms t), .bool true] else .tuple #[.int .i64 0, .bool false]
def gOffs (ms : List Mark) (t : Int) : Value := if ttB ms t then .tuple #[.int .i64 (trueT ms t - t), .bool true] else .tuple #[.int .i64 0, .bool false]

set_option maxHeartbeats 1000000 in
theorem impl_TrueTime {ao : Option Addr} {cap : Nat} {ms : List Mark} {t : Int} {w : World} (h : RowAt w ao 2 ms.length (fun k => (nth ms k).c)) (hn : ms.length ≤ 9223372036854775807) (_ht : I64 t) :
    Calls Try.prog 15 #[.slice ao ms.length cap, .int .i64 t] w fun e w' => e = .returned (gTrue ms t) ∧ Ext w w' := by
  by_cases hm : marksB ms = true
  · by_cases hT : inB t 0 36000 = true
    · by_cases hC : inB (trueT ms t) 0 36000 = true
      · have hfin : gTrue ms t = .tuple #[.int .i64 (trueT ms t), .bool true] := by simp [gTrue, ttB, hm, hT, hC]
        have hfin : gTrue ms t = .tuple #[.int .i64 (trueT ms t), .bool true] := by simp [gTrue, ttB, hm, hT, hC]
        rw [hfin]; clear hfin
        go_enter Try.func15, Try.ntmps15
        go_wp2_with (first | (go_at_call 17; refine (impl_AreClockMarks (h.ext (by repeat (first | (with_reducible exact Ext.refl _) | (with_reducible assumption) | with_reducible refine Ext.drew ?_ | with_reducible refine Ext.alloc ?_ _ | with_reducible refine Ext.setCell ?_ (by first | (simp; done) | (simp; omega) | omega) _ | with_reducible refine Ext.trans ?_ (by with_reducible assumption)))) hn).mono ?_; rintro e w1 ⟨rfl, hx1⟩) | (go_at_call 35; refine (impl_trueTime (h.ext (by repeat (first | (with_reducible exact Ext.refl _) | (with_reducible assumption) | with_reducible refine Ext.drew ?_ | with_reducible refine Ext.alloc ?_ _ | with_reducible refine Ext.setCell ?_ (by first | (simp; done) | (simp; omega) | omega) _ | with_reducible refine Ext.trans ?_ (by with_reducible assumption)))) hm (inB_iff.1 hT)).mono ?_; rintro e w1 ⟨rfl, hx1⟩) | (go_at_call 34; refine (impl_isTime).mono ?_; rintro e w1 ⟨rfl, rfl⟩))
        go_ret2
        exact ⟨rfl, (by repeat (first | (with_reducible exact Ext.refl _) | (with_reducible assumption) | with_reducible refine Ext.drew ?_ | with_reducible refine Ext.alloc ?_ _ | with_reducible refine Ext.setCell ?_ (by first | (simp; done) | (simp; omega) | omega) _ | with_reducible refine Ext.trans ?_ (by with_reducible assumption)))⟩
      · have hfin : gTrue ms t = .tuple #[.int .i64 0, .bool false] := by simp [gTrue, ttB, hC]
        have hfin : gTrue ms t = .tuple #[.int .i64 0, .bool false] := by simp [gTrue, ttB, hC]
        rw [hfin]; clear hfin
        go_enter Try.func15, Try.ntmps15
        go_wp2_with (first | (go_at_call 17; refine (impl_AreClockMarks (h.ext (by repeat (first | (with_reducible exact Ext.refl _) | (with_reducible assumption) | with_reducible refine Ext.drew ?_ | with_reducible refine Ext.alloc ?_ _ | with_reducible refine Ext.setCell ?_ (by first | (simp; done) | (simp; omega) | omega) _ | with_reducible refine Ext.trans ?_ (by with_reducible assumption)))) hn).mono ?_; rintro e w1 ⟨rfl, hx1⟩) | (go_at_call 35; refine (impl_trueTime (h.ext (by repeat (first | (with_reducible exact Ext.refl _) | (with_reducible assumption) | with_reducible refine Ext.drew ?_ | with_reducible refine Ext.alloc ?_ _ | with_reducible refine Ext.setCell ?_ (by first | (simp; done) | (simp; omega) | omega) _ | with_reducible refine Ext.trans ?_ (by with_reducible assumption)))) hm (inB_iff.1 hT)).mono ?_; rintro e w1 ⟨rfl, hx1⟩) | (go_at_call 34; refine (impl_isTime).mono ?_; rintro e w1 ⟨rfl, rfl⟩))
        go_ret2
        exact ⟨rfl, (by repeat (first | (with_reducible exact Ext.refl _) | (with_reducible assumption) | with_reducible refine Ext.drew ?_ | with_reducible refine Ext.alloc ?_ _ | with_reducible refine Ext.setCell ?_ (by first | (simp; done) | (simp; omega) | omega) _ | with_reducible refine Ext.trans ?_ (by with_reducible assumption)))⟩
    · have hfin : gTrue ms t = .tuple #[.int .i64 0, .bool false] := by simp [gTrue, ttB, hT]
      have hfin : gTrue ms t = .tuple #[.int .i64 0, .bool false] := by simp [gTrue, ttB, hT]
      rw [hfin]; clear hfin
      go_enter Try.func15, Try.ntmps15
      go_wp2_with (first | (go_at_call 17; refine (impl_AreClockMarks (h.ext (by repeat (first | (with_reducible exact Ext.refl _) | (with_reducible assumption) | with_reducible refine Ext.drew ?_ | with_reducible refine Ext.alloc ?_ _ | with_reducible refine Ext.setCell ?_ (by first | (simp; done) | (simp; omega) | omega) _ | with_reducible refine Ext.trans ?_ (by with_reducible assumption)))) hn).mono ?_; rintro e w1 ⟨rfl, hx1⟩) | (go_at_call 34; refine (impl_isTime).mono ?_; rintro e w1 ⟨rfl, rfl⟩))
      go_ret2
      exact ⟨rfl, (by repeat (first | (with_reducible exact Ext.refl _) | (with_reducible assumption) | with_reducible refine Ext.drew ?_ | with_reducible refine Ext.alloc ?_ _ | with_reducible refine Ext.setCell ?_ (by first | (simp; done) | (simp; omega) | omega) _ | with_reducible refine Ext.trans ?_ (by with_reducible assumption)))⟩
  · have hfin : gTrue ms t = .tuple #[.int .i64 0, .bool false] := by simp [gTrue, ttB, hm]
    have hfin : gTrue ms t = .tuple #[.int .i64 0, .bool false] := by simp [gTrue, ttB, hm]
    rw [hfin]; clear hfin
    go_enter Try.func15, Try.ntmps15
    go_wp2_with ((go_at_call 17; refine (impl_AreClockMarks (h.ext (by repeat (first | (with_reducible exact Ext.refl _) | (with_reducible assumption) | with_reducible refine Ext.drew ?_ | with_reducible refine Ext.alloc ?_ _ | with_reducible refine Ext.setCell ?_ (by first | (simp; done) | (simp; omega) | omega) _ | with_reducible refine Ext.trans ?_ (by with_reducible assumption)))) hn).mono ?_; rintro e w1 ⟨rfl, hx1⟩))
    go_ret2
    exact ⟨rfl, (by repeat (first | (with_reducible exact Ext.refl _) | (with_reducible assumption) | with_reducible refine Ext.drew ?_ | with_reducible refine Ext.alloc ?_ _ | with_reducible refine Ext.setCell ?_ (by first | (simp; done) | (simp; omega) | omega) _ | with_reducible refine Ext.trans ?_ (by with_reducible assumption)))⟩

set_option maxHeartbeats 1000000 in
theorem spec_l13Asked {ao : Option Addr} {cap : Nat} {ms : List Mark} {t : Int} {w : World} (h : RowAt w ao 2 ms.length (fun k => (nth ms k).c)) (hn : ms.length ≤ 9223372036854775807) (_ht : I64 t) :
    Calls Try.prog 36 #[.slice ao ms.length cap, .int .i64 t] w fun e w' => e = .returned (.bool (ttB ms t)) ∧ Ext w w' := by
  by_cases hm : marksB ms = true
  · by_cases hT : inB t 0 36000 = true
    · by_cases hC : inB (trueT ms t) 0 36000 = true
      · have hfin : ttB ms t = true := by simp [ttB, hm, hT, hC]
        have hfin : ttB ms t = true := by simp [ttB, hm, hT, hC]
        rw [hfin]; clear hfin
        go_enter Try.func36, Try.ntmps36
        go_wp2_with (first | (go_at_call 29; refine (spec_l13Marks (h.ext (by repeat (first | (with_reducible exact Ext.refl _) | (with_reducible assumption) | with_reducible refine Ext.drew ?_ | with_reducible refine Ext.alloc ?_ _ | with_reducible refine Ext.setCell ?_ (by first | (simp; done) | (simp; omega) | omega) _ | with_reducible refine Ext.trans ?_ (by with_reducible assumption)))) hn).mono ?_; rintro e w1 ⟨rfl, hx1⟩) | (go_at_call 37; refine (spec_l13True (h.ext (by repeat (first | (with_reducible exact Ext.refl _) | (with_reducible assumption) | with_reducible refine Ext.drew ?_ | with_reducible refine Ext.alloc ?_ _ | with_reducible refine Ext.setCell ?_ (by first | (simp; done) | (simp; omega) | omega) _ | with_reducible refine Ext.trans ?_ (by with_reducible assumption)))) hm (inB_iff.1 hT)).mono ?_; rintro e w1 ⟨rfl, hx1⟩) | (go_at_call 45; refine (spec_l12Time).mono ?_; rintro e w1 ⟨rfl, rfl⟩))
        go_ret
        exact ⟨rfl, (by repeat (first | (with_reducible exact Ext.refl _) | (with_reducible assumption) | with_reducible refine Ext.drew ?_ | with_reducible refine Ext.alloc ?_ _ | with_reducible refine Ext.setCell ?_ (by first | (simp; done) | (simp; omega) | omega) _ | with_reducible refine Ext.trans ?_ (by with_reducible assumption)))⟩
      · have hfin : ttB ms t = false := by simp [ttB, hC]
        have hfin : ttB ms t = false := by simp [ttB, hC]
        rw [hfin]; clear hfin
        go_enter Try.func36, Try.ntmps36
        go_wp2_with (first | (go_at_call 29; refine (spec_l13Marks (h.ext (by repeat (first | (with_reducible exact Ext.refl _) | (with_reducible assumption) | with_reducible refine Ext.drew ?_ | with_reducible refine Ext.alloc ?_ _ | with_reducible refine Ext.setCell ?_ (by first | (simp; done) | (simp; omega) | omega) _ | with_reducible refine Ext.trans ?_ (by with_reducible assumption)))) hn).mono ?_; rintro e w1 ⟨rfl, hx1⟩) | (go_at_call 37; refine (spec_l13True (h.ext (by repeat (first | (with_reducible exact Ext.refl _) | (with_reducible assumption) | with_reducible refine Ext.drew ?_ | with_reducible refine Ext.alloc ?_ _ | with_reducible refine Ext.setCell ?_ (by first | (simp; done) | (simp; omega) | omega) _ | with_reducible refine Ext.trans ?_ (by with_reducible assumption)))) hm (inB_iff.1 hT)).mono ?_; rintro e w1 ⟨rfl, hx1⟩) | (go_at_call 45; refine (spec_l12Time).mono ?_; rintro e w1 ⟨rfl, rfl⟩))
        go_ret
        exact ⟨rfl, (by repeat (first | (with_reducible exact Ext.refl _) | (with_reducible assumption) | with_reducible refine Ext.drew ?_ | with_reducible refine Ext.alloc ?_ _ | with_reducible refine Ext.setCell ?_ (by first | (simp; done) | (simp; omega) | omega) _ | with_reducible refine Ext.trans ?_ (by with_reducible assumption)))⟩
    · have hfin : ttB ms t = false := by simp [ttB, hT]
      have hfin : ttB ms t = false := by simp [ttB, hT]
      rw [hfin]; clear hfin
      go_enter Try.func36, Try.ntmps36
      go_wp2_with (first | (go_at_call 29; refine (spec_l13Marks (h.ext (by repeat (first | (with_reducible exact Ext.refl _) | (with_reducible assumption) | with_reducible refine Ext.drew ?_ | with_reducible refine Ext.alloc ?_ _ | with_reducible refine Ext.setCell ?_ (by first | (simp; done) | (simp; omega) | omega) _ | with_reducible refine Ext.trans ?_ (by with_reducible assumption)))) hn).mono ?_; rintro e w1 ⟨rfl, hx1⟩) | (go_at_call 45; refine (spec_l12Time).mono ?_; rintro e w1 ⟨rfl, rfl⟩))
      go_ret
      exact ⟨rfl, (by repeat (first | (with_reducible exact Ext.refl _) | (with_reducible assumption) | with_reducible refine Ext.drew ?_ | with_reducible refine Ext.alloc ?_ _ | with_reducible refine Ext.setCell ?_ (by first | (simp; done) | (simp; omega) | omega) _ | with_reducible refine Ext.trans ?_ (by with_reducible assumption)))⟩
  · have hfin : ttB ms t = false := by simp [ttB, hm]
    have hfin : ttB ms t = false := by simp [ttB, hm]
    rw [hfin]; clear hfin
    go_enter Try.func36, Try.ntmps36
    go_wp2_with ((go_at_call 29; refine (spec_l13Marks (h.ext (by repeat (first | (with_reducible exact Ext.refl _) | (with_reducible assumption) | with_reducible refine Ext.drew ?_ | with_reducible refine Ext.alloc ?_ _ | with_reducible refine Ext.setCell ?_ (by first | (simp; done) | (simp; omega) | omega) _ | with_reducible refine Ext.trans ?_ (by with_reducible assumption)))) hn).mono ?_; rintro e w1 ⟨rfl, hx1⟩))
    go_ret
    exact ⟨rfl, (by repeat (first | (with_reducible exact Ext.refl _) | (with_reducible assumption) | with_reducible refine Ext.drew ?_ | with_reducible refine Ext.alloc ?_ _ | with_reducible refine Ext.setCell ?_ (by first | (simp; done) | (simp; omega) | omega) _ | with_reducible refine Ext.trans ?_ (by with_reducible assumption)))⟩

set_option maxHeartbeats 1000000 in
theorem spec_TrueTime {ao : Option Addr} {cap : Nat} {ms : List Mark} {t : Int} {w : World} (h : RowAt w ao 2 ms.length (fun k => (nth ms k).c)) (hn : ms.length ≤ 9223372036854775807) (_ht : I64 t) :
    Calls Try.prog 16 #[.slice ao ms.length cap, .int .i64 t] w fun e w' => e = .returned (gTrue ms t) ∧ Ext w w' := by
  by_cases hC : ttB ms t = true
  · have hfin : gTrue ms t = .tuple #[.int .i64 (trueT ms t), .bool true] := by simp [gTrue, hC]
    rw [hfin]; clear hfin
    have h1 := hC
    simp only [ttB, Bool.and_eq_true] at h1
    obtain ⟨⟨hm, hT⟩, _⟩ := h1
    go_enter Try.func16, Try.ntmps16
    go_wp2_with (first | (go_at_call 36; refine (spec_l13Asked (h.ext (by repeat (first | (with_reducible exact Ext.refl _) | (with_reducible assumption) | with_reducible refine Ext.drew ?_ | with_reducible refine Ext.alloc ?_ _ | with_reducible refine Ext.setCell ?_ (by first | (simp; done) | (simp; omega) | omega) _ | with_reducible refine Ext.trans ?_ (by with_reducible assumption)))) hn _ht).mono ?_; rintro e w1 ⟨rfl, hx1⟩) | (go_at_call 37; refine (spec_l13True (h.ext (by repeat (first | (with_reducible exact Ext.refl _) | (with_reducible assumption) | with_reducible refine Ext.drew ?_ | with_reducible refine Ext.alloc ?_ _ | with_reducible refine Ext.setCell ?_ (by first | (simp; done) | (simp; omega) | omega) _ | with_reducible refine Ext.trans ?_ (by with_reducible assumption)))) hm (inB_iff.1 hT)).mono ?_; rintro e w1 ⟨rfl, hx1⟩))
    go_ret2
    exact ⟨rfl, (by repeat (first | (with_reducible exact Ext.refl _) | (with_reducible assumption) | with_reducible refine Ext.drew ?_ | with_reducible refine Ext.alloc ?_ _ | with_reducible refine Ext.setCell ?_ (by first | (simp; done) | (simp; omega) | omega) _ | with_reducible refine Ext.trans ?_ (by with_reducible assumption)))⟩
  · have hfin : gTrue ms t = .tuple #[.int .i64 0, .bool false] := by simp [gTrue, hC]
    rw [hfin]; clear hfin
    go_enter Try.func16, Try.ntmps16
    go_wp2_with (go_at_call 36; refine (spec_l13Asked (h.ext (by repeat (first | (with_reducible exact Ext.refl _) | (with_reducible assumption) | with_reducible refine Ext.drew ?_ | with_reducible refine Ext.alloc ?_ _ | with_reducible refine Ext.setCell ?_ (by first | (simp; done) | (simp; omega) | omega) _ | with_reducible refine Ext.trans ?_ (by with_reducible assumption)))) hn _ht).mono ?_; rintro e w1 ⟨rfl, hx1⟩)
    go_ret2
    exact ⟨rfl, (by repeat (first | (with_reducible exact Ext.refl _) | (with_reducible assumption) | with_reducible refine Ext.drew ?_ | with_reducible refine Ext.alloc ?_ _ | with_reducible refine Ext.setCell ?_ (by first | (simp; done) | (simp; omega) | omega) _ | with_reducible refine Ext.trans ?_ (by with_reducible assumption)))⟩

set_option maxHeartbeats 1000000 in
theorem spec_OffsetAt {ao : Option Addr} {cap : Nat} {ms : List Mark} {t : Int} {w : World} (h : RowAt w ao 2 ms.length (fun k => (nth ms k).c)) (hn : ms.length ≤ 9223372036854775807) (_ht : I64 t) :
    Calls Try.prog 20 #[.slice ao ms.length cap, .int .i64 t] w fun e w' => e = .returned (gOffs ms t) ∧ Ext w w' := by
  by_cases hC : ttB ms t = true
  · have hfin : gOffs ms t = .tuple #[.int .i64 (trueT ms t - t), .bool true] := by simp [gOffs, hC]
    rw [hfin]; clear hfin
    have h1 := hC
    simp only [ttB, Bool.and_eq_true] at h1
    obtain ⟨⟨hm, hT⟩, hU⟩ := h1
    have hT' := inB_iff.1 hT
    have hU' := inB_iff.1 hU
    go_enter Try.func20, Try.ntmps20
    go_wp2_with (first | (go_at_call 36; refine (spec_l13Asked (h.ext (by repeat (first | (with_reducible exact Ext.refl _) | (with_reducible assumption) | with_reducible refine Ext.drew ?_ | with_reducible refine Ext.alloc ?_ _ | with_reducible refine Ext.setCell ?_ (by first | (simp; done) | (simp; omega) | omega) _ | with_reducible refine Ext.trans ?_ (by with_reducible assumption)))) hn _ht).mono ?_; rintro e w1 ⟨rfl, hx1⟩) | (go_at_call 37; refine (spec_l13True (h.ext (by repeat (first | (with_reducible exact Ext.refl _) | (with_reducible assumption) | with_reducible refine Ext.drew ?_ | with_reducible refine Ext.alloc ?_ _ | with_reducible refine Ext.setCell ?_ (by first | (simp; done) | (simp; omega) | omega) _ | with_reducible refine Ext.trans ?_ (by with_reducible assumption)))) hm (inB_iff.1 hT)).mono ?_; rintro e w1 ⟨rfl, hx1⟩))
    go_ret2
    exact ⟨rfl, (by repeat (first | (with_reducible exact Ext.refl _) | (with_reducible assumption) | with_reducible refine Ext.drew ?_ | with_reducible refine Ext.alloc ?_ _ | with_reducible refine Ext.setCell ?_ (by first | (simp; done) | (simp; omega) | omega) _ | with_reducible refine Ext.trans ?_ (by with_reducible assumption)))⟩
  · have hfin : gOffs ms t = .tuple #[.int .i64 0, .bool false] := by simp [gOffs, hC]
    rw [hfin]; clear hfin
    go_enter Try.func20, Try.ntmps20
    go_wp2_with (go_at_call 36; refine (spec_l13Asked (h.ext (by repeat (first | (with_reducible exact Ext.refl _) | (with_reducible assumption) | with_reducible refine Ext.drew ?_ | with_reducible refine Ext.alloc ?_ _ | with_reducible refine Ext.setCell ?_ (by first | (simp; done) | (simp; omega) | omega) _ | with_reducible refine Ext.trans ?_ (by with_reducible assumption)))) hn _ht).mono ?_; rintro e w1 ⟨rfl, hx1⟩)
    go_ret2
    exact ⟨rfl, (by repeat (first | (with_reducible exact Ext.refl _) | (with_reducible assumption) | with_reducible refine Ext.drew ?_ | with_reducible refine Ext.alloc ?_ _ | with_reducible refine Ext.setCell ?_ (by first | (simp; done) | (simp; omega) | omega) _ | with_reducible refine Ext.trans ?_ (by with_reducible assumption)))⟩

set_option maxHeartbeats 1000000 in
theorem impl_OffsetAt {ao : Option Addr} {cap : Nat} {ms : List Mark} {t : Int} {w : World} (h : RowAt w ao 2 ms.length (fun k => (nth ms k).c)) (hn : ms.length ≤ 9223372036854775807) (_ht : I64 t) :
    Calls Try.prog 19 #[.slice ao ms.length cap, .int .i64 t] w fun e w' => e = .returned (gOffs ms t) ∧ Ext w w' := by
  have H := impl_TrueTime h hn _ht (cap := cap)
  by_cases hC : ttB ms t = true
  · have hfin : gOffs ms t = .tuple #[.int .i64 (trueT ms t - t), .bool true] := by simp [gOffs, hC]
    rw [hfin]; clear hfin
    rw [show gTrue ms t = .tuple #[.int .i64 (trueT ms t), .bool true] by simp [gTrue, hC]] at H
    have h1 := hC
    simp only [ttB, Bool.and_eq_true] at h1
    obtain ⟨⟨hm, hT⟩, hU⟩ := h1
    have hT' := inB_iff.1 hT
    have hU' := inB_iff.1 hU
    go_enter Try.func19, Try.ntmps19
    go_wp2_with fail
    refine H.mono ?_; rintro e w1 ⟨rfl, hx1⟩
    go_wp2
    go_ret2
    exact ⟨rfl, (by repeat (first | (with_reducible exact Ext.refl _) | (with_reducible assumption) | with_reducible refine Ext.drew ?_ | with_reducible refine Ext.alloc ?_ _ | with_reducible refine Ext.setCell ?_ (by first | (simp; done) | (simp; omega) | omega) _ | with_reducible refine Ext.trans ?_ (by with_reducible assumption)))⟩
  · have hfin : gOffs ms t = .tuple #[.int .i64 0, .bool false] := by simp [gOffs, hC]
    rw [hfin]; clear hfin
    rw [show gTrue ms t = .tuple #[.int .i64 0, .bool false] by simp [gTrue, hC]] at H
    go_enter Try.func19, Try.ntmps19
    go_wp2_with fail
    refine H.mono ?_; rintro e w1 ⟨rfl, hx1⟩
    go_wp2
    go_ret2
    exact ⟨rfl, (by repeat (first | (with_reducible exact Ext.refl _) | (with_reducible assumption) | with_reducible refine Ext.drew ?_ | with_reducible refine Ext.alloc ?_ _ | with_reducible refine Ext.setCell ?_ (by first | (simp; done) | (simp; omega) | omega) _ | with_reducible refine Ext.trans ?_ (by with_reducible assumption)))⟩

end Go.Proofs.Ytemencnfackplaa
