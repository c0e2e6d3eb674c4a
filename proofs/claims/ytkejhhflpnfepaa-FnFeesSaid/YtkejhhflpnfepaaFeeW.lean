/-
  Proved here: what AreFees, dueFor, DueFor and their references return; what OpenSums, ClubBill and their references return; what the reference's l11Open returns; what ClubBill returns; what the reference's OpenSums and ClubBill return.
  Conditions: those in each statement.
-/
import Derived.Test.YtkejhhflpnfepaaFeePl
import Derived.Test.YtkejhhflpnfepaaFee2
import Derived.Test.YtkejhhflpnfepaaEnt1
import Derived.Test.YtkejhhflpnfepaaCls
namespace Go.Proofs.Ytkejhhflpnfepaa
open Go.RowKit

theorem impl_AreFees {a c r l : Int} {w : World} :
    Calls Try.prog 35 #[.agg #[.int .i64 a, .int .i64 c, .int .i64 r, .int .i64 l]] w fun e w' => e = .returned (.bool (feeB ⟨a, c, r, l⟩)) ∧ Ext w w' := by
  go_enter Try.func35, Try.ntmps35
  go_wp2_with (go_at_call 56; refine (impl_inside).mono ?_; rintro e w1 ⟨rfl, rfl⟩)
  all_goals go_ret
  all_goals exact ⟨ret_b (by simp [feeB, *]), (by repeat (first | (with_reducible exact Ext.refl _) | (with_reducible assumption) | with_reducible refine Ext.drew ?_ | with_reducible refine Ext.alloc ?_ _ | with_reducible refine Ext.setCell ?_ (by first | (simp; done) | (simp; omega) | omega) _ | with_reducible refine Ext.trans ?_ (by with_reducible assumption)))⟩
theorem spec_l11Fees {a c r l : Int} {w : World} :
    Calls Try.prog 67 #[.agg #[.int .i64 a, .int .i64 c, .int .i64 r, .int .i64 l]] w fun e w' => e = .returned (.bool (feeB ⟨a, c, r, l⟩)) ∧ Ext w w' := by
  go_enter Try.func67, Try.ntmps67
  go_wp2_with (go_at_call 57; refine (spec_l1In).mono ?_; rintro e w1 ⟨rfl, rfl⟩)
  all_goals go_ret
  all_goals exact ⟨ret_b (by simp [feeB, *]), (by repeat (first | (with_reducible exact Ext.refl _) | (with_reducible assumption) | with_reducible refine Ext.drew ?_ | with_reducible refine Ext.alloc ?_ _ | with_reducible refine Ext.setCell ?_ (by first | (simp; done) | (simp; omega) | omega) _ | with_reducible refine Ext.trans ?_ (by with_reducible assumption)))⟩

/-- a runner's year of birth is one of the years told -/
def yearOk (x : Rnr) : Prop := 1920 ≤ x.born ∧ x.born ≤ 2020
theorem rnsB_year {xs : List Rnr} (h : rnsB xs = true) {k : Nat} (hk : k < xs.length) : yearOk (nth xs k) := by
  unfold rnsB at h; rw [Bool.and_eq_true, upto_true] at h
  have h1 := h.1 k hk
  unfold okRn at h1; simp only [Bool.and_eq_true] at h1
  have h2 := h1.1.1
  unfold rnB at h2; simp only [Bool.and_eq_true, inB_iff] at h2
  exact h2.1.2
theorem rnsB_len {xs : List Rnr} (h : rnsB xs = true) : xs.length ≤ 10 := by
  unfold rnsB at h; rw [Bool.and_eq_true] at h; simpa using h.2

/-- what DueFor returns -/
def dueR (f : Fee) (xs : List Rnr) (x : Ent) : Value := if feeB f && rnsB xs && entB x then .tuple #[.int .i64 (dueE f xs x), .bool (hasR xs x.runner)] else .tuple #[.int .i64 0, .bool false]

theorem spec_l11Due {a c r l i b k : Int} {n u : ByteArray} {g : Bool} {e1 e2 d p : Int} {t : Bool} {w : World} (hf : FeeOk ⟨a, c, r, l⟩) (hy : 1920 ≤ b ∧ b ≤ 2020) :
    Calls Try.prog 70 #[.agg #[.int .i64 a, .int .i64 c, .int .i64 r, .int .i64 l], .agg #[.int .i64 i, .string n, .string u, .int .i64 b, .bool g, .int .i64 k], .agg #[.int .i64 e1, .int .i64 e2, .int .i64 d, .bool t, .int .i64 p]] w fun e w' => e = .returned (.int .i64 (dueV ⟨a, c, r, l⟩ ⟨i, n, u, b, g, k⟩ ⟨e1, e2, d, t, p⟩)) ∧ Ext w w' := by
  have ha := hf.a; have hc := hf.c; have hr := hf.r; have hl := hf.l
  simp only at ha hc hr hl
  have HF := Lib.hid hf; clear hf
  have q1 := prod_bd ha hl
  have q2 := prod_bd hc hl
  have e3 : a * (100 + l) = 100 * a + a * l := by rw [Int.mul_add]; omega
  have e4 : c * (100 + l) = 100 * c + c * l := by rw [Int.mul_add]; omega
  have b3 : 0 ≤ a * (100 + l) ∧ a * (100 + l) ≤ 4000000 := by omega
  have b4 : 0 ≤ c * (100 + l) ∧ c * (100 + l) ≤ 4000000 := by omega
  have f3 := Lib.hid e3; have f4 := Lib.hid e4
  clear e3 e4
  go_enter Try.func70, Try.ntmps70
  by_cases h1 : 2026 - b < 18 <;> by_cases h2 : 300 ≤ d <;> cases t
  all_goals go_wp2
  all_goals go_ret
  all_goals refine ⟨ret_i ?_, (by repeat (first | (with_reducible exact Ext.refl _) | (with_reducible assumption) | with_reducible refine Ext.drew ?_ | with_reducible refine Ext.alloc ?_ _ | with_reducible refine Ext.setCell ?_ (by first | (simp; done) | (simp; omega) | omega) _ | with_reducible refine Ext.trans ?_ (by with_reducible assumption)))⟩
  all_goals have g3 := f3.out
  all_goals have g4 := f4.out
  all_goals simp only [dueV, lateV, baseV, eq_self, if_true, if_false, Bool.false_eq_true]
  all_goals repeat' split
  all_goals omega

set_option maxRecDepth 100000 in
set_option maxHeartbeats 2000000 in
theorem impl_dueFor {ao : Option Addr} {cap : Nat} {xs : List Rnr} {a c r l : Int} {e1 e2 d p : Int} {t : Bool} {w : World} (h : RowAt w ao 6 xs.length (fun k => (nth xs k).c)) (hn : xs.length ≤ 9223372036854775807) (hf : FeeOk ⟨a, c, r, l⟩) (hy : ∀ k, k < xs.length → yearOk (nth xs k)) :
    Calls Try.prog 61 #[.agg #[.int .i64 a, .int .i64 c, .int .i64 r, .int .i64 l], .slice ao xs.length cap, .agg #[.int .i64 e1, .int .i64 e2, .int .i64 d, .bool t, .int .i64 p]] w fun e w' => e = .returned (.tuple #[.int .i64 (dueE ⟨a, c, r, l⟩ xs ⟨e1, e2, d, t, p⟩), .bool (hasR xs e1)]) ∧ Ext w w' := by
  have ha := hf.a; have hc := hf.c; have hr := hf.r; have hl := hf.l
  simp only at ha hc hr hl
  clear hf
  have q1 := prod_bd ha hl
  have q2 := prod_bd hc hl
  have hx0 : Ext w ((w.alloc (.cells #[.int .i64 a, .int .i64 c, .int .i64 r, .int .i64 l] 50)).alloc (.cells #[.int .i64 e1, .int .i64 e2, .int .i64 d, .bool t, .int .i64 p] 26)) := ((Ext.refl _).alloc _).alloc _
  have HI := Lib.hid (impl_runnerIndex (cap := cap) (x := e1) (h.ext hx0) hn)
  clear hx0
  have HH := Lib.hid h; clear h
  go_enter Try.func61, Try.ntmps61
  go_wp2_with fail
  have HI2 := HI.out; clear HI
  refine HI2.mono ?_; rintro e w1 ⟨rfl, hx1⟩
  have f0 : w1.cell? ⟨w.heap.size, 0, none⟩ = some (.int .i64 a) := hx1.cells (by go_simp)
  have f1 : w1.cell? ⟨w.heap.size, 1, none⟩ = some (.int .i64 c) := hx1.cells (by go_simp)
  have f2 : w1.cell? ⟨w.heap.size, 2, none⟩ = some (.int .i64 r) := hx1.cells (by go_simp)
  have f3 : w1.cell? ⟨w.heap.size, 3, none⟩ = some (.int .i64 l) := hx1.cells (by go_simp)
  have f4 : w1.cell? ⟨w.heap.size + 1, 2, none⟩ = some (.int .i64 d) := hx1.cells (by go_simp)
  have f5 : w1.cell? ⟨w.heap.size + 1, 3, none⟩ = some (.bool t) := hx1.cells (by go_simp)
  have hx2 : Ext w w1 := (((Ext.refl _).alloc _).alloc _).trans hx1
  rcases rnIx_cases xs xs.length e1 with hk | ⟨k, hk, hkk⟩
  · have HX := Lib.hid hx2
    rw [hk]
    clear f0 f1 f2 f3 f4 f5 hx1 hx2
    go_wp2
    go_ret2
    exact ⟨ret_ib (by rw [dueE_no (by simp only; omega)]) (by simp [hasR, hk]), HX.out⟩
  · have hyk := hy k hk
    obtain ⟨b, off, rfl, hcell⟩ := HH.out (by omega)
    have d3 := hx2.cells (hcell k hk 3 (by decide))
    simp only [Rnr.c3] at d3
    have HX := Lib.hid hx2
    have HK := Lib.hid hkk
    rw [hkk]
    clear hx1 hx2 hkk hcell HH
    obtain ⟨hy1, hy2⟩ := hyk
    by_cases h1 : 2026 - (nth xs k).born < 18 <;> by_cases h2 : 300 ≤ d <;> cases t
    all_goals go_wp2
    all_goals go_ret2
    all_goals refine ⟨ret_ib ?_ (by simp [hasR, HK.out]), HX.out⟩
    all_goals rw [dueE_at (k := k) HK.out]
    all_goals simp only [dueV, lateV, baseV, eq_self, if_true, if_false, Bool.false_eq_true]
    all_goals repeat' split
    all_goals omega

set_option maxRecDepth 100000 in
set_option maxHeartbeats 2000000 in
theorem impl_DueFor {ao : Option Addr} {cap : Nat} {xs : List Rnr} {a c r l : Int} {e1 e2 d p : Int} {t : Bool} {w : World} (h : RowAt w ao 6 xs.length (fun k => (nth xs k).c)) (hn : xs.length ≤ 9223372036854775807) (hs : ∀ k, k < xs.length → (nth xs k).name.size ≤ 9223372036854775807 ∧ (nth xs k).club.size ≤ 9223372036854775807) (hcap : xs.length ≤ cap) :
    Calls Try.prog 30 #[.agg #[.int .i64 a, .int .i64 c, .int .i64 r, .int .i64 l], .slice ao xs.length cap, .agg #[.int .i64 e1, .int .i64 e2, .int .i64 d, .bool t, .int .i64 p]] w fun e w' => e = .returned (dueR ⟨a, c, r, l⟩ xs ⟨e1, e2, d, t, p⟩) ∧ Ext w w' := by
  have HR := Lib.hid (fun y (hy : Ext w y) => impl_AreRunners (cap := cap) (h.ext hy) hn hs hcap)
  have HD := Lib.hid (fun y (hy : Ext w y) h1 h2 => impl_dueFor (cap := cap) (xs := xs) (a := a) (c := c) (r := r) (l := l) (e1 := e1) (e2 := e2) (d := d) (t := t) (p := p) (h.ext hy) hn h1 h2)
  clear h hs hcap
  go_enter Try.func30, Try.ntmps30
  go_wp2_with (first
    | (go_at_call 35; ((with_reducible refine impl_AreFees.mono ?_); rintro e w1 ⟨rfl, hx1⟩; have b0 : w1.cell? ⟨w.heap.size, 0, none⟩ = some (.int .i64 a) := hx1.cells (by go_simp); have b1 : w1.cell? ⟨w.heap.size, 1, none⟩ = some (.int .i64 c) := hx1.cells (by go_simp); have b2 : w1.cell? ⟨w.heap.size, 2, none⟩ = some (.int .i64 r) := hx1.cells (by go_simp); have b3 : w1.cell? ⟨w.heap.size, 3, none⟩ = some (.int .i64 l) := hx1.cells (by go_simp); have b4 : w1.cell? ⟨w.heap.size + 1, 0, none⟩ = some (.int .i64 e1) := hx1.cells (by go_simp); have b5 : w1.cell? ⟨w.heap.size + 1, 1, none⟩ = some (.int .i64 e2) := hx1.cells (by go_simp); have b6 : w1.cell? ⟨w.heap.size + 1, 2, none⟩ = some (.int .i64 d) := hx1.cells (by go_simp); have b7 : w1.cell? ⟨w.heap.size + 1, 3, none⟩ = some (.bool t) := hx1.cells (by go_simp); have b8 : w1.cell? ⟨w.heap.size + 1, 4, none⟩ = some (.int .i64 p) := hx1.cells (by go_simp)))
    | (go_at_call 60; ((with_reducible refine (HR.out _ ((by repeat (first | (with_reducible exact Ext.refl _) | (with_reducible assumption) | with_reducible refine Ext.drew ?_ | with_reducible refine Ext.alloc ?_ _ | with_reducible refine Ext.setCell ?_ (by first | (simp; done) | (simp; omega) | omega) _ | with_reducible refine Ext.trans ?_ (by with_reducible assumption))))).mono ?_); rintro e w2 ⟨rfl, hx2⟩; replace b0 := hx2.cells b0; replace b1 := hx2.cells b1; replace b2 := hx2.cells b2; replace b3 := hx2.cells b3; replace b4 := hx2.cells b4; replace b5 := hx2.cells b5; replace b6 := hx2.cells b6; replace b7 := hx2.cells b7; replace b8 := hx2.cells b8))
    | (go_at_call 50; ((with_reducible refine impl_isEntry.mono ?_); rintro e w3 ⟨rfl, hx3⟩; replace b0 := hx3.cells b0; replace b1 := hx3.cells b1; replace b2 := hx3.cells b2; replace b3 := hx3.cells b3; replace b4 := hx3.cells b4; replace b5 := hx3.cells b5; replace b6 := hx3.cells b6; replace b7 := hx3.cells b7; replace b8 := hx3.cells b8))
    | (go_at_call 61; ((with_reducible refine (HD.out _ ((by repeat (first | (with_reducible exact Ext.refl _) | (with_reducible assumption) | with_reducible refine Ext.drew ?_ | with_reducible refine Ext.alloc ?_ _ | with_reducible refine Ext.setCell ?_ (by first | (simp; done) | (simp; omega) | omega) _ | with_reducible refine Ext.trans ?_ (by with_reducible assumption)))) (feeB_ok (by assumption)) (fun k hk => rnsB_year (by assumption) hk)).mono ?_); rintro e w4 ⟨rfl, hx4⟩)))
  all_goals go_ret2
  all_goals first | (refine ⟨?_, (by repeat (first | (with_reducible exact Ext.refl _) | (with_reducible assumption) | with_reducible refine Ext.drew ?_ | with_reducible refine Ext.alloc ?_ _ | with_reducible refine Ext.setCell ?_ (by first | (simp; done) | (simp; omega) | omega) _ | with_reducible refine Ext.trans ?_ (by with_reducible assumption)))⟩; simp [dueR, *]; done) | (rename_i hq; refine ⟨?_, (by repeat (first | (with_reducible exact Ext.refl _) | (with_reducible assumption) | with_reducible refine Ext.drew ?_ | with_reducible refine Ext.alloc ?_ _ | with_reducible refine Ext.setCell ?_ (by first | (simp; done) | (simp; omega) | omega) _ | with_reducible refine Ext.trans ?_ (by with_reducible assumption)))⟩; simp at hq; simp [dueR, *]; done)

set_option maxRecDepth 100000 in
set_option maxHeartbeats 2000000 in
theorem spec_DueFor {ao : Option Addr} {cap : Nat} {xs : List Rnr} {a c r l : Int} {e1 e2 d p : Int} {t : Bool} {w : World} (h : RowAt w ao 6 xs.length (fun k => (nth xs k).c)) (hn : xs.length ≤ 9223372036854775807) (hs : ∀ k, k < xs.length → (nth xs k).name.size ≤ 9223372036854775807 ∧ (nth xs k).club.size ≤ 9223372036854775807) :
    Calls Try.prog 34 #[.agg #[.int .i64 a, .int .i64 c, .int .i64 r, .int .i64 l], .slice ao xs.length cap, .agg #[.int .i64 e1, .int .i64 e2, .int .i64 d, .bool t, .int .i64 p]] w fun e w' => e = .returned (dueR ⟨a, c, r, l⟩ xs ⟨e1, e2, d, t, p⟩) ∧ Ext w w' := by
  have HR := Lib.hid (fun y (hy : Ext w y) => spec_l5Good (cap := cap) (h.ext hy) hn hs)
  have HI := Lib.hid (fun y (hy : Ext w y) => spec_l5Find (cap := cap) (x := e1) (h.ext hy) hn)
  have HH := Lib.hid h
  clear h hs
  go_enter Try.func34, Try.ntmps34
  go_wp2_with fail
  refine (HI.out _ (((Ext.refl _).alloc _).alloc _)).mono ?_
  rintro e w1 ⟨rfl, hx1⟩
  have b0 : w1.cell? ⟨w.heap.size, 0, none⟩ = some (.int .i64 a) := hx1.cells (by go_simp)
  have b1 : w1.cell? ⟨w.heap.size, 1, none⟩ = some (.int .i64 c) := hx1.cells (by go_simp)
  have b2 : w1.cell? ⟨w.heap.size, 2, none⟩ = some (.int .i64 r) := hx1.cells (by go_simp)
  have b3 : w1.cell? ⟨w.heap.size, 3, none⟩ = some (.int .i64 l) := hx1.cells (by go_simp)
  have b4 : w1.cell? ⟨w.heap.size + 1, 0, none⟩ = some (.int .i64 e1) := hx1.cells (by go_simp)
  have b5 : w1.cell? ⟨w.heap.size + 1, 1, none⟩ = some (.int .i64 e2) := hx1.cells (by go_simp)
  have b6 : w1.cell? ⟨w.heap.size + 1, 2, none⟩ = some (.int .i64 d) := hx1.cells (by go_simp)
  have b7 : w1.cell? ⟨w.heap.size + 1, 3, none⟩ = some (.bool t) := hx1.cells (by go_simp)
  have b8 : w1.cell? ⟨w.heap.size + 1, 4, none⟩ = some (.int .i64 p) := hx1.cells (by go_simp)
  have hx1 : Ext w w1 := (((Ext.refl _).alloc _).alloc _).trans hx1
  obtain ⟨q, hq⟩ : ∃ q, q = rnIx xs xs.length e1 := ⟨_, rfl⟩
  have HQ := Lib.hid hq
  rw [← hq]
  clear hq
  go_wp2_with (first
    | (go_at_call 67; ((with_reducible refine spec_l11Fees.mono ?_); rintro e w2 ⟨rfl, hx2⟩; replace b0 := hx2.cells b0; replace b1 := hx2.cells b1; replace b2 := hx2.cells b2; replace b3 := hx2.cells b3; replace b4 := hx2.cells b4; replace b5 := hx2.cells b5; replace b6 := hx2.cells b6; replace b7 := hx2.cells b7; replace b8 := hx2.cells b8))
    | (go_at_call 68; ((with_reducible refine (HR.out _ ((by repeat (first | (with_reducible exact Ext.refl _) | (with_reducible assumption) | with_reducible refine Ext.drew ?_ | with_reducible refine Ext.alloc ?_ _ | with_reducible refine Ext.setCell ?_ (by first | (simp; done) | (simp; omega) | omega) _ | with_reducible refine Ext.trans ?_ (by with_reducible assumption))))).mono ?_); rintro e w2 ⟨rfl, hx2⟩; replace b0 := hx2.cells b0; replace b1 := hx2.cells b1; replace b2 := hx2.cells b2; replace b3 := hx2.cells b3; replace b4 := hx2.cells b4; replace b5 := hx2.cells b5; replace b6 := hx2.cells b6; replace b7 := hx2.cells b7; replace b8 := hx2.cells b8))
    | (go_at_call 69; ((with_reducible refine spec_l11One.mono ?_); rintro e w2 ⟨rfl, hx2⟩; replace b0 := hx2.cells b0; replace b1 := hx2.cells b1; replace b2 := hx2.cells b2; replace b3 := hx2.cells b3; replace b4 := hx2.cells b4; replace b5 := hx2.cells b5; replace b6 := hx2.cells b6; replace b7 := hx2.cells b7; replace b8 := hx2.cells b8)))
  · rename_i hq0
    go_ret2
    refine ⟨?_, (by repeat (first | (with_reducible exact Ext.refl _) | (with_reducible assumption) | with_reducible refine Ext.drew ?_ | with_reducible refine Ext.alloc ?_ _ | with_reducible refine Ext.setCell ?_ (by first | (simp; done) | (simp; omega) | omega) _ | with_reducible refine Ext.trans ?_ (by with_reducible assumption)))⟩
    have hq1 := hq0
    rw [HQ.out] at hq1
    have e0 : dueE ⟨a, c, r, l⟩ xs ⟨e1, e2, d, t, p⟩ = 0 := dueE_no hq1
    have e5 : hasR xs e1 = false := by unfold hasR; simpa using hq1
    simp only [dueR, e0, e5]
    split <;> rfl
  · rename_i hz K hK
    have hq0 : ¬ q < 0 := by omega
    clear hz
    have hE : entB ⟨e1, e2, d, t, p⟩ = true := by assumption
    have hF : feeB ⟨a, c, r, l⟩ = true := by assumption
    have hR : rnsB xs = true := by assumption
    rcases rnIx_cases xs xs.length e1 with hk | ⟨k, hk, hkk⟩
    · exact absurd (show q < 0 by rw [HQ.out, hk]; decide) hq0
    obtain rfl : q = (k : Int) := by rw [HQ.out]; exact hkk
    have hyk := rnsB_year hR hk
    have HK := Lib.hid hkk
    have hxw : Ext w w2 := (by repeat (first | (with_reducible exact Ext.refl _) | (with_reducible assumption) | with_reducible refine Ext.drew ?_ | with_reducible refine Ext.alloc ?_ _ | with_reducible refine Ext.setCell ?_ (by first | (simp; done) | (simp; omega) | omega) _ | with_reducible refine Ext.trans ?_ (by with_reducible assumption)))
    have HD := Lib.hid (fun y => spec_l11Due (a := a) (c := c) (r := r) (l := l) (e1 := e1) (e2 := e2) (d := d) (t := t) (p := p) (i := (nth xs k).id) (n := (nth xs k).name) (u := (nth xs k).club) (b := (nth xs k).born) (g := (nth xs k).woman) (k := (nth xs k).card) (w := y) (feeB_ok hF) hyk)
    obtain ⟨b, off, rfl, hcell⟩ := HH.out (by omega)
    have g0 := Grow.cells b0
    have g1 := Grow.cells b1
    have g2 := Grow.cells b2
    have g3 := Grow.cells b3
    have g4 := Grow.cells b4
    have g5 := Grow.cells b5
    have g6 := Grow.cells b6
    have g7 := Grow.cells b7
    have g8 := Grow.cells b8
    have r0 := Grow.cells (hxw.cells (hcell k hk 0 (by decide)))
    have r1 := Grow.cells (hxw.cells (hcell k hk 1 (by decide)))
    have r2 := Grow.cells (hxw.cells (hcell k hk 2 (by decide)))
    have r3 := Grow.cells (hxw.cells (hcell k hk 3 (by decide)))
    have r4 := Grow.cells (hxw.cells (hcell k hk 4 (by decide)))
    have r5 := Grow.cells (hxw.cells (hcell k hk 5 (by decide)))
    simp only [Rnr.c0, Rnr.c1, Rnr.c2, Rnr.c3, Rnr.c4, Rnr.c5, Nat.add_zero] at r0 r1 r2 r3 r4 r5
    have HXW := Lib.hid hxw
    have HEE := Lib.hid hE; have HFF := Lib.hid hF; have HRR := Lib.hid hR
    clear hcell HH b0 b1 b2 b3 b4 b5 b6 b7 b8 hyk hkk hE hF hR hxw HR HI hn
    refine wp_region_ext (by kernel_rfl) (by kernel_rfl) ?_
    repeat (go_big_quiet_step ((go_at_call 70; exact Calls.ext_of (HD.out _))))
    refine wpQuiet_nil ?_
    rintro _ ⟨⟨w1, hx1⟩, rfl⟩
    go_wp2
    go_ret2
    have hx := HXW.out
    refine ⟨?_, (by repeat (first | (with_reducible exact Ext.refl _) | (with_reducible assumption) | with_reducible refine Ext.drew ?_ | with_reducible refine Ext.alloc ?_ _ | with_reducible refine Ext.setCell ?_ (by first | (simp; done) | (simp; omega) | omega) _ | with_reducible refine Ext.trans ?_ (by with_reducible assumption)))⟩
    simp only [dueR, HEE.out, HFF.out, HRR.out, Bool.and_self, if_true]
    rw [dueE_at (k := k) HK.out]
    simp [hasR, HK.out]
  all_goals go_ret2
  all_goals refine ⟨?_, (by repeat (first | (with_reducible exact Ext.refl _) | (with_reducible assumption) | with_reducible refine Ext.drew ?_ | with_reducible refine Ext.alloc ?_ _ | with_reducible refine Ext.setCell ?_ (by first | (simp; done) | (simp; omega) | omega) _ | with_reducible refine Ext.trans ?_ (by with_reducible assumption)))⟩
  all_goals simp [dueR, *]


def opX (f : Fee) (xs : List Rnr) (es : List Ent) : List Int := if opOk f xs es then opL f xs es else []
theorem opOk_a {f : Fee} {xs : List Rnr} {es : List Ent} (h : feeB f = false) : opOk f xs es = false := by simp [opOk, h]
theorem opOk_b {f : Fee} {xs : List Rnr} {es : List Ent} (h : rnsB xs = false) : opOk f xs es = false := by simp [opOk, h]
theorem opOk_c {f : Fee} {xs : List Rnr} {es : List Ent} (h : entsB es = false) : opOk f xs es = false := by simp [opOk, h]
theorem opOk_d {f : Fee} {xs : List Rnr} {es : List Ent} {k : Nat} (hk : k < es.length) (h : hasR xs (nth es k).runner = false) : opOk f xs es = false := by
  unfold opOk; rw [show allR xs es = false from upto_false hk h]; simp
theorem opOk_e {f : Fee} {xs : List Rnr} {es : List Ent} (h1 : feeB f = true) (h2 : rnsB xs = true) (h3 : entsB es = true) (h4 : upto (fun k => hasR xs (nth es k).runner) es.length = true) : opOk f xs es = true := by
  unfold opOk; rw [h1, h2, h3, show allR xs es = true from h4]; rfl
theorem dueE_bd {f : Fee} (h : FeeOk f) (xs : List Rnr) (x : Ent) : 0 ≤ dueE f xs x ∧ dueE f xs x ≤ 60000 := by
  unfold dueE; split
  · omega
  · exact dueV_bd h _ x
theorem ResJ.no {w w' : World} {L : List Int} {B : Bool} {e : Ending} (bo : Option Addr) (bc : Nat) (hL : L = []) (hB : B = false) (h : e = .returned (.tuple #[.slice bo 0 bc, .bool false])) (h1 : Ext w w') : ResJ w L B e w' := by
  subst hL; subst hB; exact .mk bo bc h h1 rowJ_nil
theorem opX_no {f : Fee} {xs : List Rnr} {es : List Ent} (h : opOk f xs es = false) : opX f xs es = [] := by unfold opX; rw [h]; rfl
theorem opX_yes {f : Fee} {xs : List Rnr} {es : List Ent} (h : opOk f xs es = true) : opX f xs es = opL f xs es := by unfold opX; rw [h]; rfl

set_option maxRecDepth 100000 in
set_option maxHeartbeats 2000000 in
theorem impl_OpenSums {ao bo : Option Addr} {cap bcap : Nat} {xs : List Rnr} {es : List Ent} {a c r l : Int} {w : World} (h : RowAt w ao 6 xs.length (fun k => (nth xs k).c)) (hn : xs.length ≤ 9223372036854775807) (hs : ∀ k, k < xs.length → (nth xs k).name.size ≤ 9223372036854775807 ∧ (nth xs k).club.size ≤ 9223372036854775807) (hcap : xs.length ≤ cap) (h' : RowAt w bo 5 es.length (fun k => (nth es k).c)) (hn' : es.length ≤ 9223372036854775807) :
    Calls Try.prog 28 #[.agg #[.int .i64 a, .int .i64 c, .int .i64 r, .int .i64 l], .slice ao xs.length cap, .slice bo es.length bcap] w (ResJ w (opX ⟨a, c, r, l⟩ xs es) (opOk ⟨a, c, r, l⟩ xs es)) := by
  obtain ⟨i0, hi, hz0, hz1, hz2⟩ := info_parts infoInt
  have HF := Lib.hid (fun y => impl_AreFees (a := a) (c := c) (r := r) (l := l) (w := y))
  have HR := Lib.hid (fun y (hy : Ext w y) => impl_AreRunners (cap := cap) (h.ext hy) hn hs hcap)
  have HE := Lib.hid (fun y (hy : Ext w y) => impl_AreEntries (cap := bcap) (h'.ext hy) hn')
  have HD := Lib.hid (fun y (hy : Ext w y) h1 h2 (x : Ent) => impl_dueFor (cap := cap) (xs := xs) (a := a) (c := c) (r := r) (l := l) (e1 := x.runner) (e2 := x.cls) (d := x.day) (t := x.rent) (p := x.paid) (h.ext hy) hn h1 h2)
  have HH := Lib.hid h'
  clear h hs hcap h'
  obtain ⟨B1, hB1⟩ : ∃ B, B = feeB ⟨a, c, r, l⟩ := ⟨_, rfl⟩
  obtain ⟨B2, hB2⟩ : ∃ B, B = rnsB xs := ⟨_, rfl⟩
  obtain ⟨B3, hB3⟩ : ∃ B, B = entsB es := ⟨_, rfl⟩
  rw [← hB1] at HF; rw [← hB2] at HR; rw [← hB3] at HE
  have HB1 := Lib.hid hB1.symm; have HB2 := Lib.hid hB2.symm; have HB3 := Lib.hid hB3.symm
  clear hB1 hB2 hB3
  cases B1
  · go_enter Try.func28, Try.ntmps28
    go_wp2_with (go_at_call 35; (with_reducible refine (HF.out _).mono ?_); rintro e w1 ⟨rfl, hx1⟩)
    go_ret2
    exact ResJ.no none 0 (opX_no (opOk_a HB1.out)) (opOk_a HB1.out) rfl (by repeat (first | (with_reducible exact Ext.refl _) | (with_reducible assumption) | with_reducible refine Ext.drew ?_ | with_reducible refine Ext.alloc ?_ _ | with_reducible refine Ext.setCell ?_ (by first | (simp; done) | (simp; omega) | omega) _ | with_reducible refine Ext.trans ?_ (by with_reducible assumption)))
  cases B2
  · go_enter Try.func28, Try.ntmps28
    go_wp2_with (first
      | (go_at_call 35; (with_reducible refine (HF.out _).mono ?_); rintro e w1 ⟨rfl, hx1⟩)
      | (go_at_call 60; ((with_reducible refine (HR.out _ ((by repeat (first | (with_reducible exact Ext.refl _) | (with_reducible assumption) | with_reducible refine Ext.drew ?_ | with_reducible refine Ext.alloc ?_ _ | with_reducible refine Ext.setCell ?_ (by first | (simp; done) | (simp; omega) | omega) _ | with_reducible refine Ext.trans ?_ (by with_reducible assumption))))).mono ?_); rintro e w2 ⟨rfl, hx2⟩)))
    go_ret2
    exact ResJ.no none 0 (opX_no (opOk_b HB2.out)) (opOk_b HB2.out) rfl (by repeat (first | (with_reducible exact Ext.refl _) | (with_reducible assumption) | with_reducible refine Ext.drew ?_ | with_reducible refine Ext.alloc ?_ _ | with_reducible refine Ext.setCell ?_ (by first | (simp; done) | (simp; omega) | omega) _ | with_reducible refine Ext.trans ?_ (by with_reducible assumption)))
  cases B3
  · go_enter Try.func28, Try.ntmps28
    go_wp2_with (first
      | (go_at_call 35; (with_reducible refine (HF.out _).mono ?_); rintro e w1 ⟨rfl, hx1⟩)
      | (go_at_call 60; ((with_reducible refine (HR.out _ ((by repeat (first | (with_reducible exact Ext.refl _) | (with_reducible assumption) | with_reducible refine Ext.drew ?_ | with_reducible refine Ext.alloc ?_ _ | with_reducible refine Ext.setCell ?_ (by first | (simp; done) | (simp; omega) | omega) _ | with_reducible refine Ext.trans ?_ (by with_reducible assumption))))).mono ?_); rintro e w2 ⟨rfl, hx2⟩))
      | (go_at_call 16; ((with_reducible refine (HE.out _ ((by repeat (first | (with_reducible exact Ext.refl _) | (with_reducible assumption) | with_reducible refine Ext.drew ?_ | with_reducible refine Ext.alloc ?_ _ | with_reducible refine Ext.setCell ?_ (by first | (simp; done) | (simp; omega) | omega) _ | with_reducible refine Ext.trans ?_ (by with_reducible assumption))))).mono ?_); rintro e w2 ⟨rfl, hx2⟩)))
    go_ret2
    exact ResJ.no none 0 (opX_no (opOk_c HB3.out)) (opOk_c HB3.out) rfl (by repeat (first | (with_reducible exact Ext.refl _) | (with_reducible assumption) | with_reducible refine Ext.drew ?_ | with_reducible refine Ext.alloc ?_ _ | with_reducible refine Ext.setCell ?_ (by first | (simp; done) | (simp; omega) | omega) _ | with_reducible refine Ext.trans ?_ (by with_reducible assumption)))
  have h12 := entsB_len HB3.out
  have HOK := Lib.hid (feeB_ok HB1.out)
  have HYR := Lib.hid (fun k (hk : k < xs.length) => rnsB_year HB2.out hk)
  have HEO := Lib.hid (fun k (hk : k < es.length) => entB_ok (entsB_at HB3.out hk))
  go_enter Try.func28, Try.ntmps28
  go_wp2_with (first
    | (go_at_call 35; ((with_reducible refine (HF.out _).mono ?_); rintro e w1 ⟨rfl, hx1⟩; have b0 : w1.cell? ⟨w.heap.size, 0, none⟩ = some (.int .i64 a) := hx1.cells (by go_simp); have b1 : w1.cell? ⟨w.heap.size, 1, none⟩ = some (.int .i64 c) := hx1.cells (by go_simp); have b2 : w1.cell? ⟨w.heap.size, 2, none⟩ = some (.int .i64 r) := hx1.cells (by go_simp); have b3 : w1.cell? ⟨w.heap.size, 3, none⟩ = some (.int .i64 l) := hx1.cells (by go_simp); have hzw : w.heap.size < w1.heap.size := (by have := hx1.size; simp at this; omega); replace hx1 := ((Ext.refl w).alloc _).trans hx1))
    | (go_at_call 60; ((with_reducible refine (HR.out _ hx1).mono ?_); rintro e w2 ⟨rfl, hx2⟩; replace b0 := hx2.cells b0; replace b1 := hx2.cells b1; replace b2 := hx2.cells b2; replace b3 := hx2.cells b3; replace hx1 := hx1.trans hx2; replace hzw := Nat.lt_of_lt_of_le hzw hx2.size; clear hx2))
    | (go_at_call 16; ((with_reducible refine (HE.out _ hx1).mono ?_); rintro e w2 ⟨rfl, hx2⟩; replace b0 := hx2.cells b0; replace b1 := hx2.cells b1; replace b2 := hx2.cells b2; replace b3 := hx2.cells b3; replace hx1 := hx1.trans hx2; replace hzw := Nat.lt_of_lt_of_le hzw hx2.size; clear hx2; have hst := Owns.start (α := Int) (e := 3) (s := 1) (cc := icc) (Ext.refl w2))))
  go_loopw [8, 29] (fun out i wr => ∃ k : Nat, k ≤ es.length ∧ i = .int .i64 k ∧ Ext w2 wr ∧ Owns wr w2.heap.size 3 1 icc out (opL ⟨a, c, r, l⟩ xs (es.take k)) ∧ upto (fun k => hasR xs (nth es k).runner) k = true) (fun _ i _ => es.length - (intOf i).toNat)
  case atStart => exact ⟨0, by omega, rfl, (Ext.refl _).alloc _, hst, rfl⟩
  case round =>
    clear hst HF HR HE
    obtain ⟨k, hk, rfl, hx, hown, hu⟩ := hrel
    have HU := Lib.hid hu; clear hu
    by_cases hlt : k < es.length
    · obtain ⟨b, off, rfl, hcell⟩ := HH.out (by omega)
      have hx0 := hx1.trans hx
      have d0 := hx0.cells (hcell k hlt 0 (by decide))
      have d1 := hx0.cells (hcell k hlt 1 (by decide))
      have d2 := hx0.cells (hcell k hlt 2 (by decide))
      have d3 := hx0.cells (hcell k hlt 3 (by decide))
      have d4 := hx0.cells (hcell k hlt 4 (by decide))
      simp only [Ent.c0, Ent.c1, Ent.c2, Ent.c3, Ent.c4, Nat.add_zero] at d0 d1 d2 d3 d4
      have e0 := hx.cells b0
      have e1 := hx.cells b1
      have e2 := hx.cells b2
      have e3 := hx.cells b3
      have hz := Nat.lt_of_lt_of_le hzw hx.size
      have hlen : (opL ⟨a, c, r, l⟩ xs (es.take k)).length = k := by rw [opL_len, List.length_take]; omega
      have hxA := hx0.alloc (.cells #[.int .i64 (nth es k).runner, .int .i64 (nth es k).cls, .int .i64 (nth es k).day, .bool (nth es k).rent, .int .i64 (nth es k).paid] 26)
      have HDK := Lib.hid (HD.out _ hxA HOK.out HYR.out (nth es k))
      have hdb := dueE_bd HOK.out xs (nth es k)
      have hpb := (HEO.out k hlt).p
      have HNX := Lib.hid (opL_succ ⟨a, c, r, l⟩ xs es hlt)
      have HOV := Lib.hid (show opV ⟨a, c, r, l⟩ xs (nth es k) = dueE ⟨a, c, r, l⟩ xs (nth es k) - (nth es k).paid from rfl)
      obtain ⟨v, hv⟩ : ∃ v, v = dueE ⟨a, c, r, l⟩ xs (nth es k) := ⟨_, rfl⟩
      have HDV := Lib.hid (show dueE ⟨a, c, r, l⟩ xs ⟨(nth es k).runner, (nth es k).cls, (nth es k).day, (nth es k).rent, (nth es k).paid⟩ = v from hv.symm)
      rw [← hv] at hdb HOV
      clear hv
      rw [HDV.out] at HDK
      have HXA := Lib.hid hxA
      clear hcell HH hxA b0 b1 b2 b3
      cases hA : hasR xs (nth es k).runner
      · have HAA := Lib.hid hA
        rw [hA] at HDK
        clear hA
        have HBAD := Lib.hid (opOk_d (f := ⟨a, c, r, l⟩) (xs := xs) hlt HAA.out)
        go_wp2_with fail
        refine HDK.out.mono ?_; rintro e w4 ⟨rfl, hx4⟩
        go_wp2
        go_ret2
        exact ResJ.no none 0 (opX_no HBAD.out) HBAD.out rfl (HXA.out.trans hx4)
      · have HAA := Lib.hid hA
        rw [hA] at HDK
        clear hA
        go_wp2_with fail
        refine HDK.out.mono ?_; rintro e w4 ⟨rfl, hx4⟩
        have c4 : w4.cell? ⟨wr.heap.size, 4, none⟩ = some (.int .i64 (nth es k).paid) := hx4.cells (by go_simp)
        have hxw := ((Ext.refl wr).alloc _).trans hx4
        have hown4 := hown.kept hxw
        have hrow2 := fun x => row_lit (w := x) (cs := #[.int .i64 (v - (nth es k).paid)]) (T := 3) (s := 1) (cc := icc) (x := (v - (nth es k).paid)) (by intro j hj; obtain rfl : j = 0 := (by omega); rfl)
        have HX2 := Lib.hid (hx.trans hxw)
        clear hx4 hxw hown
        go_wp2_with (at_builtin; refine wpList_append_where rfl _ _ 35 rfl w2 3 i0 _ 1 8 Try.underlying35 hi hz0 hz1 hz2 rfl (by decide) icc icc_one _ (opL ⟨a, c, r, l⟩ xs (es.take k)) [v - (nth es k).paid] rfl (hown4.kept ((Ext.refl _).alloc _)) ⟨w4.heap.size, 0, none⟩ 1 1 rfl rfl (hrow2 _) (by simp; omega) (by simp; omega) (HX2.out.alloc _) ?_; intro v1 w3 ho1 hx3 hg3 hv3)
        rw [← HOV.out, ← HNX.out] at ho1
        have HXR := Lib.hid hx3
        clear hg3 hv3
        go_wp2
        go_roundw
        case rel => exact ⟨k + 1, by omega, by go_num, HXR.out, ho1, upto_succ HU.out HAA.out⟩
        case measure => simp [intOf]; omega
    · obtain rfl : k = es.length := by omega
      have HOKY := Lib.hid (opOk_e HB1.out HB2.out HB3.out HU.out)
      rw [List.take_length] at hown
      obtain ⟨go', gc', rfl, hFo, _, _, _⟩ := hown.fresh
      have HRW := Lib.hid hFo.row
      have HXX := Lib.hid (hx1.trans hx)
      clear hFo hown
      go_wp2
      go_ret2
      rw [opX_yes HOKY.out, HOKY.out]
      exact .mk _ _ rfl HXX.out HRW.out


set_option maxRecDepth 100000 in
set_option maxHeartbeats 2000000 in
theorem spec_l11Open {ao bo : Option Addr} {cap bcap : Nat} {xs : List Rnr} {es : List Ent} {a c r l : Int} {w : World} (h : RowAt w ao 6 xs.length (fun k => (nth xs k).c)) (hn : xs.length ≤ 9223372036854775807) (hs : ∀ k, k < xs.length → (nth xs k).name.size ≤ 9223372036854775807 ∧ (nth xs k).club.size ≤ 9223372036854775807) (h' : RowAt w bo 5 es.length (fun k => (nth es k).c)) (hn' : es.length ≤ 9223372036854775807) :
    Calls Try.prog 62 #[.agg #[.int .i64 a, .int .i64 c, .int .i64 r, .int .i64 l], .slice ao xs.length cap, .slice bo es.length bcap] w (ResJ w (opX ⟨a, c, r, l⟩ xs es) (opOk ⟨a, c, r, l⟩ xs es)) := by
  obtain ⟨i0, hi, hz0, hz1, hz2⟩ := info_parts infoInt
  have HF := Lib.hid (fun y => spec_l11Fees (a := a) (c := c) (r := r) (l := l) (w := y))
  have HR := Lib.hid (fun y (hy : Ext w y) => spec_l5Good (cap := cap) (h.ext hy) hn hs)
  have HE := Lib.hid (fun y (hy : Ext w y) => spec_l11Good (cap := bcap) (h'.ext hy) hn')
  have HI := Lib.hid (fun y (hy : Ext w y) (x : Int) => spec_l5Find (cap := cap) (x := x) (h.ext hy) hn)
  have HDU := Lib.hid (fun (x : Rnr) (e : Ent) (y : World) h1 h2 => spec_l11Due (a := a) (c := c) (r := r) (l := l) (e1 := e.runner) (e2 := e.cls) (d := e.day) (t := e.rent) (p := e.paid) (i := x.id) (n := x.name) (u := x.club) (b := x.born) (g := x.woman) (k := x.card) (w := y) h1 h2)
  have HST := Lib.hid (Owns.start (α := Int) (e := 3) (s := 1) (cc := icc) (Ext.refl (w.alloc (.cells #[.int .i64 a, .int .i64 c, .int .i64 r, .int .i64 l] 50))))
  have HX1 := Lib.hid ((Ext.refl w).alloc (.cells #[.int .i64 a, .int .i64 c, .int .i64 r, .int .i64 l] 50))
  have HX0 := Lib.hid ((Ext.refl (w.alloc (.cells #[.int .i64 a, .int .i64 c, .int .i64 r, .int .i64 l] 50))).alloc (.cells #[] 3))
  have HB0 := Lib.hid (show (w.alloc (.cells #[.int .i64 a, .int .i64 c, .int .i64 r, .int .i64 l] 50)).cell? ⟨w.heap.size, 0, none⟩ = some (.int .i64 a) ∧ (w.alloc (.cells #[.int .i64 a, .int .i64 c, .int .i64 r, .int .i64 l] 50)).cell? ⟨w.heap.size, 1, none⟩ = some (.int .i64 c) ∧ (w.alloc (.cells #[.int .i64 a, .int .i64 c, .int .i64 r, .int .i64 l] 50)).cell? ⟨w.heap.size, 2, none⟩ = some (.int .i64 r) ∧ (w.alloc (.cells #[.int .i64 a, .int .i64 c, .int .i64 r, .int .i64 l] 50)).cell? ⟨w.heap.size, 3, none⟩ = some (.int .i64 l) from ⟨by go_simp, by go_simp, by go_simp, by go_simp⟩)
  have HH := Lib.hid h'
  have HXS := Lib.hid h
  clear h hs h'
  obtain ⟨B1, hB1⟩ : ∃ B, B = feeB ⟨a, c, r, l⟩ := ⟨_, rfl⟩
  obtain ⟨B2, hB2⟩ : ∃ B, B = rnsB xs := ⟨_, rfl⟩
  obtain ⟨B3, hB3⟩ : ∃ B, B = entsB es := ⟨_, rfl⟩
  rw [← hB1] at HF; rw [← hB2] at HR; rw [← hB3] at HE
  have HB1 := Lib.hid hB1.symm; have HB2 := Lib.hid hB2.symm; have HB3 := Lib.hid hB3.symm
  clear hB1 hB2 hB3
  cases B1
  · go_enter Try.func62, Try.ntmps62
    go_wp2_with (first
      | (go_at_call 67; ((with_reducible refine (HF.out _).mono ?_); rintro e w1 ⟨rfl, hx1⟩; have hst := HST.out.kept hx1; replace hx1 := HX0.out.trans hx1)))
    go_ret2
    exact ResJ.no _ 0 (opX_no (opOk_a HB1.out)) (opOk_a HB1.out) rfl (HX1.out.trans hx1)
  cases B2
  · go_enter Try.func62, Try.ntmps62
    go_wp2_with (first
      | (go_at_call 67; ((with_reducible refine (HF.out _).mono ?_); rintro e w1 ⟨rfl, hx1⟩; have hst := HST.out.kept hx1; replace hx1 := HX0.out.trans hx1))
      | (go_at_call 68; ((with_reducible refine (HR.out _ (HX1.out.trans hx1)).mono ?_); rintro e w2 ⟨rfl, hx2⟩; replace hst := hst.kept hx2; replace hx1 := hx1.trans hx2; clear hx2)))
    go_ret2
    exact ResJ.no _ 0 (opX_no (opOk_b HB2.out)) (opOk_b HB2.out) rfl (HX1.out.trans hx1)
  cases B3
  · go_enter Try.func62, Try.ntmps62
    go_wp2_with (first
      | (go_at_call 67; ((with_reducible refine (HF.out _).mono ?_); rintro e w1 ⟨rfl, hx1⟩; have hst := HST.out.kept hx1; replace hx1 := HX0.out.trans hx1))
      | (go_at_call 68; ((with_reducible refine (HR.out _ (HX1.out.trans hx1)).mono ?_); rintro e w2 ⟨rfl, hx2⟩; replace hst := hst.kept hx2; replace hx1 := hx1.trans hx2; clear hx2))
      | (go_at_call 43; ((with_reducible refine (HE.out _ (HX1.out.trans hx1)).mono ?_); rintro e w2 ⟨rfl, hx2⟩; replace hst := hst.kept hx2; replace hx1 := hx1.trans hx2; clear hx2)))
    go_ret2
    exact ResJ.no _ 0 (opX_no (opOk_c HB3.out)) (opOk_c HB3.out) rfl (HX1.out.trans hx1)
  have h12 := entsB_len HB3.out
  have HOK := Lib.hid (feeB_ok HB1.out)
  have HYR := Lib.hid (fun k (hk : k < xs.length) => rnsB_year HB2.out hk)
  have HEO := Lib.hid (fun k (hk : k < es.length) => entB_ok (entsB_at HB3.out hk))
  go_enter Try.func62, Try.ntmps62
  go_wp2_with (first
      | (go_at_call 67; ((with_reducible refine (HF.out _).mono ?_); rintro e w1 ⟨rfl, hx1⟩; have hst := HST.out.kept hx1; replace hx1 := HX0.out.trans hx1))
      | (go_at_call 68; ((with_reducible refine (HR.out _ (HX1.out.trans hx1)).mono ?_); rintro e w2 ⟨rfl, hx2⟩; replace hst := hst.kept hx2; replace hx1 := hx1.trans hx2; clear hx2))
      | (go_at_call 43; ((with_reducible refine (HE.out _ (HX1.out.trans hx1)).mono ?_); rintro e w2 ⟨rfl, hx2⟩; replace hst := hst.kept hx2; replace hx1 := hx1.trans hx2; clear hx2)))
  go_loopw [8, 9] (fun out i wr => ∃ k : Nat, k ≤ es.length ∧ i = .int .i64 k ∧ Ext (w.alloc (.cells #[.int .i64 a, .int .i64 c, .int .i64 r, .int .i64 l] 50)) wr ∧ Owns wr (w.alloc (.cells #[.int .i64 a, .int .i64 c, .int .i64 r, .int .i64 l] 50)).heap.size 3 1 icc out (opL ⟨a, c, r, l⟩ xs (es.take k)) ∧ upto (fun k => hasR xs (nth es k).runner) k = true) (fun _ i _ => es.length - (intOf i).toNat)
  case atStart =>
    have e9 : (w.alloc (.cells #[.int .i64 a, .int .i64 c, .int .i64 r, .int .i64 l] 50)).heap.size = w.heap.size + 1 := by simp
    rw [e9] at hst
    exact ⟨0, by omega, rfl, hx1, (by rw [e9]; exact hst), rfl⟩
  case round =>
    clear hst HF HR HE hx1
    obtain ⟨k, hk, rfl, hx, hown, hu⟩ := hrel
    have HU := Lib.hid hu; clear hu
    by_cases hlt : k < es.length
    · obtain ⟨b, off, rfl, hcell⟩ := HH.out (by omega)
      have hx0 := HX1.out.trans hx
      have d0 := hx0.cells (hcell k hlt 0 (by decide))
      have d1 := hx0.cells (hcell k hlt 1 (by decide))
      have d2 := hx0.cells (hcell k hlt 2 (by decide))
      have d3 := hx0.cells (hcell k hlt 3 (by decide))
      have d4 := hx0.cells (hcell k hlt 4 (by decide))
      simp only [Ent.c0, Ent.c1, Ent.c2, Ent.c3, Ent.c4, Nat.add_zero] at d0 d1 d2 d3 d4
      have hlen : (opL ⟨a, c, r, l⟩ xs (es.take k)).length = k := by rw [opL_len, List.length_take]; omega
      have HIK := Lib.hid (HI.out _ hx0 (nth es k).runner)
      have HX := Lib.hid hx
      have HOW := Lib.hid hown
      clear hcell HH hx0 hx
      obtain ⟨qi, hqi⟩ : ∃ q, q = rnIx xs xs.length (nth es k).runner := ⟨_, rfl⟩
      have HQI := Lib.hid hqi
      rw [← hqi] at HIK
      clear hqi
      rcases rnIx_cases xs xs.length (nth es k).runner with hq | ⟨q, hq, hqq⟩
      · obtain rfl : qi = -1 := HQI.out.trans hq
        have HBAD := Lib.hid (opOk_d (f := ⟨a, c, r, l⟩) (xs := xs) hlt (by simp [hasR, hq]))
        clear hq hown
        go_wp2_with fail
        refine HIK.out.mono ?_; rintro e w4 ⟨rfl, hx4⟩
        have HX4 := Lib.hid (HX1.out.trans (HX.out.trans hx4))
        clear hx4 d0 d1 d2 d3 d4
        go_wp2
        go_ret2
        exact ResJ.no _ 0 (opX_no HBAD.out) HBAD.out rfl (HX4.out.alloc _)
      · obtain rfl : qi = (q : Int) := HQI.out.trans hqq
        have HAA := Lib.hid (show hasR xs (nth es k).runner = true by simp [hasR, hqq])
        have HPB := Lib.hid (HEO.out k hlt).p
        have HNX := Lib.hid (opL_succ ⟨a, c, r, l⟩ xs es hlt)
        have HYQ := Lib.hid (HYR.out q hq)
        have HDV := Lib.hid (dueE_at (f := ⟨a, c, r, l⟩) (xs := xs) (x := nth es k) hqq)
        clear hqq
        go_wp2_with fail
        refine HIK.out.mono ?_; rintro e w4 ⟨rfl, hx4⟩
        obtain ⟨fb, foff, rfl, hrn⟩ := HXS.out (by omega)
        have hx04 := HX.out.trans hx4
        have hw4 := HX1.out.trans hx04
        have r0 := hw4.cells (hrn q hq 0 (by decide))
        have r1 := hw4.cells (hrn q hq 1 (by decide))
        have r2 := hw4.cells (hrn q hq 2 (by decide))
        have r3 := hw4.cells (hrn q hq 3 (by decide))
        have r4 := hw4.cells (hrn q hq 4 (by decide))
        have r5 := hw4.cells (hrn q hq 5 (by decide))
        simp only [Rnr.c0, Rnr.c1, Rnr.c2, Rnr.c3, Rnr.c4, Rnr.c5, Nat.add_zero] at r0 r1 r2 r3 r4 r5
        replace d0 := hx4.cells d0
        replace d1 := hx4.cells d1
        replace d2 := hx4.cells d2
        replace d3 := hx4.cells d3
        replace d4 := hx4.cells d4
        have f0 := hx04.cells HB0.out.1
        have f1 := hx04.cells HB0.out.2.1
        have f2 := hx04.cells HB0.out.2.2.1
        have f3 := hx04.cells HB0.out.2.2.2
        obtain ⟨L0, hL0⟩ : ∃ L, L = opL ⟨a, c, r, l⟩ xs (es.take k) := ⟨_, rfl⟩
        obtain ⟨L1, hL1⟩ : ∃ L, L = opL ⟨a, c, r, l⟩ xs (es.take (k + 1)) := ⟨_, rfl⟩
        rw [← hL0] at hown hlen HNX
        obtain ⟨v, hv⟩ : ∃ v, v = dueV ⟨a, c, r, l⟩ (nth xs q) (nth es k) := ⟨_, rfl⟩
        have HVV := Lib.hid hv
        have HVB := Lib.hid (dueV_bd HOK.out (nth xs q) (nth es k))
        rw [← hv] at HVB
        have HDU2 := Lib.hid (fun y => HDU.out (nth xs q) (nth es k) y HOK.out HYQ.out)
        have HDU3 : Hid (∀ y, Calls Try.prog 70 #[.agg #[.int .i64 a, .int .i64 c, .int .i64 r, .int .i64 l], .agg #[.int .i64 (nth xs q).id, .string (nth xs q).name, .string (nth xs q).club, .int .i64 (nth xs q).born, .bool (nth xs q).woman, .int .i64 (nth xs q).card], .agg #[.int .i64 (nth es k).runner, .int .i64 (nth es k).cls, .int .i64 (nth es k).day, .bool (nth es k).rent, .int .i64 (nth es k).paid]] y fun e w' => e = .returned (.int .i64 v) ∧ Ext y w') := Lib.hid (fun y => by rw [hv]; exact HDU2.out y)
        have HL : Hid (L1 = L0 ++ [v - (nth es k).paid]) := Lib.hid (by rw [hL1, HNX.out]; unfold opV; rw [HDV.out, hv])
        have HL1 := Lib.hid hL1
        have hvb := HVB.out
        have hpb := HPB.out
        have hvw : IntKind.i64.wrap (v - (nth es k).paid) = v - (nth es k).paid := IntWalk.i64_in _ (by omega)
        obtain ⟨go', gc', rfl, _⟩ := hown.fresh
        have HLN := Lib.hid hlen
        rw [hlen] at hown ⊢
        have HOW4 := Lib.hid (hown.kept hx4)
        have HX04 := Lib.hid hx04
        clear hrn HXS hx04 hw4 hL0 hL1 hv HDU HDU2 HIK hx4 hown hlen HOW HX HI
        go_wp2_with fail
        go_region_law (first
          | (refine step_append_form (o := ⟨some 60, _, _, _, _, _⟩) (by rfl) _ _ 35 (by rfl) (w.alloc (.cells #[.int .i64 a, .int .i64 c, .int .i64 r, .int .i64 l] 50)) 3 i0 _ 1 8 Try.underlying35 hi hz0 hz1 hz2 rfl (by decide) icc icc_one (.slice go' k gc') L0 [v - (nth es k).paid] L1 HL (by rfl) HOW5.out ⟨w5.heap.size, 0, none⟩ 1 1 (by rfl) (by rfl) HROW.out (by rw [HLN.out]; simp; omega) (by rw [HLN.out]; simp; omega) HX05.out ?_; intro go1 gc1 w6 ho1 hx6 hg1 hv1)
          | (go_simp; go_at_call 70; (with_reducible refine (HDU3.out _).mono ?_); rintro e w5 ⟨rfl, hx5⟩; replace d4 := hx5.cells ((Ext.refl _).drew.cells d4); have HOW5 := Lib.hid ((HOW4.out.kept ((Ext.refl _).drew.trans hx5)).kept ((Ext.refl _).alloc (.cells #[.int .i64 (v - (nth es k).paid)] 3))); have HX05 := Lib.hid ((HX04.out.trans ((Ext.refl _).drew.trans hx5)).alloc (.cells #[.int .i64 (v - (nth es k).paid)] 3)); have HROW := Lib.hid (row_lit (w := w5) (cs := #[.int .i64 (v - (nth es k).paid)]) (T := 3) (s := 1) (cc := icc) (x := (v - (nth es k).paid)) (by intro j hj; obtain rfl : j = 0 := (by omega); rfl))))
        all_goals
          have HX6 := Lib.hid hx6
          rw [HL1.out] at ho1
          clear hx6 hg1 hv1 d0 d1 d2 d3 d4 r0 r1 r2 r3 r4 r5 f0 f1 f2 f3 HOW5 HX05 HROW hx5
          go_wp2
          go_roundw
          case rel => exact ⟨k + 1, by omega, by go_num, HX6.out, (by rw [← HL1.out] at ho1 ⊢; exact ho1), upto_succ HU.out HAA.out⟩
          case measure => simp [intOf]; omega
    · obtain rfl : k = es.length := by omega
      have HOKY := Lib.hid (opOk_e HB1.out HB2.out HB3.out HU.out)
      rw [List.take_length] at hown
      obtain ⟨go', gc', rfl, hFo, _, _, _⟩ := hown.fresh
      have HRW := Lib.hid hFo.row
      have HXX := Lib.hid (HX1.out.trans hx)
      clear hFo hown
      go_wp2
      go_ret2
      rw [opX_yes HOKY.out, HOKY.out]
      exact .mk _ _ rfl HXX.out HRW.out


def billX (f : Fee) (xs : List Rnr) (es : List Ent) (c : ByteArray) : Int := if opOk f xs es then billU f xs es c es.length else 0
theorem billX_no {f : Fee} {xs : List Rnr} {es : List Ent} {c : ByteArray} (h : opOk f xs es = false) : billX f xs es c = 0 := by unfold billX; rw [h]; rfl
theorem billX_yes {f : Fee} {xs : List Rnr} {es : List Ent} {c : ByteArray} (h : opOk f xs es = true) : billX f xs es c = billU f xs es c es.length := by unfold billX; rw [h]; rfl
theorem opOk_at {f : Fee} {xs : List Rnr} {es : List Ent} (h : opOk f xs es = true) : FeeOk f ∧ rnsB xs = true ∧ entsB es = true ∧ ∀ k, k < es.length → hasR xs (nth es k).runner = true := by
  unfold opOk at h
  simp only [Bool.and_eq_true] at h
  refine ⟨feeB_ok h.1.1.1, h.1.1.2, h.1.2, fun k hk => ?_⟩
  have := h.2
  unfold allR at this
  rw [upto_true] at this
  exact this k hk
theorem hasR_at {xs : List Rnr} {e : Int} (h : hasR xs e = true) : ∃ q, q < xs.length ∧ rnIx xs xs.length e = (q : Int) := by
  rcases rnIx_cases xs xs.length e with hq | h2
  · unfold hasR at h; rw [hq] at h; simp at h
  · exact h2
theorem clubE_at {xs : List Rnr} {x : Ent} {q : Nat} (h : rnIx xs xs.length x.runner = (q : Int)) : clubE xs x = (nth xs q).club := by
  unfold clubE rnE; rw [h]; rfl

set_option maxRecDepth 100000 in
set_option maxHeartbeats 2000000 in
theorem impl_ClubBill {ao bo : Option Addr} {cap bcap : Nat} {xs : List Rnr} {es : List Ent} {a c r l : Int} {club : ByteArray} {w : World} (h : RowAt w ao 6 xs.length (fun k => (nth xs k).c)) (hn : xs.length ≤ 9223372036854775807) (hs : ∀ k, k < xs.length → (nth xs k).name.size ≤ 9223372036854775807 ∧ (nth xs k).club.size ≤ 9223372036854775807) (hcap : xs.length ≤ cap) (h' : RowAt w bo 5 es.length (fun k => (nth es k).c)) (hn' : es.length ≤ 9223372036854775807) :
    Calls Try.prog 32 #[.agg #[.int .i64 a, .int .i64 c, .int .i64 r, .int .i64 l], .slice ao xs.length cap, .slice bo es.length bcap, .string club] w fun e w' => e = .returned (.tuple #[.int .i64 (billX ⟨a, c, r, l⟩ xs es club), .bool (opOk ⟨a, c, r, l⟩ xs es)]) ∧ Ext w w' := by
  have hx0 := (Ext.refl w).alloc (.cells #[.int .i64 a, .int .i64 c, .int .i64 r, .int .i64 l] 50)
  have HO := Lib.hid (impl_OpenSums (a := a) (c := c) (r := r) (l := l) (bcap := bcap) (h.ext hx0) hn hs hcap (h'.ext hx0) hn')
  have HI := Lib.hid (fun y (hy : Ext w y) (x : Int) => impl_runnerIndex (cap := cap) (x := x) (h.ext hy) hn)
  have HX0 := Lib.hid hx0
  have HH := Lib.hid h'
  have HXS := Lib.hid h
  clear h hs hcap h' hx0
  cases hB : opOk ⟨a, c, r, l⟩ xs es
  · have HB := Lib.hid hB
    rw [hB] at HO
    clear hB
    go_enter Try.func32, Try.ntmps32
    go_wp2_with fail
    refine HO.out.mono ?_; rintro e w1 ⟨oo, oc, rfl, hx1, hrow⟩
    have HX1 := Lib.hid (HX0.out.trans hx1)
    clear hrow hx1
    go_wp2
    go_ret2
    exact ⟨ret_ib (billX_no HB.out).symm rfl, HX1.out⟩
  · have HB := Lib.hid hB
    rw [hB, opX_yes hB] at HO
    obtain ⟨hOK, hRN, hEN, hAL⟩ := opOk_at hB
    have h12 := entsB_len hEN
    have HEO := Lib.hid (fun k (hk : k < es.length) => entB_ok (entsB_at hEN hk))
    have HBD := Lib.hid (fun k (hk : k ≤ es.length) => billU_bd hOK xs club k (fun j hj => HEO.out j (by omega)))
    have HOV := Lib.hid (fun k (hk : k < es.length) => opV_bd hOK xs (HEO.out k hk))
    have HAL := Lib.hid hAL
    clear hB hOK hRN hEN hAL
    go_enter Try.func32, Try.ntmps32
    go_wp2_with fail
    refine HO.out.mono ?_; rintro e w1 ⟨oo, oc, rfl, hx1, hrow⟩
    have HROW := Lib.hid hrow
    have HX1 := Lib.hid (HX0.out.trans hx1)
    have HLN := Lib.hid (opL_len ⟨a, c, r, l⟩ xs es)
    rw [opL_len]
    clear hrow hx1 HX0
    go_wp2
    go_loopw [12, 26] (fun s i wr => ∃ k : Nat, k ≤ es.length ∧ i = .int .i64 k ∧ s = .int .i64 (billU ⟨a, c, r, l⟩ xs es club k) ∧ Ext w1 wr) (fun _ i _ => es.length - (intOf i).toNat)
    case atStart => exact ⟨0, by omega, rfl, rfl, Ext.refl _⟩
    case round =>
      obtain ⟨k, hk, rfl, rfl, hx⟩ := hrel
      by_cases hlt : k < es.length
      · obtain ⟨b, off, rfl, hcell⟩ := HH.out (by omega)
        obtain ⟨ob, ooff, rfl, hoc⟩ := HROW.out (by rw [HLN.out]; omega)
        obtain ⟨q, hq, hqq⟩ := hasR_at (HAL.out k hlt)
        obtain ⟨fb, foff, rfl, hrn⟩ := HXS.out (by omega)
        have hx0 := HX1.out.trans hx
        have d0 := hx0.cells (hcell k hlt 0 (by decide))
        have d1 := hx0.cells (hcell k hlt 1 (by decide))
        have d2 := hx0.cells (hcell k hlt 2 (by decide))
        have d3 := hx0.cells (hcell k hlt 3 (by decide))
        have d4 := hx0.cells (hcell k hlt 4 (by decide))
        simp only [Ent.c0, Ent.c1, Ent.c2, Ent.c3, Ent.c4, Nat.add_zero] at d0 d1 d2 d3 d4
        have r2 := hx0.cells (hrn q hq 2 (by decide))
        simp only [Rnr.c2] at r2
        have o0 := hx.cells (hoc k (by rw [HLN.out]; omega) 0 (by decide))
        simp only [ic, opL_nth _ _ _ hlt, Nat.mul_one, Nat.add_zero] at o0
        have hxA := (Ext.refl wr).alloc (.cells #[.int .i64 (nth es k).runner, .int .i64 (nth es k).cls, .int .i64 (nth es k).day, .bool (nth es k).rent, .int .i64 (nth es k).paid] 26)
        have HIK := Lib.hid (HI.out _ (hx0.trans hxA) (nth es k).runner)
        rw [hqq] at HIK
        have HCL := Lib.hid (clubE_at (x := nth es k) hqq)
        have HA := Lib.hid hxA
        have HX := Lib.hid hx
        have hb1 := HBD.out k hk
        have hb2 := HOV.out k hlt
        obtain ⟨v, hv⟩ : ∃ v, v = opV ⟨a, c, r, l⟩ xs (nth es k) := ⟨_, rfl⟩
        obtain ⟨u, hu⟩ : ∃ u, u = billU ⟨a, c, r, l⟩ xs es club k := ⟨_, rfl⟩
        have HV := Lib.hid hv
        have HU := Lib.hid hu
        rw [← hv] at hb2 o0
        rw [← hu] at hb1 ⊢
        clear hqq hcell HH hrn HXS HROW hoc hx0 hxA hx HI HO hv hu
        go_wp2_with fail
        refine HIK.out.mono ?_; rintro e w4 ⟨rfl, hx4⟩
        have hx5 := HA.out.trans hx4
        replace r2 := hx5.cells r2
        replace o0 := hx5.cells o0
        have HX5 := Lib.hid (HX.out.trans hx5)
        clear hx4 hx5 d0 d1 d2 d3 d4 HIK
        cases hA : ((nth xs q).club.toList == club.toList)
        · have HN : Hid (billU ⟨a, c, r, l⟩ xs es club (k + 1) = u) := Lib.hid (by show billU _ xs es club k + _ = u; rw [HCL.out, hA, HU.out]; simp)
          go_wp2
          go_roundw
          case rel => exact ⟨k + 1, by omega, by go_num, by rw [HN.out], HX5.out⟩
          case measure => simp [intOf]; omega
        · have HN : Hid (billU ⟨a, c, r, l⟩ xs es club (k + 1) = u + v) := Lib.hid (by show billU _ xs es club k + _ = u + v; rw [HCL.out, hA, HU.out, HV.out]; simp)
          go_wp2
          go_roundw
          case rel => exact ⟨k + 1, by omega, by go_num, by rw [HN.out], HX5.out⟩
          case measure => simp [intOf]; omega
      · obtain rfl : k = es.length := by omega
        have HXX := Lib.hid (HX1.out.trans hx)
        clear hx
        go_wp2
        go_ret2
        exact ⟨ret_ib (billX_yes HB.out).symm rfl, HXX.out⟩


theorem spec_OpenSums {ao bo : Option Addr} {cap bcap : Nat} {xs : List Rnr} {es : List Ent} {a c r l : Int} {w : World} (h : RowAt w ao 6 xs.length (fun k => (nth xs k).c)) (hn : xs.length ≤ 9223372036854775807) (hs : ∀ k, k < xs.length → (nth xs k).name.size ≤ 9223372036854775807 ∧ (nth xs k).club.size ≤ 9223372036854775807) (h' : RowAt w bo 5 es.length (fun k => (nth es k).c)) (hn' : es.length ≤ 9223372036854775807) :
    Calls Try.prog 29 #[.agg #[.int .i64 a, .int .i64 c, .int .i64 r, .int .i64 l], .slice ao xs.length cap, .slice bo es.length bcap] w (ResJ w (opX ⟨a, c, r, l⟩ xs es) (opOk ⟨a, c, r, l⟩ xs es)) := by
  have hx0 := (Ext.refl w).alloc (.cells #[.int .i64 a, .int .i64 c, .int .i64 r, .int .i64 l] 50)
  have HO := Lib.hid (spec_l11Open (cap := cap) (a := a) (c := c) (r := r) (l := l) (bcap := bcap) (h.ext hx0) hn hs (h'.ext hx0) hn')
  have HX0 := Lib.hid hx0
  clear h hs h' hx0
  go_enter Try.func29, Try.ntmps29
  go_wp2_with fail
  refine HO.out.mono ?_; rintro e w1 ⟨oo, oc, rfl, hx1, hrow⟩
  have HX1 := Lib.hid (HX0.out.trans hx1)
  have HROW := Lib.hid hrow
  clear hrow hx1 HX0
  go_wp2
  go_ret2
  exact .mk _ _ rfl HX1.out HROW.out

set_option maxRecDepth 100000 in
set_option maxHeartbeats 2000000 in
theorem spec_ClubBill {ao bo : Option Addr} {cap bcap : Nat} {xs : List Rnr} {es : List Ent} {a c r l : Int} {club : ByteArray} {w : World} (h : RowAt w ao 6 xs.length (fun k => (nth xs k).c)) (hn : xs.length ≤ 9223372036854775807) (hs : ∀ k, k < xs.length → (nth xs k).name.size ≤ 9223372036854775807 ∧ (nth xs k).club.size ≤ 9223372036854775807) (h' : RowAt w bo 5 es.length (fun k => (nth es k).c)) (hn' : es.length ≤ 9223372036854775807) :
    Calls Try.prog 37 #[.agg #[.int .i64 a, .int .i64 c, .int .i64 r, .int .i64 l], .slice ao xs.length cap, .slice bo es.length bcap, .string club] w fun e w' => e = .returned (.tuple #[.int .i64 (billX ⟨a, c, r, l⟩ xs es club), .bool (opOk ⟨a, c, r, l⟩ xs es)]) ∧ Ext w w' := by
  have hx0 := (Ext.refl w).alloc (.cells #[.int .i64 a, .int .i64 c, .int .i64 r, .int .i64 l] 50)
  have HO := Lib.hid (spec_l11Open (cap := cap) (a := a) (c := c) (r := r) (l := l) (bcap := bcap) (h.ext hx0) hn hs (h'.ext hx0) hn')
  have HI := Lib.hid (fun y (hy : Ext w y) (x : Int) => spec_l5Find (cap := cap) (x := x) (h.ext hy) hn)
  have HX0 := Lib.hid hx0
  have HH := Lib.hid h'
  have HXS := Lib.hid h
  clear h hs h' hx0
  cases hB : opOk ⟨a, c, r, l⟩ xs es
  · have HB := Lib.hid hB
    rw [hB] at HO
    clear hB
    go_enter Try.func37, Try.ntmps37
    go_wp2_with fail
    refine HO.out.mono ?_; rintro e w1 ⟨oo, oc, rfl, hx1, hrow⟩
    have HX1 := Lib.hid (HX0.out.trans hx1)
    clear hrow hx1
    go_wp2
    go_ret2
    exact ⟨ret_ib (billX_no HB.out).symm rfl, HX1.out⟩
  · have HB := Lib.hid hB
    rw [hB, opX_yes hB] at HO
    obtain ⟨hOK, hRN, hEN, hAL⟩ := opOk_at hB
    have h12 := entsB_len hEN
    have HEO := Lib.hid (fun k (hk : k < es.length) => entB_ok (entsB_at hEN hk))
    have HBD := Lib.hid (fun k (hk : k ≤ es.length) => billU_bd hOK xs club k (fun j hj => HEO.out j (by omega)))
    have HOV := Lib.hid (fun k (hk : k < es.length) => opV_bd hOK xs (HEO.out k hk))
    have HAL := Lib.hid hAL
    clear hB hOK hRN hEN hAL
    go_enter Try.func37, Try.ntmps37
    go_wp2_with fail
    refine HO.out.mono ?_; rintro e w1 ⟨oo, oc, rfl, hx1, hrow⟩
    have HROW := Lib.hid hrow
    have HX1 := Lib.hid (HX0.out.trans hx1)
    have HLN := Lib.hid (opL_len ⟨a, c, r, l⟩ xs es)
    rw [opL_len]
    clear hrow hx1 HX0
    go_wp2
    go_loopw [12, 13] (fun s i wr => ∃ k : Nat, k ≤ es.length ∧ i = .int .i64 k ∧ s = .int .i64 (billU ⟨a, c, r, l⟩ xs es club k) ∧ Ext w1 wr) (fun _ i _ => es.length - (intOf i).toNat)
    case atStart => exact ⟨0, by omega, rfl, rfl, Ext.refl _⟩
    case round =>
      obtain ⟨k, hk, rfl, rfl, hx⟩ := hrel
      by_cases hlt : k < es.length
      · obtain ⟨b, off, rfl, hcell⟩ := HH.out (by omega)
        obtain ⟨ob, ooff, rfl, hoc⟩ := HROW.out (by rw [HLN.out]; omega)
        obtain ⟨q, hq, hqq⟩ := hasR_at (HAL.out k hlt)
        obtain ⟨fb, foff, rfl, hrn⟩ := HXS.out (by omega)
        have hx0 := HX1.out.trans hx
        have d0 := hx0.cells (hcell k hlt 0 (by decide))
        have d1 := hx0.cells (hcell k hlt 1 (by decide))
        have d2 := hx0.cells (hcell k hlt 2 (by decide))
        have d3 := hx0.cells (hcell k hlt 3 (by decide))
        have d4 := hx0.cells (hcell k hlt 4 (by decide))
        simp only [Ent.c0, Ent.c1, Ent.c2, Ent.c3, Ent.c4, Nat.add_zero] at d0 d1 d2 d3 d4
        have r2 := hx0.cells (hrn q hq 2 (by decide))
        simp only [Rnr.c2] at r2
        have o0 := hx.cells (hoc k (by rw [HLN.out]; omega) 0 (by decide))
        simp only [ic, opL_nth _ _ _ hlt, Nat.mul_one, Nat.add_zero] at o0
        have HIK := Lib.hid (HI.out _ hx0 (nth es k).runner)
        rw [hqq] at HIK
        have HCL := Lib.hid (clubE_at (x := nth es k) hqq)
        have HX := Lib.hid hx
        have hb1 := HBD.out k hk
        have hb2 := HOV.out k hlt
        obtain ⟨v, hv⟩ : ∃ v, v = opV ⟨a, c, r, l⟩ xs (nth es k) := ⟨_, rfl⟩
        obtain ⟨u, hu⟩ : ∃ u, u = billU ⟨a, c, r, l⟩ xs es club k := ⟨_, rfl⟩
        have HV := Lib.hid hv
        have HU := Lib.hid hu
        rw [← hv] at hb2 o0
        rw [← hu] at hb1 ⊢
        clear hqq hcell HH hrn HXS HROW hoc hx0 hx HI HO hv hu
        go_wp2_with fail
        refine HIK.out.mono ?_; rintro e w4 ⟨rfl, hx4⟩
        have hx5 := hx4
        replace r2 := hx5.cells r2
        replace o0 := hx5.cells o0
        have HX5 := Lib.hid (HX.out.trans hx5)
        clear hx4 hx5 d0 d1 d2 d3 d4 HIK
        cases hA : ((nth xs q).club.toList == club.toList)
        · have HN : Hid (billU ⟨a, c, r, l⟩ xs es club (k + 1) = u) := Lib.hid (by show billU _ xs es club k + _ = u; rw [HCL.out, hA, HU.out]; simp)
          go_wp2
          go_roundw
          case rel => exact ⟨k + 1, by omega, by go_num, by rw [HN.out], HX5.out⟩
          case measure => simp [intOf]; omega
        · have HN : Hid (billU ⟨a, c, r, l⟩ xs es club (k + 1) = u + v) := Lib.hid (by show billU _ xs es club k + _ = u + v; rw [HCL.out, hA, HU.out, HV.out]; simp)
          go_wp2
          go_roundw
          case rel => exact ⟨k + 1, by omega, by go_num, by rw [HN.out], HX5.out⟩
          case measure => simp [intOf]; omega
      · obtain rfl : k = es.length := by omega
        have HXX := Lib.hid (HX1.out.trans hx)
        clear hx
        go_wp2
        go_ret2
        exact ⟨ret_ib (billX_yes HB.out).symm rfl, HXX.out⟩


end Go.Proofs.Ytkejhhflpnfepaa
