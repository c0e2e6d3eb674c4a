/-
  Proved here: what AddProof and its reference return.
  Conditions: no more than 1048576 proofs; a nil slice has no capacity.
-/
import Derived.Test.YtfnjoinkfghalaaProof7
import Derived.Test.YtfnjoinkfghalaaMark
import Derived.Deep.DeepCutAuto
namespace Go.Proofs.Ytfnjoinkfghalaa
open Go.RowKit

/-- what is handed back: a list of proofs in new memory, a bool -/
def ResP (w : World) (L : List Prf) (B : Bool) (e : Ending) (w' : World) : Prop := ∃ bo bc, e = .returned (.tuple #[.slice bo L.length bc, .bool B]) ∧ Ext w w' ∧ FreshAt w.heap.size w' bo 5 L.length (fun k => (nth L k).c)
theorem ResP.mk {w w' : World} {L : List Prf} {B : Bool} {e : Ending} (bo : Option Addr) (bc : Nat) (h : e = .returned (.tuple #[.slice bo L.length bc, .bool B])) (h1 : Ext w w') (h2 : FreshAt w.heap.size w' bo 5 L.length (fun k => (nth L k).c)) : ResP w L B e w' := ⟨bo, bc, h, h1, h2⟩
theorem fresh_nilP {B0 : Nat} {w : World} {s : Nat} {c : Nat → Nat → Value} : FreshAt B0 w none s 0 c := ⟨fun h => absurd h (Nat.lt_irrefl 0), fun a e => (by cases e), fun b off e => (by cases e)⟩
def addB (xs : List Prf) (p : Prf) : Bool := prfsB xs && prfsB (xs ++ [p])
def addL (xs : List Prf) (p : Prf) : List Prf := if addB xs p then xs ++ [p] else []

set_option maxRecDepth 100000 in
set_option maxHeartbeats 2000000 in
theorem impl_AddProof {ao : Option Addr} {cap : Nat} {ms : List Prf} {p : Prf} {w : World} (h : RowAt w ao 5 ms.length (fun k => (nth ms k).c)) (hn : ms.length ≤ 9223372036854775807) (hs : ms.length ≤ 1048576) (hnil : ao = none → cap = 0) :
    Calls Try.prog 21 #[.slice ao ms.length cap, p.val] w (ResP w (addL ms p) (addB ms p)) := by
  obtain ⟨i0, hi, hz0, hz1, hz2⟩ := info_parts infoPrf
  obtain ⟨r, c, k, t, g⟩ := p
  unfold Prf.val
  dsimp only
  cases hv : prfsB ms
  · have hB : addB ms ⟨r, c, k, t, g⟩ = false := by simp [addB, hv]
    have hL : addL ms ⟨r, c, k, t, g⟩ = [] := by simp [addL, hB]
    rw [hB, hL]; clear hB hL
    go_enter Try.func21, Try.ntmps21
    go_wp2_with fail
    refine (impl_AreProofs (h.ext (by repeat (first | (with_reducible exact Ext.refl _) | (with_reducible assumption) | with_reducible refine Ext.drew ?_ | with_reducible refine Ext.alloc ?_ _ | with_reducible refine Ext.setCell ?_ (by first | (simp; done) | (simp; omega) | omega) _ | with_reducible refine Ext.trans ?_ (by with_reducible assumption)))) hn).mono ?_; rw [hv]; rintro e w1 ⟨rfl, hx1⟩
    go_wp2
    go_ret2
    exact .mk none 0 rfl (by repeat (first | (with_reducible exact Ext.refl _) | (with_reducible assumption) | with_reducible refine Ext.drew ?_ | with_reducible refine Ext.alloc ?_ _ | with_reducible refine Ext.setCell ?_ (by first | (simp; done) | (simp; omega) | omega) _ | with_reducible refine Ext.trans ?_ (by with_reducible assumption))) fresh_nilP
  · obtain ⟨L, hL⟩ : ∃ L, L = ms ++ [⟨r, c, k, t, g⟩] := ⟨_, rfl⟩
    have hLl : L.length ≤ 9223372036854775807 := by rw [hL]; simp; omega
    have hw0 : Ext w (w.alloc (Obj.cells #[.int .i64 r, .int .i64 c, .int .i64 k, .int .i64 t, .bool g] 45)) := (Ext.refl _).alloc _
    have hadd : addB ms ⟨r, c, k, t, g⟩ = prfsB L := by rw [hL]; simp [addB, hv]
    have hadl : addL ms ⟨r, c, k, t, g⟩ = if prfsB L then L else [] := by unfold addL; rw [hadd, ← hL]
    have HADD := Lib.hid hadd
    have HADL := Lib.hid hadl
    have HV := Lib.hid hv; clear hv
    have HL := Lib.hid hL; clear hL hadd hadl
    have hrow2 := fun x => row_lit (w := x) (cs := #[.int .i64 r, .int .i64 c, .int .i64 k, .int .i64 t, .bool g]) (T := 45) (s := 5) (cc := Prf.c) (x := ⟨r, c, k, t, g⟩) (by intro j hj; match j, hj with | 0, _ => rfl | 1, _ => rfl | 2, _ => rfl | 3, _ => rfl | 4, _ => rfl)
    have HR2 := Lib.hid hrow2; clear hrow2
    have HQ := Lib.hid (show (w.alloc (Obj.cells #[.int .i64 r, .int .i64 c, .int .i64 k, .int .i64 t, .bool g] 45)).cell? ⟨w.heap.size, 0, none⟩ = some (.int .i64 r) ∧ (w.alloc (Obj.cells #[.int .i64 r, .int .i64 c, .int .i64 k, .int .i64 t, .bool g] 45)).cell? ⟨w.heap.size, 1, none⟩ = some (.int .i64 c) ∧
      (w.alloc (Obj.cells #[.int .i64 r, .int .i64 c, .int .i64 k, .int .i64 t, .bool g] 45)).cell? ⟨w.heap.size, 2, none⟩ = some (.int .i64 k) ∧ (w.alloc (Obj.cells #[.int .i64 r, .int .i64 c, .int .i64 k, .int .i64 t, .bool g] 45)).cell? ⟨w.heap.size, 3, none⟩ = some (.int .i64 t) ∧
      (w.alloc (Obj.cells #[.int .i64 r, .int .i64 c, .int .i64 k, .int .i64 t, .bool g] 45)).cell? ⟨w.heap.size, 4, none⟩ = some (.bool g) from ⟨by go_simp, by go_simp, by go_simp, by go_simp, by go_simp⟩)
    go_enter Try.func21, Try.ntmps21
    go_wp2_with fail
    refine (impl_AreProofs (h.ext (by repeat (first | (with_reducible exact Ext.refl _) | (with_reducible assumption) | with_reducible refine Ext.drew ?_ | with_reducible refine Ext.alloc ?_ _ | with_reducible refine Ext.setCell ?_ (by first | (simp; done) | (simp; omega) | omega) _ | with_reducible refine Ext.trans ?_ (by with_reducible assumption)))) hn).mono ?_; rw [HV.out]; rintro e w1 ⟨rfl, hx1⟩
    have d0 : w1.cell? ⟨w.heap.size, 0, none⟩ = some (.int .i64 r) := hx1.cells (by go_simp)
    have d1 : w1.cell? ⟨w.heap.size, 1, none⟩ = some (.int .i64 c) := hx1.cells (by go_simp)
    have d2 : w1.cell? ⟨w.heap.size, 2, none⟩ = some (.int .i64 k) := hx1.cells (by go_simp)
    have d3 : w1.cell? ⟨w.heap.size, 3, none⟩ = some (.int .i64 t) := hx1.cells (by go_simp)
    have d4 : w1.cell? ⟨w.heap.size, 4, none⟩ = some (.bool g) := hx1.cells (by go_simp)
    have hr1 := h.ext (hw0.trans hx1)
    have hb1 : w.heap.size < w1.heap.size := by have := hx1.size; simp at this; omega
    have hb2 : w.heap.size < w1.heap.size + 1 := by omega
    have hb3 : w.heap.size < w1.heap.size + 1 + 1 := by omega
    clear h
    have hxb := hx1
    have OB := Lib.hid (show Owns ((w1.alloc (Obj.cells #[.int .i64 r, .int .i64 c, .int .i64 k, .int .i64 t, .bool g] 45)).alloc (Obj.cells #[] 45)) (w.alloc (Obj.cells #[.int .i64 r, .int .i64 c, .int .i64 k, .int .i64 t, .bool g] 45)).heap.size 45 5 Prf.c (.slice (some ⟨w1.heap.size + 1, 0, none⟩) 0 0) ([] : List Prf) from by
      have := Owns.start (α := Prf) (e := 45) (s := 5) (cc := Prf.c) (hxb.alloc (Obj.cells #[.int .i64 r, .int .i64 c, .int .i64 k, .int .i64 t, .bool g] 45))
      simpa using this)
    have RB := Lib.hid ((HR2.out w1).ext ((Ext.refl _).alloc (Obj.cells #[] 45)))
    have RC := Lib.hid (show RowAt ((w1.alloc (Obj.cells #[] 45)).alloc (Obj.cells #[.int .i64 r, .int .i64 c, .int .i64 k, .int .i64 t, .bool g] 45)) (some ⟨w1.heap.size + 1, 0, none⟩) 5 [(⟨r, c, k, t, g⟩ : Prf)].length (fun q => Prf.c (nth [(⟨r, c, k, t, g⟩ : Prf)] q)) from by
      have := HR2.out (w1.alloc (Obj.cells #[] 45))
      simpa using this)
    clear hxb
    go_wp2
    go_region_law (first
      | (refine step_append_rows (o := ⟨some 12, _, _, _, _, _⟩) rfl _ _ 27 rfl (w.alloc (Obj.cells #[.int .i64 r, .int .i64 c, .int .i64 k, .int .i64 t, .bool g] 45)) 45 i0 _ 5 40 Try.underlying27 hi hz0 hz1 hz2 rfl (by decide) Prf.c prf_one _ [] ms rfl (by first | exact OB.out.kept (by repeat (first | (with_reducible exact Ext.refl _) | (with_reducible assumption) | with_reducible refine Ext.drew ?_ | with_reducible refine Ext.alloc ?_ _ | with_reducible refine Ext.setCell ?_ (by first | (simp; done) | (simp; omega) | omega) _ | with_reducible refine Ext.trans ?_ (by with_reducible assumption))) | exact (Owns.start (by repeat (first | (with_reducible exact Ext.refl _) | (with_reducible assumption) | with_reducible refine Ext.drew ?_ | with_reducible refine Ext.alloc ?_ _ | with_reducible refine Ext.setCell ?_ (by first | (simp; done) | (simp; omega) | omega) _ | with_reducible refine Ext.trans ?_ (by with_reducible assumption)))).kept (by repeat (first | (with_reducible exact Ext.refl _) | (with_reducible assumption) | with_reducible refine Ext.drew ?_ | with_reducible refine Ext.alloc ?_ _ | with_reducible refine Ext.setCell ?_ (by first | (simp; done) | (simp; omega) | omega) _ | with_reducible refine Ext.trans ?_ (by with_reducible assumption)))) ao ms.length cap rfl rfl hnil (hr1.ext (by repeat (first | (with_reducible exact Ext.refl _) | (with_reducible assumption) | with_reducible refine Ext.drew ?_ | with_reducible refine Ext.alloc ?_ _ | with_reducible refine Ext.setCell ?_ (by first | (simp; done) | (simp; omega) | omega) _ | with_reducible refine Ext.trans ?_ (by with_reducible assumption)))) (by simp; omega) (by simp; omega) (by repeat (first | (with_reducible exact Ext.refl _) | (with_reducible assumption) | with_reducible refine Ext.drew ?_ | with_reducible refine Ext.alloc ?_ _ | with_reducible refine Ext.setCell ?_ (by first | (simp; done) | (simp; omega) | omega) _ | with_reducible refine Ext.trans ?_ (by with_reducible assumption))) ?_; intro v1 w3 ho1 hx3 hg3; rw [List.nil_append] at ho1; have b0 := hx3.cells HQ.out.1; have b1 := hx3.cells HQ.out.2.1; have b2 := hx3.cells HQ.out.2.2.1; have b3 := hx3.cells HQ.out.2.2.2.1; have b4 := hx3.cells HQ.out.2.2.2.2; first | (have hlit := RowAt.grown (row := some (w1.heap.size + 1)) (RowAt.ext RB.out (Ext.drew (Ext.refl _))) (by decide) hg3 (by intro a e; injection e with e; subst e; simp)) | (have hlit := RowAt.grown (row := some w1.heap.size) (RowAt.ext RC.out (Ext.drew (Ext.refl _))) (by decide) hg3 (by intro a e; injection e with e; subst e; simp)) | skip)
      | (refine step_append_rows (o := ⟨some 15, _, _, _, _, _⟩) rfl _ _ 27 rfl (w.alloc (Obj.cells #[.int .i64 r, .int .i64 c, .int .i64 k, .int .i64 t, .bool g] 45)) 45 i0 _ 5 40 Try.underlying27 hi hz0 hz1 hz2 rfl (by decide) Prf.c prf_one _ ms [⟨r, c, k, t, g⟩] rfl (ho1.kept ((Ext.refl _).alloc _)) (some ⟨_, 0, none⟩) 1 1 rfl rfl (fun h => by cases h) (HR2.out _) (by simp; omega) (by simp; omega) (by repeat (first | (with_reducible exact Ext.refl _) | (with_reducible assumption) | with_reducible refine Ext.drew ?_ | with_reducible refine Ext.alloc ?_ _ | with_reducible refine Ext.setCell ?_ (by first | (simp; done) | (simp; omega) | omega) _ | with_reducible refine Ext.trans ?_ (by with_reducible assumption))) ?_; intro v2 w4 ho2 hx4 hg4; rw [← HL.out] at ho2; clear hg4)
      | (refine step_append_rows (o := ⟨some 15, _, _, _, _, _⟩) rfl _ _ 27 rfl (w.alloc (Obj.cells #[.int .i64 r, .int .i64 c, .int .i64 k, .int .i64 t, .bool g] 45)) 45 i0 _ 5 40 Try.underlying27 hi hz0 hz1 hz2 rfl (by decide) Prf.c prf_one _ ms [⟨r, c, k, t, g⟩] rfl ho1 (some ⟨_, 0, none⟩) 1 1 rfl rfl (fun h => by cases h) hlit (by simp; omega) (by simp; omega) (by repeat (first | (with_reducible exact Ext.refl _) | (with_reducible assumption) | with_reducible refine Ext.drew ?_ | with_reducible refine Ext.alloc ?_ _ | with_reducible refine Ext.setCell ?_ (by first | (simp; done) | (simp; omega) | omega) _ | with_reducible refine Ext.trans ?_ (by with_reducible assumption))) ?_; intro v2 w4 ho2 hx4 hg4; rw [← HL.out] at ho2; clear hg4))
    all_goals
      have hbase : (w.alloc (Obj.cells #[.int .i64 r, .int .i64 c, .int .i64 k, .int .i64 t, .bool g] 45)).heap.size = w.heap.size + 1 := by simp
      obtain ⟨a2, cp2, rfl, hf2, _, _, _⟩ := ho2.fresh
      have hxw := hw0.trans hx4
      rw [hbase] at hf2
      clear hbase ho2 hx4
      cases ht : prfsB L
      all_goals
        have HT := Lib.hid ht; clear ht
        go_wp2_with fail
        refine (impl_AreProofs hf2.row hLl).mono ?_; rw [HT.out]; rintro e w5 ⟨rfl, hx5⟩
        go_wp2
        go_ret2
        rw [HADL.out, HADD.out, HT.out]
      · exact .mk none 0 rfl (by repeat (first | (with_reducible exact Ext.refl _) | (with_reducible assumption) | with_reducible refine Ext.drew ?_ | with_reducible refine Ext.alloc ?_ _ | with_reducible refine Ext.setCell ?_ (by first | (simp; done) | (simp; omega) | omega) _ | with_reducible refine Ext.trans ?_ (by with_reducible assumption))) fresh_nilP
      · exact .mk _ _ rfl (by repeat (first | (with_reducible exact Ext.refl _) | (with_reducible assumption) | with_reducible refine Ext.drew ?_ | with_reducible refine Ext.alloc ?_ _ | with_reducible refine Ext.setCell ?_ (by first | (simp; done) | (simp; omega) | omega) _ | with_reducible refine Ext.trans ?_ (by with_reducible assumption))) ((hf2.ext hx5).mono (by omega))

theorem prfsB_pre {xs : List Prf} {p : Prf} (h : prfsB (xs ++ [p]) = true) : prfsB xs = true := by
  simp only [prfsB, Bool.and_eq_true, decide_eq_true_eq, upto_true] at h ⊢
  rw [List.length_append] at h
  refine ⟨by have := h.1; omega, fun k hk => ?_⟩
  have h1 := h.2 k (by omega)
  have : nth (xs ++ [p]) k = nth xs k := by simp only [nth, List.getD]; rw [List.getElem?_append_left hk]
  rwa [this] at h1
theorem addB_spec (xs : List Prf) (p : Prf) : addB xs p = prfsB (xs ++ [p]) := by
  unfold addB
  cases h : prfsB (xs ++ [p])
  · simp
  · rw [prfsB_pre h]; rfl

set_option maxRecDepth 100000 in
set_option maxHeartbeats 2000000 in
theorem spec_AddProof {ao : Option Addr} {cap : Nat} {ms : List Prf} {p : Prf} {w : World} (h : RowAt w ao 5 ms.length (fun k => (nth ms k).c)) (hn : ms.length ≤ 9223372036854775807) (hs : ms.length ≤ 1048576) (hnil : ao = none → cap = 0) :
    Calls Try.prog 40 #[.slice ao ms.length cap, p.val] w (ResP w (addL ms p) (addB ms p)) := by
  obtain ⟨i0, hi, hz0, hz1, hz2⟩ := info_parts infoPrf
  obtain ⟨r, c, k, t, g⟩ := p
  unfold Prf.val
  dsimp only
  obtain ⟨L, hL⟩ : ∃ L, L = ms ++ [⟨r, c, k, t, g⟩] := ⟨_, rfl⟩
  have hLl : L.length ≤ 9223372036854775807 := by rw [hL]; simp; omega
  have hw0 : Ext w (w.alloc (Obj.cells #[.int .i64 r, .int .i64 c, .int .i64 k, .int .i64 t, .bool g] 45)) := (Ext.refl _).alloc _
  have hadd : addB ms ⟨r, c, k, t, g⟩ = prfsB L := by rw [hL]; exact addB_spec _ _
  have hadl : addL ms ⟨r, c, k, t, g⟩ = if prfsB L then L else [] := by unfold addL; rw [hadd, ← hL]
  have HADD := Lib.hid hadd
  have HADL := Lib.hid hadl
  have HL := Lib.hid hL; clear hL hadd hadl
  have hrow2 := fun x => row_lit (w := x) (cs := #[.int .i64 r, .int .i64 c, .int .i64 k, .int .i64 t, .bool g]) (T := 45) (s := 5) (cc := Prf.c) (x := ⟨r, c, k, t, g⟩) (by intro j hj; match j, hj with | 0, _ => rfl | 1, _ => rfl | 2, _ => rfl | 3, _ => rfl | 4, _ => rfl)
  have HR2 := Lib.hid hrow2; clear hrow2
  have HQ := Lib.hid (show (w.alloc (Obj.cells #[.int .i64 r, .int .i64 c, .int .i64 k, .int .i64 t, .bool g] 45)).cell? ⟨w.heap.size, 0, none⟩ = some (.int .i64 r) ∧ (w.alloc (Obj.cells #[.int .i64 r, .int .i64 c, .int .i64 k, .int .i64 t, .bool g] 45)).cell? ⟨w.heap.size, 1, none⟩ = some (.int .i64 c) ∧
    (w.alloc (Obj.cells #[.int .i64 r, .int .i64 c, .int .i64 k, .int .i64 t, .bool g] 45)).cell? ⟨w.heap.size, 2, none⟩ = some (.int .i64 k) ∧ (w.alloc (Obj.cells #[.int .i64 r, .int .i64 c, .int .i64 k, .int .i64 t, .bool g] 45)).cell? ⟨w.heap.size, 3, none⟩ = some (.int .i64 t) ∧
    (w.alloc (Obj.cells #[.int .i64 r, .int .i64 c, .int .i64 k, .int .i64 t, .bool g] 45)).cell? ⟨w.heap.size, 4, none⟩ = some (.bool g) from ⟨by go_simp, by go_simp, by go_simp, by go_simp, by go_simp⟩)
  go_enter Try.func40, Try.ntmps40
  go_wp2
  generalize hw1 : w.alloc (Obj.cells #[.int .i64 r, .int .i64 c, .int .i64 k, .int .i64 t, .bool g] 45) = w1
  have hx1 : Ext (w.alloc (Obj.cells #[.int .i64 r, .int .i64 c, .int .i64 k, .int .i64 t, .bool g] 45)) w1 := by rw [hw1]; exact Ext.refl _
  clear hw1
  have d0 : w1.cell? ⟨w.heap.size, 0, none⟩ = some (.int .i64 r) := hx1.cells (by go_simp)
  have d1 : w1.cell? ⟨w.heap.size, 1, none⟩ = some (.int .i64 c) := hx1.cells (by go_simp)
  have d2 : w1.cell? ⟨w.heap.size, 2, none⟩ = some (.int .i64 k) := hx1.cells (by go_simp)
  have d3 : w1.cell? ⟨w.heap.size, 3, none⟩ = some (.int .i64 t) := hx1.cells (by go_simp)
  have d4 : w1.cell? ⟨w.heap.size, 4, none⟩ = some (.bool g) := hx1.cells (by go_simp)
  have hr1 := h.ext (hw0.trans hx1)
  have hb1 : w.heap.size < w1.heap.size := by have := hx1.size; simp at this; omega
  have hb2 : w.heap.size < w1.heap.size + 1 := by omega
  have hb3 : w.heap.size < w1.heap.size + 1 + 1 := by omega
  clear h
  have hxb := hx1
  have OB := Lib.hid (show Owns ((w1.alloc (Obj.cells #[.int .i64 r, .int .i64 c, .int .i64 k, .int .i64 t, .bool g] 45)).alloc (Obj.cells #[] 45)) (w.alloc (Obj.cells #[.int .i64 r, .int .i64 c, .int .i64 k, .int .i64 t, .bool g] 45)).heap.size 45 5 Prf.c (.slice (some ⟨w1.heap.size + 1, 0, none⟩) 0 0) ([] : List Prf) from by
    have := Owns.start (α := Prf) (e := 45) (s := 5) (cc := Prf.c) (hxb.alloc (Obj.cells #[.int .i64 r, .int .i64 c, .int .i64 k, .int .i64 t, .bool g] 45))
    simpa using this)
  have RB := Lib.hid ((HR2.out w1).ext ((Ext.refl _).alloc (Obj.cells #[] 45)))
  have RC := Lib.hid (show RowAt ((w1.alloc (Obj.cells #[] 45)).alloc (Obj.cells #[.int .i64 r, .int .i64 c, .int .i64 k, .int .i64 t, .bool g] 45)) (some ⟨w1.heap.size + 1, 0, none⟩) 5 [(⟨r, c, k, t, g⟩ : Prf)].length (fun q => Prf.c (nth [(⟨r, c, k, t, g⟩ : Prf)] q)) from by
    have := HR2.out (w1.alloc (Obj.cells #[] 45))
    simpa using this)
  clear hxb
  go_region_law (first
    | (refine step_append_rows (o := ⟨some 9, _, _, _, _, _⟩) rfl _ _ 27 rfl (w.alloc (Obj.cells #[.int .i64 r, .int .i64 c, .int .i64 k, .int .i64 t, .bool g] 45)) 45 i0 _ 5 40 Try.underlying27 hi hz0 hz1 hz2 rfl (by decide) Prf.c prf_one _ [] ms rfl (by first | exact OB.out.kept (by repeat (first | (with_reducible exact Ext.refl _) | (with_reducible assumption) | with_reducible refine Ext.drew ?_ | with_reducible refine Ext.alloc ?_ _ | with_reducible refine Ext.setCell ?_ (by first | (simp; done) | (simp; omega) | omega) _ | with_reducible refine Ext.trans ?_ (by with_reducible assumption))) | exact (Owns.start (by repeat (first | (with_reducible exact Ext.refl _) | (with_reducible assumption) | with_reducible refine Ext.drew ?_ | with_reducible refine Ext.alloc ?_ _ | with_reducible refine Ext.setCell ?_ (by first | (simp; done) | (simp; omega) | omega) _ | with_reducible refine Ext.trans ?_ (by with_reducible assumption)))).kept (by repeat (first | (with_reducible exact Ext.refl _) | (with_reducible assumption) | with_reducible refine Ext.drew ?_ | with_reducible refine Ext.alloc ?_ _ | with_reducible refine Ext.setCell ?_ (by first | (simp; done) | (simp; omega) | omega) _ | with_reducible refine Ext.trans ?_ (by with_reducible assumption)))) ao ms.length cap rfl rfl hnil (hr1.ext (by repeat (first | (with_reducible exact Ext.refl _) | (with_reducible assumption) | with_reducible refine Ext.drew ?_ | with_reducible refine Ext.alloc ?_ _ | with_reducible refine Ext.setCell ?_ (by first | (simp; done) | (simp; omega) | omega) _ | with_reducible refine Ext.trans ?_ (by with_reducible assumption)))) (by simp; omega) (by simp; omega) (by repeat (first | (with_reducible exact Ext.refl _) | (with_reducible assumption) | with_reducible refine Ext.drew ?_ | with_reducible refine Ext.alloc ?_ _ | with_reducible refine Ext.setCell ?_ (by first | (simp; done) | (simp; omega) | omega) _ | with_reducible refine Ext.trans ?_ (by with_reducible assumption))) ?_; intro v1 w3 ho1 hx3 hg3; rw [List.nil_append] at ho1; have b0 := hx3.cells HQ.out.1; have b1 := hx3.cells HQ.out.2.1; have b2 := hx3.cells HQ.out.2.2.1; have b3 := hx3.cells HQ.out.2.2.2.1; have b4 := hx3.cells HQ.out.2.2.2.2; first | (have hlit := RowAt.grown (row := some (w1.heap.size + 1)) (RowAt.ext RB.out (Ext.drew (Ext.refl _))) (by decide) hg3 (by intro a e; injection e with e; subst e; simp)) | (have hlit := RowAt.grown (row := some w1.heap.size) (RowAt.ext RC.out (Ext.drew (Ext.refl _))) (by decide) hg3 (by intro a e; injection e with e; subst e; simp)) | skip)
    | (refine step_append_rows (o := ⟨some 12, _, _, _, _, _⟩) rfl _ _ 27 rfl (w.alloc (Obj.cells #[.int .i64 r, .int .i64 c, .int .i64 k, .int .i64 t, .bool g] 45)) 45 i0 _ 5 40 Try.underlying27 hi hz0 hz1 hz2 rfl (by decide) Prf.c prf_one _ ms [⟨r, c, k, t, g⟩] rfl (ho1.kept ((Ext.refl _).alloc _)) (some ⟨_, 0, none⟩) 1 1 rfl rfl (fun h => by cases h) (HR2.out _) (by simp; omega) (by simp; omega) (by repeat (first | (with_reducible exact Ext.refl _) | (with_reducible assumption) | with_reducible refine Ext.drew ?_ | with_reducible refine Ext.alloc ?_ _ | with_reducible refine Ext.setCell ?_ (by first | (simp; done) | (simp; omega) | omega) _ | with_reducible refine Ext.trans ?_ (by with_reducible assumption))) ?_; intro v2 w4 ho2 hx4 hg4; rw [← HL.out] at ho2; clear hg4)
    | (refine step_append_rows (o := ⟨some 12, _, _, _, _, _⟩) rfl _ _ 27 rfl (w.alloc (Obj.cells #[.int .i64 r, .int .i64 c, .int .i64 k, .int .i64 t, .bool g] 45)) 45 i0 _ 5 40 Try.underlying27 hi hz0 hz1 hz2 rfl (by decide) Prf.c prf_one _ ms [⟨r, c, k, t, g⟩] rfl ho1 (some ⟨_, 0, none⟩) 1 1 rfl rfl (fun h => by cases h) hlit (by simp; omega) (by simp; omega) (by repeat (first | (with_reducible exact Ext.refl _) | (with_reducible assumption) | with_reducible refine Ext.drew ?_ | with_reducible refine Ext.alloc ?_ _ | with_reducible refine Ext.setCell ?_ (by first | (simp; done) | (simp; omega) | omega) _ | with_reducible refine Ext.trans ?_ (by with_reducible assumption))) ?_; intro v2 w4 ho2 hx4 hg4; rw [← HL.out] at ho2; clear hg4))
  all_goals
    have hbase : (w.alloc (Obj.cells #[.int .i64 r, .int .i64 c, .int .i64 k, .int .i64 t, .bool g] 45)).heap.size = w.heap.size + 1 := by simp
    obtain ⟨a2, cp2, rfl, hf2, _, _, _⟩ := ho2.fresh
    have hxw := hw0.trans hx4
    rw [hbase] at hf2
    clear hbase ho2 hx4
    cases ht : prfsB L
    all_goals
      have HT := Lib.hid ht; clear ht
      go_wp2_with fail
      refine (spec_l14Good hf2.row hLl).mono ?_; rw [HT.out]; rintro e w5 ⟨rfl, hx5⟩
      go_wp2
      go_ret2
      rw [HADL.out, HADD.out, HT.out]
    · exact .mk _ _ rfl (by repeat (first | (with_reducible exact Ext.refl _) | (with_reducible assumption) | with_reducible refine Ext.drew ?_ | with_reducible refine Ext.alloc ?_ _ | with_reducible refine Ext.setCell ?_ (by first | (simp; done) | (simp; omega) | omega) _ | with_reducible refine Ext.trans ?_ (by with_reducible assumption))) (Owns.start (α := Prf) (cc := Prf.c) (hxw.trans hx5)).fresh0
    · exact .mk _ _ rfl (by repeat (first | (with_reducible exact Ext.refl _) | (with_reducible assumption) | with_reducible refine Ext.drew ?_ | with_reducible refine Ext.alloc ?_ _ | with_reducible refine Ext.setCell ?_ (by first | (simp; done) | (simp; omega) | omega) _ | with_reducible refine Ext.trans ?_ (by with_reducible assumption))) ((hf2.ext hx5).mono (by omega))

end Go.Proofs.Ytfnjoinkfghalaa
