/-
  Proved here: toMap's two slices lie in order; what marking a map and a rule does.
  Conditions: the lengths are at most 2^40.
-/
import Derived.Test.YtidcfohlhamgmaaTMap
import Derived.Test.YtidcfohlhamgmaaMarkInts
namespace Go.Proofs.Ytidcfohlhamgmaa
open Go.RowKit

theorem grown_of_box {w w' : World} {o : Obj} {row : Option Nat} (h : (w.alloc o).grownBy w' row) : w.grownBy w' row :=
  ⟨h.os, h.tape, h.output, Nat.le_trans (by simp) h.size, fun k hk hne => (h.block k (by simp; omega) hne).trans (Below.heap_alloc w o k hk)⟩

set_option maxHeartbeats 1000000 in
theorem laws_toMapLt {m : MapD} {ao bo : Option Addr} {ac bc : Nat} {w : World} (hr : RowAt w ao 1 m.rise.length (ic m.rise)) (ht : RowAt w bo 1 m.cost.length (ic m.cost)) (hn : m.rise.length ≤ 1048576) (hn' : m.cost.length ≤ 1048576) :
    Calls Try.prog 12 #[m.val ao ac bo bc] w fun e w' => ∃ A B, e = .returned (m.val (some ⟨A, 0, none⟩) m.rise.length (some ⟨B, 0, none⟩) m.cost.length) ∧ Ext w w' ∧ FreshAt w.heap.size w' (some ⟨A, 0, none⟩) 1 m.rise.length (ic m.rise) ∧ FreshAt w.heap.size w' (some ⟨B, 0, none⟩) 1 m.cost.length (ic m.cost) ∧ A < B := by
  obtain ⟨wi, he, rs, ts⟩ := m
  dsimp only [MapD.val] at hr ht hn hn' ⊢
  go_enter Try.func12, Try.ntmps12
  go_wp2_with fail
  refine (laws_toIntS (hr.ext (by repeat (first | (with_reducible exact Ext.refl _) | (with_reducible assumption) | with_reducible refine Ext.drew ?_ | with_reducible refine Ext.alloc ?_ _ | with_reducible refine Ext.setCell ?_ (by first | (simp; done) | (simp; omega) | omega) _ | with_reducible refine Ext.trans ?_ (by with_reducible assumption)))) hn).mono ?_; rintro e w1 ⟨A, rfl, hx1, hF⟩
  have hc1 := Ext.cellr hx1
  have hf1 := Ext.frozenr hx1
  have hz1 := hx1.size
  simp at hz1
  have p3 : w1.cell? ⟨w.heap.size, 3, none⟩ = some (.slice bo ts.length bc) := hx1.cells (by go_simp)
  have r0 : w1.cell? ⟨w.heap.size + 1, 0, none⟩ = some (.int .i64 0) := hx1.cells (by go_simp)
  have r1 : w1.cell? ⟨w.heap.size + 1, 1, none⟩ = some (.int .i64 0) := hx1.cells (by go_simp)
  have r2 : w1.cell? ⟨w.heap.size + 1, 2, none⟩ = some (.slice none 0 0) := hx1.cells (by go_simp)
  have r3 : w1.cell? ⟨w.heap.size + 1, 3, none⟩ = some (.slice none 0 0) := hx1.cells (by go_simp)
  have q0 : w1.cell? ⟨w.heap.size + 1 + 1, 0, none⟩ = some (.int .i64 wi) := hx1.cells (by go_simp)
  have q1 : w1.cell? ⟨w.heap.size + 1 + 1, 1, none⟩ = some (.int .i64 he) := hx1.cells (by go_simp)
  have q2 : w1.cell? ⟨w.heap.size + 1 + 1, 2, none⟩ = some (.slice none 0 0) := hx1.cells (by go_simp)
  have q3 : w1.cell? ⟨w.heap.size + 1 + 1, 3, none⟩ = some (.slice none 0 0) := hx1.cells (by go_simp)
  have u0 : ∀ j, w1.frozen? ⟨w.heap.size + 1 + 1, j, none⟩ = false := fun j => (hx1.frozenr _ _ (by simp)).trans (by go_simp)
  have u1 : ∀ j, w1.frozen? ⟨w.heap.size + 1, j, none⟩ = false := fun j => (hx1.frozenr _ _ (by simp)).trans (by go_simp)
  have u2 := u0 2
  have hE1 : Ext w w1 := (by repeat (first | (with_reducible exact Ext.refl _) | (with_reducible assumption) | with_reducible refine Ext.drew ?_ | with_reducible refine Ext.alloc ?_ _ | with_reducible refine Ext.setCell ?_ (by first | (simp; done) | (simp; omega) | omega) _ | with_reducible refine Ext.trans ?_ (by with_reducible assumption)))
  have hA := hF.base _ rfl
  have hF1 := hF.mono (B1 := w.heap.size + 1 + 1 + 1) (by simp)
  have U0 := Lib.hid u0; clear u0
  have U1 := Lib.hid u1; clear u1
  clear hc1 hf1
  go_wp2_with fail
  refine (laws_toIntS (ht.ext (Ext.setCell hE1 (by simp only; omega) _)) hn').mono ?_; rintro e w2 ⟨B, rfl, hx2, hF2⟩
  have hs2 : (w1.setCell ⟨w.heap.size + 1 + 1, 2, none⟩ (.slice (some ⟨A, 0, none⟩) rs.length rs.length)).heap.size = w1.heap.size := by simp [World.setCell]
  have hse := hx2.size
  rw [hs2] at hF2 hse
  have hAB : A < B := by
    have h1 := (hF2.base _ rfl).1
    have h2 := hA.2
    simp only at h1 h2
    omega
  have s0 : w2.cell? ⟨w.heap.size + 1 + 1, 0, none⟩ = some (.int .i64 wi) := hx2.cells ((World.cell?_setCell_other _ _ _ _ (by simp)).trans q0)
  have s1 : w2.cell? ⟨w.heap.size + 1 + 1, 1, none⟩ = some (.int .i64 he) := hx2.cells ((World.cell?_setCell_other _ _ _ _ (by simp)).trans q1)
  have s2 : w2.cell? ⟨w.heap.size + 1 + 1, 2, none⟩ = some (.slice (some ⟨A, 0, none⟩) rs.length rs.length) := hx2.cells (World.cell?_setCell_same _ _ _ q2)
  have s3 : w2.cell? ⟨w.heap.size + 1 + 1, 3, none⟩ = some (.slice none 0 0) := hx2.cells ((World.cell?_setCell_other _ _ _ _ (by simp)).trans q3)
  have v0 : w2.cell? ⟨w.heap.size + 1, 0, none⟩ = some (.int .i64 0) := hx2.cells ((World.cell?_setCell_other _ _ _ _ (by simp)).trans r0)
  have v1 : w2.cell? ⟨w.heap.size + 1, 1, none⟩ = some (.int .i64 0) := hx2.cells ((World.cell?_setCell_other _ _ _ _ (by simp)).trans r1)
  have v2 : w2.cell? ⟨w.heap.size + 1, 2, none⟩ = some (.slice none 0 0) := hx2.cells ((World.cell?_setCell_other _ _ _ _ (by simp)).trans r2)
  have v3 : w2.cell? ⟨w.heap.size + 1, 3, none⟩ = some (.slice none 0 0) := hx2.cells ((World.cell?_setCell_other _ _ _ _ (by simp)).trans r3)
  have y3 : w2.frozen? ⟨w.heap.size + 1 + 1, 3, none⟩ = false := (hx2.frozenr _ _ (by rw [hs2]; omega)).trans (by rw [World.frozen?_setCell]; exact U0.out 3)
  have x0 : w2.frozen? ⟨w.heap.size + 1, 0, none⟩ = false := (hx2.frozenr _ _ (by rw [hs2]; omega)).trans (by rw [World.frozen?_setCell]; exact U1.out 0)
  have x1 : w2.frozen? ⟨w.heap.size + 1, 1, none⟩ = false := (hx2.frozenr _ _ (by rw [hs2]; omega)).trans (by rw [World.frozen?_setCell]; exact U1.out 1)
  have x2 : w2.frozen? ⟨w.heap.size + 1, 2, none⟩ = false := (hx2.frozenr _ _ (by rw [hs2]; omega)).trans (by rw [World.frozen?_setCell]; exact U1.out 2)
  have x3 : w2.frozen? ⟨w.heap.size + 1, 3, none⟩ = false := (hx2.frozenr _ _ (by rw [hs2]; omega)).trans (by rw [World.frozen?_setCell]; exact U1.out 3)
  have hl2 : w.heap.size + 1 + 1 < w2.heap.size := by omega
  have hF3 := (hF1.setCell (p := ⟨w.heap.size + 1 + 1, 2, none⟩) (by simp) (.slice (some ⟨A, 0, none⟩) rs.length rs.length)).ext hx2
  have hF4 := hF2.mono (B1 := w.heap.size + 1 + 1 + 1) (by omega)
  have hE : Ext w w2 := (Ext.setCell hE1 (by simp only; omega) _).trans hx2
  clear r0 r1 r2 r3 q0 q1 q2 q3 u2 U0 U1 hF hF1 hF2 hx1 hx2 hA hs2 hr ht p3
  go_wp2
  refine bodyPost_ret (v := .agg #[.int .i64 wi, .int .i64 he, .slice (some ⟨A, 0, none⟩) rs.length rs.length, .slice (some ⟨B, 0, none⟩) ts.length ts.length]) ?_ rfl ?_
  · simp [results, Try.results12, go_sem, cell_put, v0, v1, v2, v3]
  · refine ⟨A, B, rfl, (by repeat (first | (with_reducible exact Ext.refl _) | (with_reducible assumption) | with_reducible refine Ext.drew ?_ | with_reducible refine Ext.alloc ?_ _ | with_reducible refine Ext.setCell ?_ (by first | (simp; done) | (simp; omega) | omega) _ | with_reducible refine Ext.trans ?_ (by with_reducible assumption))), ?_, ?_, hAB⟩
    · exact (((((hF3.setCell (by simp) _).setCell (by simp) _).setCell (by simp) _).setCell (by simp) _).setCell (by simp) _).mono (by omega)
    · exact (((((hF4.setCell (by simp) _).setCell (by simp) _).setCell (by simp) _).setCell (by simp) _).setCell (by simp) _).mono (by omega)

set_option maxHeartbeats 1000000 in
theorem laws_markMap {m : MapD} {B0 A B ac bc : Nat} {c1 c2 : Nat → Nat → Value} {k0 : Int} {w : World} (h1 : FreshAt B0 w (some ⟨A, 0, none⟩) 1 m.rise.length c1) (h2 : FreshAt B0 w (some ⟨B, 0, none⟩) 1 m.cost.length c2) (hlt : A < B) (hn : m.rise.length ≤ 1099511627776) (hn' : m.cost.length ≤ 1099511627776) (h0 : 0 ≤ k0) (h9 : k0 ≤ 1099511627776) :
    Calls Try.prog 26 #[m.val (some ⟨A, 0, none⟩) ac (some ⟨B, 0, none⟩) bc, .int .i64 k0] w fun e w' => e = .returned (.int .i64 (k0 + m.rise.length + m.cost.length)) ∧ ∃ wm, w.grownBy wm (some A) ∧ wm.grownBy w' (some B) := by
  obtain ⟨wi, he, rs, ts⟩ := m
  dsimp only [MapD.val] at h1 h2 hn hn' ⊢
  have hA := h1.base _ rfl
  have hB := h2.base _ rfl
  simp only at hA hB
  have hx : Ext w (w.alloc (.cells #[.int .i64 wi, .int .i64 he, .slice (some ⟨A, 0, none⟩) rs.length ac, .slice (some ⟨B, 0, none⟩) ts.length bc] 30)) := (Ext.refl _).alloc _
  have HM := Lib.hid (laws_markIntS (cap := ac) (k0 := k0) (h1.ext hx) hn h0 (by omega))
  have q3 : (w.alloc (.cells #[.int .i64 wi, .int .i64 he, .slice (some ⟨A, 0, none⟩) rs.length ac, .slice (some ⟨B, 0, none⟩) ts.length bc] 30)).cell? ⟨w.heap.size, 3, none⟩ = some (.slice (some ⟨B, 0, none⟩) ts.length bc) := by go_simp
  have H2 := Lib.hid (h2.ext hx)
  have hz : w.heap.size < (w.alloc (.cells #[.int .i64 wi, .int .i64 he, .slice (some ⟨A, 0, none⟩) rs.length ac, .slice (some ⟨B, 0, none⟩) ts.length bc] 30)).heap.size := by simp
  go_enter Try.func26, Try.ntmps26
  go_wp2_with fail
  refine HM.out.mono ?_; rintro e w1 ⟨rfl, hg, _⟩
  have hne : (blk (some (⟨A, 0, none⟩ : Addr)) : Option Nat) ≠ some w.heap.size := fun e => by injection e with e; simp only at e; omega
  have p3 := (grown_cell (o := 3) hg hz hne).trans q3
  have HG := Lib.hid hg
  have HM2 := Lib.hid (laws_markIntS (cap := bc) (k0 := k0 + (rs.length : Int)) (H2.out.grown hg (fun a e => by injection e with e; subst e; intro e; injection e with e; simp only at e; omega)) hn' (by omega) (by omega))
  have hz1 : w.heap.size < w1.heap.size := World.block_lt_of_cell? _ _ p3
  clear hg HM q3
  go_wp2_with fail
  refine HM2.out.mono ?_; rintro e w2 ⟨rfl, hg2, _⟩
  have HG2 := Lib.hid hg2
  clear hg2
  go_wp2
  go_ret
  exact ⟨rfl, w1, grown_of_box HG.out, HG2.out⟩

set_option maxHeartbeats 1000000 in
theorem laws_markScoreRule {r : RuleD} {B0 A ac : Nat} {c1 : Nat → Nat → Value} {k0 : Int} {w : World} (h1 : FreshAt B0 w (some ⟨A, 0, none⟩) 1 r.pts.length c1) (hn : r.pts.length ≤ 1099511627776) (h0 : 0 ≤ k0) (h9 : k0 ≤ 4398046511104) :
    Calls Try.prog 28 #[r.val (some ⟨A, 0, none⟩) ac, .int .i64 k0] w fun e w' => e = .returned (.int .i64 (k0 + r.pts.length)) ∧ w.grownBy w' (some A) := by
  obtain ⟨ps, a, b⟩ := r
  dsimp only [RuleD.val] at h1 hn ⊢
  have HM := Lib.hid (laws_markIntS (cap := ac) (k0 := k0) (h1.ext ((Ext.refl _).alloc (.cells #[.slice (some ⟨A, 0, none⟩) ps.length ac, .int .i64 a, .int .i64 b] 43))) hn h0 (by omega))
  go_enter Try.func28, Try.ntmps28
  go_wp2_with fail
  refine HM.out.mono ?_; rintro e w1 ⟨rfl, hg, _⟩
  have HG := Lib.hid hg
  clear hg
  go_wp2
  go_ret
  exact ⟨rfl, grown_of_box HG.out⟩

end Go.Proofs.Ytidcfohlhamgmaa
