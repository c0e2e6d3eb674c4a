/-
  Proved here: heats: how they are read, copied, compared.
  Conditions: the lengths fit an int.
-/
import Derived.Test.YtdbibdecnepobaaInts
namespace Go.Proofs.Ytdbibdecnepobaa
open Go.ChangeShapes Go.WideShapes Go.ChangeAt Go.RowKit Go.Joins Go.Deep

structure HeatD where
  rs : List Int
  ts : List Int
instance : Inhabited HeatD := ⟨⟨[], []⟩⟩
def HeatD.val (h : HeatD) (ao : Option Addr) (ac : Nat) (bo : Option Addr) (bc : Nat) : Value := .agg #[.slice ao h.rs.length ac, .slice bo h.ts.length bc]
def HeatD.eqB (x y : HeatD) : Bool := eqL eqI x.rs y.rs && eqL eqI x.ts y.ts
theorem HeatD.eqB_iff (x y : HeatD) : x.eqB y = true ↔ x = y := by
  cases x; cases y; simp [HeatD.eqB, eqL_iff eqI_iff]

set_option maxHeartbeats 1000000 in
theorem laws_toHeat {h : HeatD} {ao bo : Option Addr} {ac bc : Nat} {w : World} (hr : RowAt w ao 1 h.rs.length (ic h.rs)) (ht : RowAt w bo 1 h.ts.length (ic h.ts)) (hn : h.rs.length ≤ 1048576) (hn' : h.ts.length ≤ 1048576) :
    Calls Try.prog 9 #[h.val ao ac bo bc] w fun e w' => ∃ A B, e = .returned (h.val (some ⟨A, 0, none⟩) h.rs.length (some ⟨B, 0, none⟩) h.ts.length) ∧ Ext w w' ∧ FreshAt w.heap.size w' (some ⟨A, 0, none⟩) 1 h.rs.length (ic h.rs) ∧ FreshAt w.heap.size w' (some ⟨B, 0, none⟩) 1 h.ts.length (ic h.ts) ∧ A ≠ B := by
  obtain ⟨rs, ts⟩ := h
  dsimp only [HeatD.val] at hr ht hn hn' ⊢
  go_enter Try.func9, Try.ntmps9
  go_wp2_with fail
  refine (laws_toIntS (hr.ext (by repeat (first | (with_reducible exact Ext.refl _) | (with_reducible assumption) | with_reducible refine Ext.drew ?_ | with_reducible refine Ext.alloc ?_ _ | with_reducible refine Ext.setCell ?_ (by first | (simp; done) | (simp; omega) | omega) _ | with_reducible refine Ext.trans ?_ (by with_reducible assumption)))) hn).mono ?_; rintro e w1 ⟨A, rfl, hx1, hF⟩
  have hc1 := Ext.cellr hx1
  have hf1 := Ext.frozenr hx1
  have hz1 := hx1.size
  simp at hz1
  have r0 : w1.cell? ⟨w.heap.size + 1, 0, none⟩ = some (.slice none 0 0) := hx1.cells (by go_simp)
  have r1 : w1.cell? ⟨w.heap.size + 1, 1, none⟩ = some (.slice none 0 0) := hx1.cells (by go_simp)
  have q1 : w1.cell? ⟨w.heap.size + 1 + 1, 1, none⟩ = some (.slice none 0 0) := hx1.cells (by go_simp)
  have q0 : w1.cell? ⟨w.heap.size + 1 + 1, 0, none⟩ = some (.slice none 0 0) := hx1.cells (by go_simp)
  have u1 : w1.frozen? ⟨w.heap.size + 1 + 1, 1, none⟩ = false := (hx1.frozenr _ _ (by simp)).trans (by go_simp)
  have u2 : w1.frozen? ⟨w.heap.size + 1, 0, none⟩ = false := (hx1.frozenr _ _ (by simp)).trans (by go_simp)
  have u3 : w1.frozen? ⟨w.heap.size + 1, 1, none⟩ = false := (hx1.frozenr _ _ (by simp)).trans (by go_simp)
  have hA := hF.base _ rfl
  have hF1 := hF.mono (B1 := w.heap.size + 1 + 1 + 1) (by simp)
  go_wp2_with fail
  refine (laws_toIntS (ht.ext (by repeat (first | (with_reducible exact Ext.refl _) | (with_reducible assumption) | with_reducible refine Ext.drew ?_ | with_reducible refine Ext.alloc ?_ _ | with_reducible refine Ext.setCell ?_ (by first | (simp; done) | (simp; omega) | omega) _ | with_reducible refine Ext.trans ?_ (by with_reducible assumption)))) hn').mono ?_; rintro e w2 ⟨B, rfl, hx2, hF2⟩
  have hB := hF2.base _ rfl
  have hs2 : (w1.setCell ⟨w.heap.size + 1 + 1, 0, none⟩ (.slice (some ⟨A, 0, none⟩) rs.length rs.length)).heap.size = w1.heap.size := by simp [World.setCell]
  rw [hs2] at hF2 hB
  have s0 : w2.cell? ⟨w.heap.size + 1 + 1, 0, none⟩ = some (.slice (some ⟨A, 0, none⟩) rs.length rs.length) := hx2.cells (World.cell?_setCell_same _ _ _ q0)
  have s1 : w2.cell? ⟨w.heap.size + 1 + 1, 1, none⟩ = some (.slice none 0 0) := hx2.cells ((World.cell?_setCell_other _ _ _ _ (by simp)).trans q1)
  have v0 : w2.cell? ⟨w.heap.size + 1, 0, none⟩ = some (.slice none 0 0) := hx2.cells ((World.cell?_setCell_other _ _ _ _ (by simp)).trans r0)
  have v1 : w2.cell? ⟨w.heap.size + 1, 1, none⟩ = some (.slice none 0 0) := hx2.cells ((World.cell?_setCell_other _ _ _ _ (by simp)).trans r1)
  have x1 : w2.frozen? ⟨w.heap.size + 1 + 1, 1, none⟩ = false := (hx2.frozenr _ _ (by rw [hs2]; omega)).trans (by rw [World.frozen?_setCell]; exact u1)
  have x2 : w2.frozen? ⟨w.heap.size + 1, 0, none⟩ = false := (hx2.frozenr _ _ (by rw [hs2]; omega)).trans (by rw [World.frozen?_setCell]; exact u2)
  have x3 : w2.frozen? ⟨w.heap.size + 1, 1, none⟩ = false := (hx2.frozenr _ _ (by rw [hs2]; omega)).trans (by rw [World.frozen?_setCell]; exact u3)
  have hF3 := (hF1.setCell (p := ⟨w.heap.size + 1 + 1, 0, none⟩) (by simp) (.slice (some ⟨A, 0, none⟩) rs.length rs.length)).ext hx2
  have hF4 := hF2.mono (B1 := w.heap.size + 1 + 1 + 1) (by omega)
  have hAB : A ≠ B := by have := hA.2; have := hB.1; simp only at *; omega
  have hE : Ext w w2 := Ext.trans (by repeat (first | (with_reducible exact Ext.refl _) | (with_reducible assumption) | with_reducible refine Ext.drew ?_ | with_reducible refine Ext.alloc ?_ _ | with_reducible refine Ext.setCell ?_ (by first | (simp; done) | (simp; omega) | omega) _ | with_reducible refine Ext.trans ?_ (by with_reducible assumption))) hx2
  clear hc1 hf1 r0 r1 q0 q1 u1 u2 u3 hF hF1 hF2 hx1 hx2 hA hB hs2 hr ht
  go_wp2
  refine bodyPost_ret (v := .agg #[.slice (some ⟨A, 0, none⟩) rs.length rs.length, .slice (some ⟨B, 0, none⟩) ts.length ts.length]) ?_ rfl ?_
  · simp [results, Try.results9, go_sem, cell_put, v0, v1]
  · refine ⟨A, B, rfl, (by repeat (first | (with_reducible exact Ext.refl _) | (with_reducible assumption) | with_reducible refine Ext.drew ?_ | with_reducible refine Ext.alloc ?_ _ | with_reducible refine Ext.setCell ?_ (by first | (simp; done) | (simp; omega) | omega) _ | with_reducible refine Ext.trans ?_ (by with_reducible assumption))), ?_, ?_, hAB⟩
    · exact (((hF3.setCell (by simp) _).setCell (by simp) _).setCell (by simp) _).mono (by omega)
    · exact (((hF4.setCell (by simp) _).setCell (by simp) _).setCell (by simp) _).mono (by omega)

theorem laws_eqHeat {x y : HeatD} {ao bo ao' bo' : Option Addr} {ac bc ac' bc' : Nat} {w : World} (h1 : RowAt w ao 1 x.rs.length (ic x.rs)) (h2 : RowAt w bo 1 x.ts.length (ic x.ts)) (h3 : RowAt w ao' 1 y.rs.length (ic y.rs)) (h4 : RowAt w bo' 1 y.ts.length (ic y.ts))
    (n1 : x.rs.length ≤ 9223372036854775807) (n2 : x.ts.length ≤ 9223372036854775807) (n3 : y.rs.length ≤ 9223372036854775807) (n4 : y.ts.length ≤ 9223372036854775807) :
    Calls Try.prog 11 #[x.val ao ac bo bc, y.val ao' ac' bo' bc'] w fun e w' => e = .returned (.bool (x.eqB y)) ∧ Ext w w' := by
  obtain ⟨rs, ts⟩ := x
  obtain ⟨rs', ts'⟩ := y
  dsimp only [HeatD.val] at h1 h2 h3 h4 n1 n2 n3 n4 ⊢
  have hx0 := Ext.refl ((w.alloc (Obj.cells #[.slice ao rs.length ac, .slice bo ts.length bc] 27)).alloc (Obj.cells #[.slice ao' rs'.length ac', .slice bo' ts'.length bc'] 27))
  have hw0 : Ext w ((w.alloc (Obj.cells #[.slice ao rs.length ac, .slice bo ts.length bc] 27)).alloc (Obj.cells #[.slice ao' rs'.length ac', .slice bo' ts'.length bc'] 27)) := (by repeat (first | (with_reducible exact Ext.refl _) | (with_reducible assumption) | with_reducible refine Ext.drew ?_ | with_reducible refine Ext.alloc ?_ _ | with_reducible refine Ext.setCell ?_ (by first | (simp; done) | (simp; omega) | omega) _ | with_reducible refine Ext.trans ?_ (by with_reducible assumption)))
  go_enter Try.func11, Try.ntmps11
  go_wp2_with fail
  refine (laws_eqIntS (h1.ext hw0) (h3.ext hw0) n1 n3).mono ?_; rintro e w1 ⟨rfl, hx1⟩
  have hc1 := hx1.cellr
  cases hab : eqL eqI rs rs'
  · go_wp2
    go_ret
    exact ⟨ret_b (by simp [HeatD.eqB, hab]), (by repeat (first | (with_reducible exact Ext.refl _) | (with_reducible assumption) | with_reducible refine Ext.drew ?_ | with_reducible refine Ext.alloc ?_ _ | with_reducible refine Ext.setCell ?_ (by first | (simp; done) | (simp; omega) | omega) _ | with_reducible refine Ext.trans ?_ (by with_reducible assumption)))⟩
  · go_wp2_with fail
    refine (laws_eqIntS (h2.ext (hw0.trans hx1)) (h4.ext (hw0.trans hx1)) n2 n4).mono ?_; rintro e w2 ⟨rfl, hx2⟩
    clear hx0
    go_wp2
    all_goals go_ret
    all_goals exact ⟨ret_b (by simp_all [HeatD.eqB]), (by repeat (first | (with_reducible exact Ext.refl _) | (with_reducible assumption) | with_reducible refine Ext.drew ?_ | with_reducible refine Ext.alloc ?_ _ | with_reducible refine Ext.setCell ?_ (by first | (simp; done) | (simp; omega) | omega) _ | with_reducible refine Ext.trans ?_ (by with_reducible assumption)))⟩

theorem laws_szHeat {h : HeatD} {ao bo : Option Addr} {ac bc : Nat} {w : World} (n1 : h.rs.length ≤ 9223372036854775807) (n2 : h.ts.length ≤ 9223372036854775807) :
    Calls Try.prog 7 #[h.val ao ac bo bc, .int .i64 1048576] w fun e w' => e = .returned (.int .i64 (if (h.rs.length : Int) + h.ts.length ≤ 1048576 then 1048576 - h.rs.length - h.ts.length else -1)) ∧ Ext w w' := by
  obtain ⟨rs, ts⟩ := h
  dsimp only [HeatD.val] at n1 n2 ⊢
  by_cases c1 : (rs.length : Int) ≤ 1048576
  · by_cases c2 : (rs.length : Int) + ts.length ≤ 1048576
    · rw [if_pos c2]
      go_enter Try.func7, Try.ntmps7
      go_wp2_with fail
      refine (laws_szIntS n1 (by decide) (by decide)).mono ?_; rintro e w1 ⟨rfl, rfl⟩
      rw [show szI rs.length 1048576 = 1048576 - (rs.length : Int) by simp [szI]; omega]
      go_wp2_with fail
      refine (laws_szIntS n2 (by omega) (by omega)).mono ?_; rintro e w1 ⟨rfl, rfl⟩
      rw [show szI ts.length (1048576 - (rs.length : Int)) = 1048576 - (rs.length : Int) - (ts.length : Int) by simp [szI]; omega]
      go_wp2
      go_ret
      exact ⟨rfl, (by repeat (first | (with_reducible exact Ext.refl _) | (with_reducible assumption) | with_reducible refine Ext.drew ?_ | with_reducible refine Ext.alloc ?_ _ | with_reducible refine Ext.setCell ?_ (by first | (simp; done) | (simp; omega) | omega) _ | with_reducible refine Ext.trans ?_ (by with_reducible assumption)))⟩
    · rw [if_neg c2]
      go_enter Try.func7, Try.ntmps7
      go_wp2_with fail
      refine (laws_szIntS n1 (by decide) (by decide)).mono ?_; rintro e w1 ⟨rfl, rfl⟩
      rw [show szI rs.length 1048576 = 1048576 - (rs.length : Int) by simp [szI]; omega]
      go_wp2_with fail
      refine (laws_szIntS n2 (by omega) (by omega)).mono ?_; rintro e w1 ⟨rfl, rfl⟩
      rw [show szI ts.length (1048576 - (rs.length : Int)) = -1 by simp [szI]; omega]
      go_wp2
      go_ret
      exact ⟨rfl, (by repeat (first | (with_reducible exact Ext.refl _) | (with_reducible assumption) | with_reducible refine Ext.drew ?_ | with_reducible refine Ext.alloc ?_ _ | with_reducible refine Ext.setCell ?_ (by first | (simp; done) | (simp; omega) | omega) _ | with_reducible refine Ext.trans ?_ (by with_reducible assumption)))⟩
  · rw [if_neg (by omega)]
    go_enter Try.func7, Try.ntmps7
    go_wp2_with fail
    refine (laws_szIntS n1 (by decide) (by decide)).mono ?_; rintro e w1 ⟨rfl, rfl⟩
    rw [show szI rs.length 1048576 = -1 by simp [szI]; omega]
    go_wp2
    go_ret
    exact ⟨rfl, (by repeat (first | (with_reducible exact Ext.refl _) | (with_reducible assumption) | with_reducible refine Ext.drew ?_ | with_reducible refine Ext.alloc ?_ _ | with_reducible refine Ext.setCell ?_ (by first | (simp; done) | (simp; omega) | omega) _ | with_reducible refine Ext.trans ?_ (by with_reducible assumption)))⟩

end Go.Proofs.Ytdbibdecnepobaa
