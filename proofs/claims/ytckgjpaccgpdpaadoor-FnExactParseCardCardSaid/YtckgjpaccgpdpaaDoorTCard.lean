/-
  Proved here: cards: how they are read, copied, compared; what IsCard and its reference return.
  Conditions: the number of punches fits an int.
-/
import Derived.Test.YtckgjpaccgpdpaaDoorTPunch
namespace Go.Proofs.YtckgjpaccgpdpaaDoor
open Go.ChangeShapes Go.WideShapes Go.ChangeAt Go.RowKit Go.Joins Go.Deep

structure CardD where
  number : Int
  start : Int
  finish : Int
  ps : List Pch
instance : Inhabited CardD := ⟨⟨0, 0, 0, []⟩⟩
/-- the value: the slice's address and capacity beside -/
def CardD.val (c : CardD) (ao : Option Addr) (cap : Nat) : Value := .agg #[.int .i64 c.number, .int .i64 c.start, .int .i64 c.finish, .slice ao c.ps.length cap]
def CardD.eqB (x y : CardD) : Bool := x.number == y.number && x.start == y.start && x.finish == y.finish && eqL Pch.eqB x.ps y.ps
theorem CardD.eqB_iff (x y : CardD) : x.eqB y = true ↔ x = y := by
  cases x; cases y; simp [CardD.eqB, and_assoc, eqL_iff Pch.eqB_iff]

theorem laws_toCard {c : CardD} {ao : Option Addr} {cap : Nat} {w : World} (h : RowAt w ao 2 c.ps.length (fun k => (nth c.ps k).c)) (hn : c.ps.length ≤ 1048576) :
    Calls Tryd.prog 7 #[c.val ao cap] w fun e w' => ∃ B, e = .returned (c.val (some ⟨B, 0, none⟩) c.ps.length) ∧ Ext w w' ∧ FreshAt w.heap.size w' (some ⟨B, 0, none⟩) 2 c.ps.length (fun k => (nth c.ps k).c) := by
  obtain ⟨a, b, f, ps⟩ := c
  dsimp only [CardD.val] at h hn ⊢
  go_enter Tryd.func7, Tryd.ntmps7
  go_wp2_with fail
  refine (laws_toPunchS (h.ext (by repeat (first | (with_reducible exact Ext.refl _) | (with_reducible assumption) | with_reducible refine Ext.drew ?_ | with_reducible refine Ext.alloc ?_ _ | with_reducible refine Ext.setCell ?_ (by first | (simp; done) | (simp; omega) | omega) _ | with_reducible refine Ext.trans ?_ (by with_reducible assumption)))) hn).mono ?_; rintro e w1 ⟨B, rfl, hx1, hF⟩
  have hc1 := Ext.cellr hx1
  have hf1 := Ext.frozenr hx1
  go_wp2
  have r0 : w1.cell? ⟨w.heap.size + 1, 0, none⟩ = some (.int .i64 0) := hx1.cells (by go_simp)
  have r1 : w1.cell? ⟨w.heap.size + 1, 1, none⟩ = some (.int .i64 0) := hx1.cells (by go_simp)
  have r2 : w1.cell? ⟨w.heap.size + 1, 2, none⟩ = some (.int .i64 0) := hx1.cells (by go_simp)
  have r3 : w1.cell? ⟨w.heap.size + 1, 3, none⟩ = some (.slice none 0 0) := hx1.cells (by go_simp)
  clear hc1 hf1
  refine bodyPost_ret (v := .agg #[.int .i64 a, .int .i64 b, .int .i64 f, .slice (some ⟨B, 0, none⟩) ps.length ps.length]) ?_ rfl ?_
  · simp [results, Tryd.results7, go_sem, cell_put, r0, r1, r2, r3]
  · refine ⟨B, rfl, (by repeat (first | (with_reducible exact Ext.refl _) | (with_reducible assumption) | with_reducible refine Ext.drew ?_ | with_reducible refine Ext.alloc ?_ _ | with_reducible refine Ext.setCell ?_ (by first | (simp; done) | (simp; omega) | omega) _ | with_reducible refine Ext.trans ?_ (by with_reducible assumption))), ?_⟩
    have hF' := hF.mono (B1 := w.heap.size + 1 + 1 + 1) (by simp)
    exact (((((hF'.setCell (by simp) _).setCell (by simp) _).setCell (by simp) _).setCell (by simp) _).setCell (by simp) _).mono (by omega)

theorem laws_eqCard {x y : CardD} {ao bo : Option Addr} {cap cap' : Nat} {w : World} (h : RowAt w ao 2 x.ps.length (fun k => (nth x.ps k).c)) (h' : RowAt w bo 2 y.ps.length (fun k => (nth y.ps k).c)) (hn : x.ps.length ≤ 9223372036854775807) (hn' : y.ps.length ≤ 9223372036854775807) :
    Calls Tryd.prog 9 #[x.val ao cap, y.val bo cap'] w fun e w' => e = .returned (.bool (x.eqB y)) ∧ Ext w w' := by
  obtain ⟨a, b, f, ps⟩ := x
  obtain ⟨a', b', f', ps'⟩ := y
  dsimp only [CardD.val] at h h' hn hn' ⊢
  go_enter Tryd.func9, Tryd.ntmps9
  go_wp2_with (go_at_call 20; refine (laws_eqPunchS (h.ext (by repeat (first | (with_reducible exact Ext.refl _) | (with_reducible assumption) | with_reducible refine Ext.drew ?_ | with_reducible refine Ext.alloc ?_ _ | with_reducible refine Ext.setCell ?_ (by first | (simp; done) | (simp; omega) | omega) _ | with_reducible refine Ext.trans ?_ (by with_reducible assumption)))) (h'.ext (by repeat (first | (with_reducible exact Ext.refl _) | (with_reducible assumption) | with_reducible refine Ext.drew ?_ | with_reducible refine Ext.alloc ?_ _ | with_reducible refine Ext.setCell ?_ (by first | (simp; done) | (simp; omega) | omega) _ | with_reducible refine Ext.trans ?_ (by with_reducible assumption)))) hn hn').mono ?_; rintro e w1 ⟨rfl, hx1⟩; have hc1 := Ext.cellr hx1)
  all_goals go_ret
  all_goals refine ⟨ret_b (by simp_all [CardD.eqB]), (by repeat (first | (with_reducible exact Ext.refl _) | (with_reducible assumption) | with_reducible refine Ext.drew ?_ | with_reducible refine Ext.alloc ?_ _ | with_reducible refine Ext.setCell ?_ (by first | (simp; done) | (simp; omega) | omega) _ | with_reducible refine Ext.trans ?_ (by with_reducible assumption)))⟩

theorem laws_szCard {c : CardD} {ao : Option Addr} {cap : Nat} {x : Int} {w : World} (hn : c.ps.length ≤ 9223372036854775807) (h0 : 0 ≤ x) (h1 : x ≤ 1048576) :
    Calls Tryd.prog 5 #[c.val ao cap, .int .i64 x] w fun e w' => e = .returned (.int .i64 (szI c.ps.length x)) ∧ Ext w w' := by
  obtain ⟨a, b, f, ps⟩ := c
  dsimp only [CardD.val] at hn ⊢
  by_cases h : (ps.length : Int) ≤ x
  · go_enter Tryd.func5, Tryd.ntmps5
    go_wp2_with fail
    refine (laws_szPunchS hn h0 h1).mono ?_; rintro e w1 ⟨rfl, rfl⟩
    rw [show szI ps.length x = x - (ps.length : Int) by simp [szI, h]]
    go_wp2
    go_ret
    exact ⟨ret_i (by simp [szI]; omega), (by repeat (first | (with_reducible exact Ext.refl _) | (with_reducible assumption) | with_reducible refine Ext.drew ?_ | with_reducible refine Ext.alloc ?_ _ | with_reducible refine Ext.setCell ?_ (by first | (simp; done) | (simp; omega) | omega) _ | with_reducible refine Ext.trans ?_ (by with_reducible assumption)))⟩
  · go_enter Tryd.func5, Tryd.ntmps5
    go_wp2_with fail
    refine (laws_szPunchS hn h0 h1).mono ?_; rintro e w1 ⟨rfl, rfl⟩
    rw [show szI ps.length x = -1 by simp [szI]; omega]
    go_wp2
    go_ret
    exact ⟨ret_i (by simp [szI]; omega), (by repeat (first | (with_reducible exact Ext.refl _) | (with_reducible assumption) | with_reducible refine Ext.drew ?_ | with_reducible refine Ext.alloc ?_ _ | with_reducible refine Ext.setCell ?_ (by first | (simp; done) | (simp; omega) | omega) _ | with_reducible refine Ext.trans ?_ (by with_reducible assumption)))⟩

set_option maxRecDepth 100000 in
/-- An argument that is a card, opened. -/
theorem open_Card {H : Type} {enc : TypeId × Value → H} {w : World} {base : Nat} {v : Value} {d : DataW H} {p : List MemPlace} (hv : Value.okWide Tryd.prog w .any base 24 v) (h : DataW.Trod enc Tryd.prog w 0 (fun _ => true) true 24 v d p) :
    ∃ (c : CardD) (ao : Option Addr) (cap : Nat), v = c.val ao cap ∧ RowAt w ao 2 c.ps.length (fun k => (nth c.ps k).c) ∧ c.ps.length ≤ 9223372036854775807 ∧ I64 c.number ∧ I64 c.start ∧ I64 c.finish ∧ ∀ k, k < c.ps.length → I64 (nth c.ps k).code ∧ I64 (nth c.ps k).time := by
  obtain ⟨v0, v1, v2, v3, y0, y1, y2, y3, n, rfl, _, _, t0, t1, t2, t3⟩ := open_agg4 Tryd.underlying24 (by kernel_rfl) (by kernel_rfl) hv h
  obtain ⟨x0, ex0, _, wx0⟩ := DataW.trod_int Tryd.underlying3 t0
  obtain rfl : v0 = _ := List.singleton_inj.1 ex0
  obtain ⟨x1, ex1, _, wx1⟩ := DataW.trod_int Tryd.underlying3 t1
  obtain rfl : v1 = _ := List.singleton_inj.1 ex1
  obtain ⟨x2, ex2, _, wx2⟩ := DataW.trod_int Tryd.underlying3 t2
  obtain rfl : v2 = _ := List.singleton_inj.1 ex2
  obtain ⟨ao, cap, ps, rfl, hl, hr, hw⟩ := trod_PunchS t3
  exact ⟨⟨x0, x1, x2, ps⟩, ao, cap, rfl, hr, hl, I64.of_wf wx0, I64.of_wf wx1, I64.of_wf wx2, hw⟩

end Go.Proofs.YtckgjpaccgpdpaaDoor
