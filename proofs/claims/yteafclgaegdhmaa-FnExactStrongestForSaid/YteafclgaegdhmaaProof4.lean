/-
  Proved here: the greatest weights by kind (the program's way).
  Conditions: the proofs are valid ones.
-/
import Derived.Test.YteafclgaegdhmaaProof3
namespace Go.Proofs.Yteafclgaegdhmaa
open Go.RowKit

/-- the array of the greatest weights -/
def wArr (xs : List Prf) (r c : Int) (ag : Bool) (k : Nat) : Value := .agg #[.int .i64 (bestW xs r c 0 ag k), .int .i64 (bestW xs r c 1 ag k), .int .i64 (bestW xs r c 2 ag k), .int .i64 (bestW xs r c 3 ag k)]
structure WRel (xs : List Prf) (r c : Int) (ag : Bool) (w wr : World) (k : Nat) : Prop where
  ext : Ext w wr
  size : w.heap.size + 1 < wr.heap.size
  c0 : wr.cell? ⟨w.heap.size + 1, 0, none⟩ = some (.int .i64 (bestW xs r c 0 ag k))
  c1 : wr.cell? ⟨w.heap.size + 1, 1, none⟩ = some (.int .i64 (bestW xs r c 1 ag k))
  c2 : wr.cell? ⟨w.heap.size + 1, 2, none⟩ = some (.int .i64 (bestW xs r c 2 ag k))
  c3 : wr.cell? ⟨w.heap.size + 1, 3, none⟩ = some (.int .i64 (bestW xs r c 3 ag k))
  f : ∀ j, wr.frozen? ⟨w.heap.size + 1, j, none⟩ = false
  r0 : ∀ j, j < 4 → ∃ u, wr.cell? ⟨w.heap.size, j, none⟩ = some u
  rf : ∀ j, wr.frozen? ⟨w.heap.size, j, none⟩ = false

theorem WRel.kept {xs : List Prf} {r c : Int} {ag : Bool} {w wr w' : World} {k : Nat} (h : WRel xs r c ag w wr k) (hx : Ext wr w') : WRel xs r c ag w w' k :=
  have hs := h.size
  have hs' := hx.size
  ⟨h.ext.trans hx, by omega, hx.cells h.c0, hx.cells h.c1, hx.cells h.c2, hx.cells h.c3, fun j => (hx.frozenr _ _ hs).trans (h.f j), fun j hj => let ⟨u, hu⟩ := h.r0 j hj; ⟨u, hx.cells hu⟩, fun j => (hx.frozenr _ _ (by omega)).trans (h.rf j)⟩
theorem bestW_miss {xs : List Prf} {r c kd : Int} {ag : Bool} {k : Nat} (h : cnt (nth xs k) r c kd ag = false) : bestW xs r c kd ag (k + 1) = bestW xs r c kd ag k := by
  rw [bestW, if_neg (by simp [h])]
theorem WRel.miss {xs : List Prf} {r c : Int} {ag : Bool} {w wr : World} {k : Nat} (h : WRel xs r c ag w wr k) (hc : ((nth xs k).runner == r && (nth xs k).code == c && (nth xs k).against == ag) = false) : WRel xs r c ag w wr (k + 1) := by
  have hm : ∀ kd, bestW xs r c kd ag (k + 1) = bestW xs r c kd ag k := fun kd => bestW_miss (by
    cases e : cnt (nth xs k) r c kd ag
    · rfl
    · simp only [cnt, Bool.and_eq_true] at e
      simp [e] at hc)
  exact ⟨h.ext, h.size, by rw [hm]; exact h.c0, by rw [hm]; exact h.c1, by rw [hm]; exact h.c2, by rw [hm]; exact h.c3, h.f, h.r0, h.rf⟩
theorem WRel.hit {xs : List Prf} {r c : Int} {ag : Bool} {w wr : World} {k : Nat} (h : WRel xs r c ag w wr k) (hc : ((nth xs k).runner == r && (nth xs k).code == c && (nth xs k).against == ag) = true) {q : Nat} (_hq : q < 4) (hkd : (nth xs k).kind = (q : Int)) :
    WRel xs r c ag w (wr.setCell ⟨w.heap.size + 1, q, none⟩ (.int .i64 (if bestW xs r c q ag k < (nth xs k).weight then (nth xs k).weight else bestW xs r c q ag k))) (k + 1) := by
  simp only [Bool.and_eq_true] at hc
  have hcnt : ∀ kd : Int, cnt (nth xs k) r c kd ag = ((q : Int) == kd) := fun kd => by simp [cnt, hc, hkd]
  have hyes : bestW xs r c q ag (k + 1) = if bestW xs r c q ag k < (nth xs k).weight then (nth xs k).weight else bestW xs r c q ag k := by
    rw [bestW, if_pos (by rw [hcnt]; simp)]
    split <;> omega
  have hno : ∀ kd : Int, (q : Int) ≠ kd → bestW xs r c kd ag (k + 1) = bestW xs r c kd ag k := fun kd hne => bestW_miss (by rw [hcnt]; simpa using hne)
  have hcell : ∀ j : Nat, wr.cell? ⟨w.heap.size + 1, j, none⟩ = some (.int .i64 (bestW xs r c j ag k)) → (wr.setCell ⟨w.heap.size + 1, q, none⟩ (.int .i64 (if bestW xs r c q ag k < (nth xs k).weight then (nth xs k).weight else bestW xs r c q ag k))).cell? ⟨w.heap.size + 1, j, none⟩ = some (.int .i64 (bestW xs r c j ag (k + 1))) := fun j hj => by
    by_cases e : q = j
    · subst e
      rw [World.cell?_setCell_same _ _ _ hj, hyes]
    · rw [World.cell?_setCell_other _ _ _ _ (fun e' => e (by injection e')), hj, hno j (by omega)]
  refine ⟨h.ext.setCell (by simp) _, by simpa [World.setCell] using h.size, hcell 0 h.c0, hcell 1 h.c1, hcell 2 h.c2, hcell 3 h.c3, fun j => by rw [World.frozen?_setCell]; exact h.f j, fun j hj => ?_, fun j => by rw [World.frozen?_setCell]; exact h.rf j⟩
  obtain ⟨u, hu⟩ := h.r0 j hj
  exact ⟨u, (World.cell?_setCell_other _ _ _ _ (fun e' => by injection e' with e1; omega)).trans hu⟩

end Go.Proofs.Yteafclgaegdhmaa
