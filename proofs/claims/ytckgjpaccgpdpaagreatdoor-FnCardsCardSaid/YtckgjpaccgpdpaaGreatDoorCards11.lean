/-
  Proved here: what the reference of MostFound returns.
  Conditions: the lengths fit.
-/
import Derived.Test.YtckgjpaccgpdpaaGreatDoorCards10
namespace Go.Proofs.YtckgjpaccgpdpaaGreatDoor
open Go.RowKit

/-- A row that is being filled from its end: f q .. f n are there. -/
structure Part (wo wi : World) (g n q : Nat) (f : Nat → Nat) : Prop where
  ext : Ext wo wi
  lo : wo.heap.size ≤ g
  hi : g < wi.heap.size
  cell : ∀ t, t ≤ n → ∃ u, wi.cell? ⟨g, t, none⟩ = some u
  free : ∀ t, wi.frozen? ⟨g, t, none⟩ = false
  done : ∀ t, q ≤ t → t ≤ n → wi.cell? ⟨g, t, none⟩ = some (.int .i64 (f t))
theorem Part.grow {wo wi w' : World} {g n q : Nat} {f : Nat → Nat} (h : Part wo wi g n q f) (hx : Ext wi w') : Part wo w' g n q f :=
  ⟨h.ext.trans hx, h.lo, Nat.lt_of_lt_of_le h.hi hx.size, fun t ht => let ⟨u, hu⟩ := h.cell t ht; ⟨u, hx.cells hu⟩, fun t => (hx.frozenr _ _ h.hi).trans (h.free t), fun t h1 h2 => hx.cells (h.done t h1 h2)⟩
theorem Part.put {wo wi : World} {g n q : Nat} {f : Nat → Nat} {v : Value} (h : Part wo wi g n (q + 1) f) (hq : q ≤ n) : Part wo (wi.setCell ⟨g, q, none⟩ v) g n (q + 1) f := by
  obtain ⟨u0, hu0⟩ := h.cell q hq
  refine ⟨h.ext.setCell h.lo _, h.lo, by simpa [World.setCell] using h.hi, fun t ht => ?_, fun t => by rw [World.frozen?_setCell]; exact h.free t, fun t h1 h2 => ?_⟩
  · by_cases e : t = q
    · subst e; exact ⟨v, World.cell?_setCell_same _ _ _ hu0⟩
    · obtain ⟨u, hu⟩ := h.cell t ht
      exact ⟨u, (World.cell?_setCell_other _ _ _ _ (fun e' => by injection e' with _ e'; omega)).trans hu⟩
  · exact (World.cell?_setCell_other _ _ _ _ (fun e' => by injection e' with _ e'; omega)).trans (h.done t h1 h2)
theorem Part.fin {wo wi : World} {g n q : Nat} {f : Nat → Nat} (h : Part wo wi g n (q + 1) f) (hq : q ≤ n) : Part wo (wi.setCell ⟨g, q, none⟩ (.int .i64 (f q))) g n q f := by
  have h2 := h.put (v := .int .i64 (f q)) hq
  obtain ⟨u0, hu0⟩ := h.cell q hq
  refine ⟨h2.ext, h2.lo, h2.hi, h2.cell, h2.free, fun t h1 h3 => ?_⟩
  by_cases e : t = q
  · subst e; exact World.cell?_setCell_same _ _ _ hu0
  · exact h2.done t (by omega) h3
theorem Part.row {wo wi : World} {g n : Nat} {f : Nat → Nat} (h : Part wo wi g n 0 f) : MRow wi (.slice (some ⟨g, 0, none⟩) (n + 1) (n + 1)) (n + 1) f :=
  ⟨_, _, rfl, fun _ => ⟨g, 0, rfl, fun k hk j hj => by
    obtain rfl : j = 0 := by omega
    have := h.done k (by omega) (by omega)
    simpa using this⟩⟩
theorem Part.start {wo wi : World} {n g : Nat} {e : TypeId} {f : Nat → Nat} (h : wi.ownsRow wo.heap.size e 1 (.slice (some ⟨g, 0, none⟩) (n + 1) (n + 1)) (n + 1) (madeCells #[Value.int .i64 0] ((n + 1) * 1)).toList) (hf : f n = 0) (hx : Ext wo wi) : Part wo wi g n n f := by
  have hl := h.lt g rfl
  have hc : ∀ t, t ≤ n → wi.cell? ⟨g, t, none⟩ = some (.int .i64 0) := fun t ht => by
    have := h.cellAt t (by omega)
    rwa [made_get _ (by omega)] at this
  exact ⟨hx, hl.1, hl.2, fun t ht => ⟨_, hc t ht⟩, fun t => h.frozenAt t, fun t h1 h2 => by obtain rfl : t = n := (by omega); rw [hc t h2, hf]; rfl⟩

end Go.Proofs.YtckgjpaccgpdpaaGreatDoor
