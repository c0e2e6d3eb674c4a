/-
  Proved here: rows that are written over; worlds in which one row alone has changed.
  Conditions: none beyond those in each statement.
-/
import Derived.Test.YtckgjpaccgpdpaaGreatDoorBase
namespace Go.Proofs.YtckgjpaccgpdpaaGreatDoor
open Go.RowKit

/-- the block of an address -/
def blk (ao : Option Addr) : Option Nat := ao.map (·.block)

theorem grown_refl (w : World) (row : Option Nat) : w.grownBy w row := ⟨rfl, rfl, rfl, Nat.le_refl _, fun _ _ _ => rfl⟩
theorem grown_ext {a w w' : World} {row : Option Nat} (h : Ext a w) (hg : w.grownBy w' row) (hr : ∀ k, row = some k → a.heap.size ≤ k) : Ext a w' :=
  Below.grown (B := a.heap.size) (a := a) h hg h.size hr
theorem grown_size {w w' : World} {row : Option Nat} (hg : w.grownBy w' row) : w.heap.size ≤ w'.heap.size := hg.size
theorem grown_cell {w w' : World} {row : Option Nat} (hg : w.grownBy w' row) {b o : Nat} (hb : b < w.heap.size) (hr : row ≠ some b) : w'.cell? ⟨b, o, none⟩ = w.cell? ⟨b, o, none⟩ :=
  World.cell?_of_block (a := ⟨b, o, none⟩) (hg.block b hb (fun e => hr e.symm))
theorem grown_frozen {w w' : World} {row : Option Nat} (hg : w.grownBy w' row) {b o : Nat} (hb : b < w.heap.size) (hr : row ≠ some b) : w'.frozen? ⟨b, o, none⟩ = w.frozen? ⟨b, o, none⟩ :=
  World.frozen?_of_block (a := ⟨b, o, none⟩) (hg.block b hb (fun e => hr e.symm))

theorem FreshAt.grown {B0 : Nat} {w w' : World} {ao : Option Addr} {s n : Nat} {c : Nat → Nat → Value} {row : Option Nat} (h : FreshAt B0 w ao s n c) (hg : w.grownBy w' row) (hr : ∀ a, ao = some a → row ≠ some a.block) : FreshAt B0 w' ao s n c where
  row := fun hn => by
    obtain ⟨b, off, e, H⟩ := h.row hn
    have := (h.base _ e).2
    exact ⟨b, off, e, fun k hk j hj => (grown_cell hg this (hr _ e)).trans (H k hk j hj)⟩
  base := fun a e => ⟨(h.base a e).1, Nat.lt_of_lt_of_le (h.base a e).2 hg.size⟩
  free := fun b off e j => (grown_frozen hg (h.base _ e).2 (hr _ e)).trans (h.free b off e j)

theorem RowAt.grown {w w' : World} {ao : Option Addr} {s n : Nat} {c : Nat → Nat → Value} {row : Option Nat} (h : RowAt w ao s n c) (hs : 0 < s) (hg : w.grownBy w' row) (hr : ∀ a, ao = some a → row ≠ some a.block) : RowAt w' ao s n c := fun hn => by
  obtain ⟨b, off, e, H⟩ := h hn
  have hlt : b < w.heap.size := World.block_lt_of_cell? _ _ (H 0 hn 0 hs)
  exact ⟨b, off, e, fun k hk j hj => (grown_cell hg hlt (hr _ e)).trans (H k hk j hj)⟩

/-- m of a row's n * s cells are written over. -/
structure Over (w wr : World) (b off s n m : Nat) (c : Nat → Nat → Value) : Prop where
  grown : w.grownBy wr (some b)
  size : b < wr.heap.size
  cell : ∀ j, j < n * s → ∃ u, wr.cell? ⟨b, off + j, none⟩ = some u
  free : ∀ j, wr.frozen? ⟨b, j, none⟩ = false
  done : ∀ i j, j < s → i * s + j < m → wr.cell? ⟨b, off + (i * s + j), none⟩ = some (c i j)

theorem Over.start {B0 : Nat} {w : World} {b off s n : Nat} {c d : Nat → Nat → Value} (h : FreshAt B0 w (some ⟨b, off, none⟩) s n c) (hn : 0 < n) (hs : 0 < s) : Over w w b off s n 0 d where
  grown := grown_refl _ _
  size := (h.base _ rfl).2
  cell := fun j hj => by
    obtain ⟨b', off', e, H⟩ := h.row hn
    injection e with e
    injection e with e1 e2
    subst e1; subst e2
    have h1 : j / s < n := by rw [Nat.div_lt_iff_lt_mul hs]; exact hj
    have h2 := H (j / s) h1 (j % s) (Nat.mod_lt _ hs)
    rw [Nat.add_assoc, Nat.mul_comm (j / s) s, Nat.div_add_mod] at h2
    exact ⟨_, h2⟩
  free := h.free b off rfl
  done := fun i j _ hlt => by omega

theorem Over.put {w wr : World} {b off s n m : Nat} {c : Nat → Nat → Value} (h : Over w wr b off s n m c) {i j : Nat} (hj : j < s) (hm : m = i * s + j) (hi : i < n) :
    Over w (wr.setCell ⟨b, off + m, none⟩ (c i j)) b off s n (m + 1) c := by
  have hlt : m < n * s := by
    have h1 : (i + 1) * s ≤ n * s := Nat.mul_le_mul_right _ hi
    rw [Nat.add_mul] at h1
    omega
  obtain ⟨u, hu⟩ := h.cell m hlt
  refine ⟨?_, by simpa [World.setCell] using h.size, fun j' hj' => ?_, fun j' => ?_, fun i' j' hj' hlt' => ?_⟩
  · exact ⟨h.grown.os, h.grown.tape, h.grown.output, by simpa [World.setCell] using h.grown.size, fun k hk hne => (Below.heap_setCell _ _ _ _ (fun e => hne (by rw [e]))).trans (h.grown.block k hk hne)⟩
  · by_cases e : m = j'
    · subst e; exact ⟨_, World.cell?_setCell_same wr _ _ hu⟩
    · obtain ⟨v, hv⟩ := h.cell j' hj'
      exact ⟨v, (World.cell?_setCell_other _ _ _ _ (fun e' => e (by injection e' with _ e2; omega))).trans hv⟩
  · rw [World.frozen?_setCell]; exact h.free j'
  · by_cases e : m = i' * s + j'
    · rw [hm] at e
      obtain ⟨rfl, rfl⟩ := mul_add_inj hj hj' e
      rw [← hm]
      exact World.cell?_setCell_same wr _ _ hu
    · exact (World.cell?_setCell_other _ _ _ _ (fun e' => e (by injection e' with _ e2; omega))).trans (h.done i' j' hj' (by omega))

theorem Over.fresh {B0 : Nat} {w wr : World} {b off s n m : Nat} {c : Nat → Nat → Value} (h : Over w wr b off s n m c) (hm : m = n * s) (hb : B0 ≤ b) : FreshAt B0 wr (some ⟨b, off, none⟩) s n c where
  row := fun _ => ⟨b, off, rfl, fun k hk j hj => by
    have h1 : (k + 1) * s ≤ n * s := Nat.mul_le_mul_right _ hk
    rw [Nat.add_mul] at h1
    rw [Nat.add_assoc]
    exact h.done k j hj (by omega)⟩
  base := fun a e => by injection e with e; subst e; exact ⟨hb, h.size⟩
  free := fun b' off' e j => by injection e with e; injection e with e1 e2; subst e1; exact h.free j

end Go.Proofs.YtckgjpaccgpdpaaGreatDoor
