/-
  Proved here: worlds in which blocks of a set alone have changed; cells of a block, as a list; rows between two numbers of blocks.
  Conditions: none beyond those in each statement.
-/
import Derived.Test.YtckgjpaccgpdpaaGreatDoorMark
namespace Go.Proofs.YtckgjpaccgpdpaaGreatDoor
open Go.RowKit

/-- worlds in which blocks of a set alone have changed -/
structure Touch (w w' : World) (S : Nat → Prop) : Prop where
  os : w'.os = w.os
  tape : w'.tape = w.tape
  output : w'.output = w.output
  size : w.heap.size ≤ w'.heap.size
  block : ∀ k, k < w.heap.size → ¬ S k → w'.heap[k]? = w.heap[k]?
theorem Touch.refl (w : World) (S : Nat → Prop) : Touch w w S := ⟨rfl, rfl, rfl, Nat.le_refl _, fun _ _ _ => rfl⟩
theorem Touch.trans {a b c : World} {S : Nat → Prop} (h : Touch a b S) (k : Touch b c S) : Touch a c S :=
  ⟨k.os.trans h.os, k.tape.trans h.tape, k.output.trans h.output, Nat.le_trans h.size k.size, fun i hi hne => (k.block i (Nat.lt_of_lt_of_le hi h.size) hne).trans (h.block i hi hne)⟩
theorem Touch.of_grown {w w' : World} {row : Option Nat} {S : Nat → Prop} (h : w.grownBy w' row) (hS : ∀ k, row = some k → S k) : Touch w w' S :=
  ⟨h.os, h.tape, h.output, h.size, fun k hk hne => h.block k hk (fun e => hne (hS k e.symm))⟩
theorem Touch.set {w : World} {p : Addr} {u : Value} {S : Nat → Prop} (hS : S p.block) : Touch w (w.setCell p u) S :=
  ⟨rfl, rfl, rfl, by simp [World.setCell], fun k _ hne => Below.heap_setCell _ _ _ _ (fun e => hne (by rw [e]; exact hS))⟩
theorem Touch.ext {a w w' : World} {S : Nat → Prop} (hx : Ext a w) (h : Touch w w' S) (hS : ∀ k, S k → a.heap.size ≤ k) : Ext a w' :=
  ⟨h.os.trans hx.os, h.tape.trans hx.tape, h.output.trans hx.output, Nat.le_trans hx.size h.size, fun k hk => (h.block k (Nat.lt_of_lt_of_le hk hx.size) (fun hs => by have := hS k hs; omega)).trans (hx.block k hk)⟩
theorem Touch.cell {w w' : World} {S : Nat → Prop} (h : Touch w w' S) {b o : Nat} (hb : b < w.heap.size) (hS : ¬ S b) : w'.cell? ⟨b, o, none⟩ = w.cell? ⟨b, o, none⟩ := World.cell?_of_block (a := ⟨b, o, none⟩) (h.block b hb hS)
theorem Touch.frozen {w w' : World} {S : Nat → Prop} (h : Touch w w' S) {b o : Nat} (hb : b < w.heap.size) (hS : ¬ S b) : w'.frozen? ⟨b, o, none⟩ = w.frozen? ⟨b, o, none⟩ := World.frozen?_of_block (a := ⟨b, o, none⟩) (h.block b hb hS)
theorem FreshAt.touch {B0 : Nat} {w w' : World} {ao : Option Addr} {s n : Nat} {c : Nat → Nat → Value} {S : Nat → Prop} (h : FreshAt B0 w ao s n c) (ht : Touch w w' S) (hS : ∀ a, ao = some a → ¬ S a.block) : FreshAt B0 w' ao s n c where
  row := fun hn => by
    obtain ⟨b, off, e, H⟩ := h.row hn
    have := (h.base _ e).2
    exact ⟨b, off, e, fun k hk j hj => (ht.cell this (hS _ e)).trans (H k hk j hj)⟩
  base := fun a e => ⟨(h.base a e).1, Nat.lt_of_lt_of_le (h.base a e).2 ht.size⟩
  free := fun b off e j => (ht.frozen (h.base _ e).2 (hS _ e)).trans (h.free b off e j)
theorem Touch.of_ext {w w' : World} {S : Nat → Prop} (h : Ext w w') : Touch w w' S := ⟨h.os, h.tape, h.output, h.size, fun k hk _ => h.block k hk⟩
theorem Touch.mono {w w' : World} {S S' : Nat → Prop} (h : Touch w w' S) (hS : ∀ k, S k → S' k) : Touch w w' S' := ⟨h.os, h.tape, h.output, h.size, fun k hk hn => h.block k hk (fun hs => hn (hS k hs))⟩

/-- blocks from lo on, below hi -/
def Span (lo hi : Nat) : Nat → Prop := fun k => lo ≤ k ∧ k < hi
theorem Touch.span {w w' : World} {lo hi : Nat} {row : Option Nat} (h : w.grownBy w' row) (hS : ∀ k, row = some k → lo ≤ k ∧ k < hi) : Touch w w' (Span lo hi) := Touch.of_grown h hS
theorem Touch.spanExt {a w w' : World} {lo hi : Nat} (hx : Ext a w) (h : Touch w w' (Span lo hi)) (hS : a.heap.size ≤ lo) : Ext a w' := h.ext hx (fun _ hk => Nat.le_trans hS hk.1)

/-- A row between two numbers of blocks. -/
structure In (lo hi : Nat) (w : World) (ao : Option Addr) (s n : Nat) (c : Nat → Nat → Value) : Prop where
  fresh : FreshAt lo w ao s n c
  top : ∀ a, ao = some a → a.block < hi
theorem In.of {lo : Nat} {w : World} {ao : Option Addr} {s n : Nat} {c : Nat → Nat → Value} (h : FreshAt lo w ao s n c) : In lo w.heap.size w ao s n c := ⟨h, fun a e => (h.base a e).2⟩
theorem In.ext {lo hi : Nat} {w w' : World} {ao : Option Addr} {s n : Nat} {c : Nat → Nat → Value} (h : In lo hi w ao s n c) (hx : Ext w w') : In lo hi w' ao s n c := ⟨h.fresh.ext hx, h.top⟩
theorem In.row {lo hi : Nat} {w : World} {ao : Option Addr} {s n : Nat} {c : Nat → Nat → Value} (h : In lo hi w ao s n c) : RowAt w ao s n c := h.fresh.row
theorem In.touch {lo hi l2 h2 : Nat} {w w' : World} {ao : Option Addr} {s n : Nat} {c : Nat → Nat → Value} (h : In lo hi w ao s n c) (ht : Touch w w' (Span l2 h2)) (hd : hi ≤ l2 ∨ h2 ≤ lo) : In lo hi w' ao s n c :=
  ⟨h.fresh.touch ht (fun a e hs => by have h1 := (h.fresh.base a e).1; have h3 := h.top a e; have h4 := hs.1; have h5 := hs.2; omega), h.top⟩
theorem In.blk {lo hi : Nat} {w : World} {ao : Option Addr} {s n : Nat} {c : Nat → Nat → Value} (h : In lo hi w ao s n c) : ∀ k, blk ao = some k → lo ≤ k ∧ k < hi := fun k e => by
  cases hao : ao with
  | none => rw [hao] at e; cases e
  | some a =>
    rw [hao] at e
    injection e with e
    subst e
    exact ⟨(h.fresh.base a hao).1, h.top a hao⟩
theorem In.wide {lo hi l2 h2 : Nat} {w : World} {ao : Option Addr} {s n : Nat} {c : Nat → Nat → Value} (h : In lo hi w ao s n c) (h1 : l2 ≤ lo) (h3 : hi ≤ h2) : In l2 h2 w ao s n c := ⟨h.fresh.mono h1, fun a e => Nat.lt_of_lt_of_le (h.top a e) h3⟩

/-- The cells of a block. -/
def BoxL (w : World) (B : Nat) (vs : List Value) : Prop := B < w.heap.size ∧ ∀ j v, vs[j]? = some v → w.cell? ⟨B, j, none⟩ = some v
theorem BoxL.ext {w w' : World} {B : Nat} {vs : List Value} (h : BoxL w B vs) (hx : Ext w w') : BoxL w' B vs := ⟨Nat.lt_of_lt_of_le h.1 hx.size, fun j v e => hx.cells (h.2 j v e)⟩
theorem BoxL.of {w w' : World} {cs : Array Value} {T : TypeId} (hx : Ext (w.alloc (.cells cs T)) w') : BoxL w' w.heap.size cs.toList :=
  ⟨Nat.lt_of_lt_of_le (by simp) hx.size, fun j v e => hx.cells (by rw [World.cell?_alloc_new]; simpa using e)⟩
theorem BoxL.touch {l2 h2 : Nat} {w w' : World} {B : Nat} {vs : List Value} (h : BoxL w B vs) (ht : Touch w w' (Span l2 h2)) (hd : B < l2 ∨ h2 ≤ B) : BoxL w' B vs :=
  ⟨Nat.lt_of_lt_of_le h.1 ht.size, fun j v e => (ht.cell h.1 (fun hs => by have h4 := hs.1; have h5 := hs.2; omega)).trans (h.2 j v e)⟩

end Go.Proofs.YtckgjpaccgpdpaaGreatDoor
