/-
  Proved here: the cursor's codes12.
  Conditions: the cursor lies in one block; counts are small.
-/
import Derived.Test.YtkejhhflpnfepaaCur1
import Derived.Test.YtkejhhflpnfepaaForm
namespace Go.Proofs.Ytkejhhflpnfepaa
open Go.RowKit

theorem Touch.grown {w w' : World} {B : Nat} (h : Touch w w' (Span B (B + 1))) : w.grownBy w' (some B) :=
  ⟨h.os, h.tape, h.output, h.size, fun k hk hne => h.block k hk (fun hs => hne (by have h1 := hs.1; have h2 := hs.2; obtain rfl : k = B := (by omega); rfl))⟩
theorem Touch.below {a b c : World} {S : Nat → Prop} (h : Touch a b S) (hb : Below a.heap.size b c) : Touch a c S :=
  ⟨hb.os.trans h.os, hb.tape.trans h.tape, hb.output.trans h.output, Nat.le_trans h.size hb.size, fun k hk hn => (hb.block k hk).trans (h.block k hk hn)⟩
theorem Owns.cur {α : Type} {w w' : World} {base B : Nat} {e : TypeId} {s : Nat} {cc : α → Nat → Value} {v : Value} {xs : List α} (h : Owns w base e s cc v xs) (ht : Touch w w' (Span B (B + 1))) (hB : B < base) : Owns w' base e s cc v xs := by
  have h0 : w.ownsRow base e s v xs.length (fl s cc xs) := h
  refine h0.kept ht.grown ?_
  cases e : v.ownBlock with
  | none => exact .inl rfl
  | some k =>
    have := (h0.lt k e).1
    refine .inr ?_
    intro e2
    injection e2 with e2
    omega
theorem Cu.keep {w w' : World} {B n : Nat} (h : Cu w B n) (hs : w.heap.size ≤ w'.heap.size) (hb : ∀ k, k ≤ B → w'.heap[k]? = w.heap[k]?) : Cu w' B n := by
  obtain ⟨co, m, cc, bs, h1, h2, h3, h4, h5⟩ := h
  have hc : ∀ j, w'.cell? ⟨B, j, none⟩ = w.cell? ⟨B, j, none⟩ := fun j => World.cell?_of_block (a := ⟨B, j, none⟩) (hb B (Nat.le_refl _))
  refine ⟨co, m, cc, bs, ⟨Nat.lt_of_lt_of_le h1.lt hs, (hc 0).trans h1.code, ?_, ?_, fun j => (World.frozen?_of_block (a := ⟨B, j, none⟩) (hb B (Nat.le_refl _))).trans (h1.free j)⟩, fun hm => ?_, h3, h4, h5⟩
  · obtain ⟨a, ha, e⟩ := h1.pos
    exact ⟨a, ha, (hc 1).trans e⟩
  · obtain ⟨s, hs, e⟩ := h1.seed
    exact ⟨s, hs, (hc 2).trans e⟩
  · obtain ⟨b', off, e, H⟩ := h2 hm
    have hlt : b' < B := h3 hm _ e
    exact ⟨b', off, e, fun k hk j hj => (World.cell?_of_block (a := ⟨b', _, none⟩) (hb b' (Nat.le_of_lt hlt))).trans (H k hk j hj)⟩
theorem Cu.below {w w' : World} {B n base : Nat} (h : Cu w B n) (hb : Below base w w') (hB : B < base) : Cu w' B n := h.keep hb.size (fun k hk => hb.block k (by omega))
theorem lit_ints {w : World} {cs : Array Value} {T : TypeId} (vs : List Int) (h : cs.toList = vs.map (Value.int .i64)) : RowAt (w.alloc (.cells cs T)) (some ⟨w.heap.size, 0, none⟩) 1 vs.length (ic vs) := fun _ => ⟨w.heap.size, 0, rfl, fun k hk j hj => by
  obtain rfl : j = 0 := by omega
  rw [World.cell?_alloc_new]
  have e : cs[k]? = some (.int .i64 (nth vs k)) := by
    rw [← Array.getElem?_toList, h, List.getElem?_map]
    simp [nth, hk]
  simpa [ic] using e⟩
def slLen : Value → Nat | .slice _ n _ => n | _ => 0

end Go.Proofs.Ytkejhhflpnfepaa
