/-
  Proved here (plain lists): swapping two neighbours, and insertion sort's invariants; a row of one-cell elements being sorted in place.
  Conditions: those in each statement.
-/
import Derived.Test.YtkejhhflpnfepaaMark
import Derived.Test.YtkejhhflpnfepaaTouch
namespace Go.Proofs.Ytkejhhflpnfepaa
open Go.RowKit

section
variable {α : Type} [Inhabited α]
/-- elements j - 1 and j change places -/
def swapN (d : List α) (j : Nat) : List α := d.take (j - 1) ++ nth d j :: nth d (j - 1) :: d.drop (j + 1)
theorem nth_app_lt {A B : List α} {k : Nat} (h : k < A.length) : nth (A ++ B) k = nth A k := by simp only [nth, List.getD]; rw [List.getElem?_append_left h]
theorem nth_app_ge {A B : List α} {k : Nat} (h : A.length ≤ k) : nth (A ++ B) k = nth B (k - A.length) := by simp only [nth, List.getD]; rw [List.getElem?_append_right h]
theorem nth_take {d : List α} {k n : Nat} (h : k < n) : nth (d.take n) k = nth d k := by simp only [nth, List.getD]; rw [List.getElem?_take_of_lt h]
theorem nth_drop {d : List α} {k n : Nat} : nth (d.drop n) k = nth d (n + k) := by simp only [nth, List.getD]; rw [List.getElem?_drop]
theorem swapN_nth {d : List α} {j : Nat} (hj : 0 < j) (hl : j < d.length) (k : Nat) : nth (swapN d j) k = if k = j then nth d (j - 1) else if k = j - 1 then nth d j else nth d k := by
  have ht : (d.take (j - 1)).length = j - 1 := by simp; omega
  unfold swapN
  by_cases h1 : k < j - 1
  · rw [nth_app_lt (by omega), nth_take h1, if_neg (by omega), if_neg (by omega)]
  · rw [nth_app_ge (by omega), ht]
    by_cases h2 : k = j - 1
    · subst h2; rw [if_neg (by omega), if_pos rfl, Nat.sub_self]; rfl
    · by_cases h3 : k = j
      · subst h3; rw [if_pos rfl, show k - (k - 1) = 1 by omega]; rfl
      · rw [if_neg h3, if_neg h2]
        obtain ⟨q, hq⟩ : ∃ q, k - (j - 1) = q + 2 := ⟨k - (j - 1) - 2, by omega⟩
        rw [hq]
        show nth (d.drop (j + 1)) q = _
        rw [nth_drop, show j + 1 + q = k by omega]
theorem swapN_len {d : List α} {j : Nat} (hj : 0 < j) (hl : j < d.length) : (swapN d j).length = d.length := by unfold swapN; simp; omega
theorem swapN_perm {d : List α} {j : Nat} (hj : 0 < j) (hl : j < d.length) : (swapN d j).Perm d := by
  have e : d = d.take (j - 1) ++ nth d (j - 1) :: nth d j :: d.drop (j + 1) := by
    have h1 := (List.take_append_drop (j - 1) d).symm
    have h2 : d.drop (j - 1) = nth d (j - 1) :: d.drop j := by
      rw [List.drop_eq_getElem_cons (by omega)]
      rw [show j - 1 + 1 = j by omega]
      simp [nth, show j - 1 < d.length by omega]
    have h3 : d.drop j = nth d j :: d.drop (j + 1) := by
      rw [List.drop_eq_getElem_cons hl]; simp [nth, hl]
    rw [h2, h3] at h1
    exact h1
  conv => rhs; rw [e]
  unfold swapN
  exact List.Perm.append_left _ (List.Perm.swap _ _ _)

/-- the first i are in order -/
def SortedTo (co : α → α → Int) (d : List α) (i : Nat) : Prop := ∀ p q, p < q → q < i → ¬ co (nth d q) (nth d p) < 0
/-- the first i + 1 are in order but for element j as the right one of a pair -/
def NearTo (co : α → α → Int) (d : List α) (i j : Nat) : Prop := ∀ p q, p < q → q ≤ i → q ≠ j → ¬ co (nth d q) (nth d p) < 0
theorem SortedTo.near {co : α → α → Int} {d : List α} {i : Nat} (h : SortedTo co d i) : NearTo co d i i := fun p q h1 h2 h3 => h p q h1 (by omega)
theorem NearTo.swap {co : α → α → Int} {d : List α} {i j : Nat} (h : NearTo co d i j) (hj : 0 < j) (hji : j ≤ i) (hl : i < d.length) (hI : co (nth d j) (nth d (j - 1)) < 0 → ¬ co (nth d (j - 1)) (nth d j) < 0) (hlt : co (nth d j) (nth d (j - 1)) < 0) : NearTo co (swapN d j) i (j - 1) := by
  intro p q hpq hqi hqj
  have hn := fun k => swapN_nth (d := d) hj (by omega : j < d.length) k
  by_cases h1 : q = j
  · subst h1
    rw [hn q, if_pos rfl]
    by_cases h2 : p = q - 1
    · subst h2
      rw [hn, if_neg (by omega), if_pos rfl]
      exact hI hlt
    · rw [hn, if_neg (by omega), if_neg h2]
      exact h p (q - 1) (by omega) (by omega) (by omega)
  · rw [hn q, if_neg h1, if_neg hqj]
    by_cases h2 : p = j
    · subst h2
      rw [hn, if_pos rfl]
      exact h (p - 1) q (by omega) hqi h1
    · by_cases h3 : p = j - 1
      · subst h3
        rw [hn, if_neg h2, if_pos rfl]
        exact h j q (by omega) hqi h1
      · rw [hn, if_neg h2, if_neg h3]
        exact h p q hpq hqi h1
theorem NearTo.done {co : α → α → Int} {d : List α} {i j : Nat} (h : NearTo co d i j) (_hji : j ≤ i) (hT : ∀ p, p < j - 1 → ¬ co (nth d (j - 1)) (nth d p) < 0 → ¬ co (nth d j) (nth d (j - 1)) < 0 → ¬ co (nth d j) (nth d p) < 0) (hend : j = 0 ∨ ¬ co (nth d j) (nth d (j - 1)) < 0) : SortedTo co d (i + 1) := by
  intro p q hpq hqi
  by_cases h1 : q = j
  · subst h1
    rcases hend with h0 | h0
    · omega
    · by_cases h2 : p = q - 1
      · subst h2; exact h0
      · exact hT p (by omega) (h p (q - 1) (by omega) (by omega) (by omega)) h0
  · exact h p q hpq (by omega) h1
end

/-- A block's first n cells hold one-cell elements; of what was there no other block has changed. -/
structure HoldsA {α : Type} [Inhabited α] (w0 wr : World) (g n : Nat) (cc : α → Value) (d : List α) : Prop where
  grown : w0.grownBy wr (some g)
  size : g < wr.heap.size
  cell : ∀ k, k < n → wr.cell? ⟨g, k, none⟩ = some (cc (nth d k))
  free : ∀ j, wr.frozen? ⟨g, j, none⟩ = false
theorem HoldsA.ext {α : Type} [Inhabited α] {w0 wr w' : World} {g n : Nat} {cc : α → Value} {d : List α} (h : HoldsA w0 wr g n cc d) (hx : Ext wr w') : HoldsA w0 w' g n cc d where
  grown := ⟨hx.os.trans h.grown.os, hx.tape.trans h.grown.tape, hx.output.trans h.grown.output, Nat.le_trans h.grown.size hx.size, fun k hk hne => (hx.block k (Nat.lt_of_lt_of_le hk h.grown.size)).trans (h.grown.block k hk hne)⟩
  size := Nat.lt_of_lt_of_le h.size hx.size
  cell := fun k hk => hx.cells (h.cell k hk)
  free := fun j => (hx.frozenr _ _ h.size).trans (h.free j)
theorem HoldsA.set {α : Type} [Inhabited α] {w0 wr : World} {g n j : Nat} {cc : α → Value} {d d' : List α} (h : HoldsA w0 wr g n cc d) (_hj : j < n) (x : Value) (hx : x = cc (nth d' j)) (hd : ∀ k, k < n → k ≠ j → cc (nth d' k) = cc (nth d k)) : HoldsA w0 (wr.setCell ⟨g, j, none⟩ x) g n cc d' where
  grown := ⟨h.grown.os, h.grown.tape, h.grown.output, by simpa [World.setCell] using h.grown.size, fun k hk hne => (Below.heap_setCell _ _ _ _ (fun e => hne (by rw [e]))).trans (h.grown.block k hk hne)⟩
  size := by simpa [World.setCell] using h.size
  cell := fun k hk => by
    by_cases e : j = k
    · subst e; rw [← hx]; exact World.cell?_setCell_same _ _ _ (h.cell j hk)
    · exact (World.cell?_setCell_other _ _ _ _ (fun e' => e (by injection e'))).trans ((h.cell k hk).trans (by rw [hd k hk (fun q => e q.symm)]))
  free := fun j => by rw [World.frozen?_setCell]; exact h.free j
/-- the two stores of a swap, in either order -/
theorem HoldsA.swap {α : Type} [Inhabited α] {w0 wr : World} {g n j : Nat} {cc : α → Value} {d : List α} (h : HoldsA w0 wr g n cc d) (hj : 0 < j) (hjn : j < n) (hn : n = d.length) : HoldsA w0 ((wr.setCell ⟨g, j, none⟩ (cc (nth d (j - 1)))).setCell ⟨g, j - 1, none⟩ (cc (nth d j))) g n cc (swapN d j) ∧ HoldsA w0 ((wr.setCell ⟨g, j - 1, none⟩ (cc (nth d j))).setCell ⟨g, j, none⟩ (cc (nth d (j - 1)))) g n cc (swapN d j) := by
  have hN := fun k => swapN_nth (d := d) hj (by omega : j < d.length) k
  have c1 : ∀ k, (wr.setCell ⟨g, j, none⟩ (cc (nth d (j - 1)))).cell? ⟨g, k, none⟩ = if k = j then some (cc (nth d (j - 1))) else wr.cell? ⟨g, k, none⟩ := fun k => by
    by_cases e : k = j
    · subst e; rw [if_pos rfl]; exact World.cell?_setCell_same _ _ _ (h.cell k hjn)
    · rw [if_neg e]; exact World.cell?_setCell_other _ _ _ _ (fun e' => e (by injection e' with _ e2; exact e2.symm))
  have c2 : ∀ k, (wr.setCell ⟨g, j - 1, none⟩ (cc (nth d j))).cell? ⟨g, k, none⟩ = if k = j - 1 then some (cc (nth d j)) else wr.cell? ⟨g, k, none⟩ := fun k => by
    by_cases e : k = j - 1
    · subst e; rw [if_pos rfl]; exact World.cell?_setCell_same _ _ _ (h.cell _ (by omega))
    · rw [if_neg e]; exact World.cell?_setCell_other _ _ _ _ (fun e' => e (by injection e' with _ e2; exact e2.symm))
  have gr : ∀ (x : World) (o : Nat) (u : Value), w0.grownBy x (some g) → w0.grownBy (x.setCell ⟨g, o, none⟩ u) (some g) := fun x o u hg => ⟨hg.os, hg.tape, hg.output, by simpa [World.setCell] using hg.size, fun k hk hne => (Below.heap_setCell _ _ _ _ (fun e => hne (by rw [e]))).trans (hg.block k hk hne)⟩
  constructor
  · refine ⟨gr _ _ _ (gr _ _ _ h.grown), by simpa [World.setCell] using h.size, fun k hk => ?_, fun q => by rw [World.frozen?_setCell, World.frozen?_setCell]; exact h.free q⟩
    rw [hN k]
    by_cases e : k = j - 1
    · subst e
      rw [if_neg (by omega), if_pos rfl]
      exact World.cell?_setCell_same _ _ _ (show _ = some (cc (nth d (j - 1))) by rw [c1, if_neg (by omega)]; exact h.cell _ hk)
    · rw [World.cell?_setCell_other _ _ _ _ (fun e' => e (by injection e' with _ e2; exact e2.symm)), c1]
      by_cases e2 : k = j
      · rw [if_pos e2, if_pos e2]
      · rw [if_neg e2, if_neg e2, if_neg e]; exact h.cell k hk
  · refine ⟨gr _ _ _ (gr _ _ _ h.grown), by simpa [World.setCell] using h.size, fun k hk => ?_, fun q => by rw [World.frozen?_setCell, World.frozen?_setCell]; exact h.free q⟩
    rw [hN k]
    by_cases e : k = j
    · subst e
      rw [if_pos rfl]
      exact World.cell?_setCell_same _ _ _ (show _ = some (cc (nth d k)) by rw [c2, if_neg (by omega)]; exact h.cell _ hk)
    · rw [World.cell?_setCell_other _ _ _ _ (fun e' => e (by injection e' with _ e2; exact e2.symm)), c2, if_neg e]
      by_cases e2 : k = j - 1
      · rw [if_pos e2, if_pos e2]
      · rw [if_neg e2, if_neg e2]; exact h.cell k hk

end Go.Proofs.Ytkejhhflpnfepaa
