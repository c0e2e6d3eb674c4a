/-
  Proved here (plain lists): inserting by a key from behind; a row's cells as a function.
  Conditions: those in each statement.
-/
import Derived.Test.YtlpogglcbphilaaSortP
import Derived.Test.YtlpogglcbphilaaDel
namespace Go.Proofs.Ytlpogglcbphilaa
open Go.RowKit

def cmpJ (a b : Int) : Int := if a < b then -1 else if b < a then 1 else 0
theorem cmpJ_neg {a b : Int} : cmpJ a b < 0 ↔ a < b := by unfold cmpJ; split <;> (try split) <;> omega

theorem rev_ind {α : Type} {p : List α → Prop} (L : List α) (h0 : p []) (h1 : ∀ L x, p L → p (L ++ [x])) : p L := by
  have : ∀ n (L : List α), L.length = n → p L := by
    intro n
    induction n with
    | zero => intro L hL; rw [List.eq_nil_of_length_eq_zero hL]; exact h0
    | succ n ih =>
      intro L hL
      have hne : L ≠ [] := fun e => by subst e; simp at hL
      rw [← List.dropLast_concat_getLast hne]
      exact h1 _ _ (ih _ (by simp [hL]))
  exact this _ L rfl

/-- x on its way: it stands at place j -/
def stJ {α : Type} (A : List α) (x : α) (R : List α) (j : Nat) : List α := A.take j ++ x :: (A.drop j ++ R)
theorem stJ_len {α : Type} (A : List α) (x : α) (R : List α) {j : Nat} (hj : j ≤ A.length) : (stJ A x R j).length = A.length + 1 + R.length := by simp [stJ]; omega
theorem stJ_start {α : Type} (A : List α) (x : α) (R : List α) : stJ A x R A.length = A ++ x :: R := by simp [stJ]

section
variable {α : Type} [Inhabited α] (K : α → Int)
/-- where x comes to stand among the first n, from behind -/
def posR (A : List α) (x : α) : Nat → Nat
  | 0 => 0
  | n + 1 => if K x < K (nth A n) then posR A x n else n + 1
def insP (A : List α) (x : α) : List α := A.take (posR K A x A.length) ++ x :: A.drop (posR K A x A.length)
theorem posR_le (A : List α) (x : α) (n : Nat) : posR K A x n ≤ n := by
  induction n with
  | zero => exact Nat.le_refl _
  | succ n ih => rw [posR]; split <;> omega
theorem insP_len (A : List α) (x : α) : (insP K A x).length = A.length + 1 := by
  have := posR_le K A x A.length
  simp [insP]; omega
theorem insP_mem {A : List α} {x y : α} (h : y ∈ insP K A x) : y ∈ A ∨ y = x := by
  simp only [insP, List.mem_append, List.mem_cons] at h
  rcases h with h | h | h
  · exact .inl (List.mem_of_mem_take h)
  · exact .inr h
  · exact .inl (List.mem_of_mem_drop h)
/-- all put in, one behind the other -/
def insF (L : List α) : List α := L.foldl (insP K) []
theorem insF_snoc (L : List α) (x : α) : insF K (L ++ [x]) = insP K (insF K L) x := by simp [insF, List.foldl_append]
theorem insF_mem {y : α} : ∀ {L : List α}, y ∈ insF K L → y ∈ L := by
  intro L
  refine rev_ind (p := fun L => y ∈ insF K L → y ∈ L) L (fun h => by simp [insF] at h) fun L x ih h => ?_
  rw [insF_snoc] at h
  rw [List.mem_append, List.mem_singleton]
  rcases insP_mem K h with h1 | h1
  · exact .inl (ih h1)
  · exact .inr h1
theorem insF_len (L : List α) : (insF K L).length = L.length := by
  refine rev_ind (p := fun L => (insF K L).length = L.length) L rfl fun L x ih => ?_
  rw [insF_snoc, insP_len, ih]; simp
theorem stJ_at (A : List α) (x : α) (R : List α) {j : Nat} (hj : j ≤ A.length) : nth (stJ A x R j) j = x := by
  unfold stJ
  rw [nth_app_ge (by simp; omega), List.length_take, Nat.min_eq_left hj, Nat.sub_self]
  rfl
theorem stJ_before (A : List α) (x : α) (R : List α) {i : Nat} (hi : i < A.length) : nth (stJ A x R (i + 1)) i = nth A i := by
  unfold stJ
  rw [nth_app_lt (by simp; omega), nth_take (by omega)]
theorem stJ_swap (A : List α) (x : α) (R : List α) {i : Nat} (hi : i < A.length) : swapN (stJ A x R (i + 1)) (i + 1) = stJ A x R i := by
  have h1 := stJ_at A x R (show i + 1 ≤ A.length from hi)
  have h2 := stJ_before A x R hi
  unfold swapN
  rw [Nat.add_sub_cancel, h1, h2]
  have e1 : (stJ A x R (i + 1)).take i = A.take i := by
    unfold stJ
    rw [List.take_append_of_le_length (by simp; omega), List.take_take, Nat.min_eq_left (by omega)]
  have e2 : (stJ A x R (i + 1)).drop (i + 1 + 1) = A.drop (i + 1) ++ R := by
    unfold stJ
    rw [List.drop_append, List.drop_eq_nil_of_le (by simp; omega), List.nil_append, List.length_take, Nat.min_eq_left (by omega), show i + 1 + 1 - (i + 1) = 1 by omega]
    rfl
  have e3 : A.drop i = nth A i :: A.drop (i + 1) := by
    rw [List.drop_eq_getElem_cons hi]
    simp [nth, hi]
  rw [e1, e2]
  unfold stJ
  rw [e3]
  rfl
theorem stJ_end (A : List α) (x : α) (R : List α) : stJ A x R (posR K A x A.length) = insP K A x ++ R := by simp [stJ, insP]
end
theorem posR_map {α β : Type} [Inhabited α] [Inhabited β] (f : α → β) (K : α → Int) (K' : β → Int) (hK : ∀ a, K' (f a) = K a) (A : List α) (x : α) {n : Nat} (hn : n ≤ A.length) : posR K' (A.map f) (f x) n = posR K A x n := by
  induction n with
  | zero => rfl
  | succ n ih =>
    rw [posR, posR, ih (by omega), hK]
    have : nth (A.map f) n = f (nth A n) := by simp [nth, show n < A.length by omega]
    rw [this, hK]
theorem insP_map {α β : Type} [Inhabited α] [Inhabited β] (f : α → β) (K : α → Int) (K' : β → Int) (hK : ∀ a, K' (f a) = K a) (A : List α) (x : α) : (insP K A x).map f = insP K' (A.map f) (f x) := by
  unfold insP
  rw [List.length_map, posR_map f K K' hK A x (Nat.le_refl _)]
  simp [List.map_take, List.map_drop]
theorem insF_map {α β : Type} [Inhabited α] [Inhabited β] (f : α → β) (K : α → Int) (K' : β → Int) (hK : ∀ a, K' (f a) = K a) (L : List α) : (insF K L).map f = insF K' (L.map f) := by
  refine rev_ind (p := fun L => (insF K L).map f = insF K' (L.map f)) L rfl fun L x ih => ?_
  rw [insF_snoc, insP_map f K K' hK, ih, List.map_append]; exact (insF_snoc K' _ _).symm

/-- A block's first N cells hold what a function tells; of what was there no other block has changed. -/
structure HoldsF (w0 wr : World) (g N : Nat) (c : Nat → Value) : Prop where
  grown : w0.grownBy wr (some g)
  size : g < wr.heap.size
  cell : ∀ q, q < N → wr.cell? ⟨g, q, none⟩ = some (c q)
  free : ∀ j, wr.frozen? ⟨g, j, none⟩ = false
theorem HoldsF.ext {w0 wr w' : World} {g N : Nat} {c : Nat → Value} (h : HoldsF w0 wr g N c) (hx : Ext wr w') : HoldsF w0 w' g N c where
  grown := ⟨hx.os.trans h.grown.os, hx.tape.trans h.grown.tape, hx.output.trans h.grown.output, Nat.le_trans h.grown.size hx.size, fun k hk hne => (hx.block k (Nat.lt_of_lt_of_le hk h.grown.size)).trans (h.grown.block k hk hne)⟩
  size := Nat.lt_of_lt_of_le h.size hx.size
  cell := fun k hk => hx.cells (h.cell k hk)
  free := fun j => (hx.frozenr _ _ h.size).trans (h.free j)
theorem HoldsF.set {w0 wr : World} {g N q : Nat} {c : Nat → Value} (h : HoldsF w0 wr g N c) (hq : q < N) (u : Value) : HoldsF w0 (wr.setCell ⟨g, q, none⟩ u) g N (fun p => if p = q then u else c p) where
  grown := ⟨h.grown.os, h.grown.tape, h.grown.output, by simpa [World.setCell] using h.grown.size, fun k hk hne => (Below.heap_setCell _ _ _ _ (fun e => hne (by rw [e]))).trans (h.grown.block k hk hne)⟩
  size := by simpa [World.setCell] using h.size
  cell := fun k hk => by
    by_cases e : k = q
    · subst e; simp only [if_true]; exact World.cell?_setCell_same _ _ _ (h.cell k hk)
    · simp only [if_neg e]; exact (World.cell?_setCell_other _ _ _ _ (fun e' => e (by injection e' with _ e2; exact e2.symm))).trans (h.cell k hk)
  free := fun j => by rw [World.frozen?_setCell]; exact h.free j
theorem HoldsF.congr {w0 wr : World} {g N : Nat} {c c' : Nat → Value} (h : HoldsF w0 wr g N c) (hc : ∀ q, q < N → c q = c' q) : HoldsF w0 wr g N c' := ⟨h.grown, h.size, fun q hq => by rw [← hc q hq]; exact h.cell q hq, h.free⟩
/-- the stores of a swap of two elements of two cells, in either order -/
theorem HoldsF.swap {α : Type} [Inhabited α] {w0 wr : World} {g n i : Nat} {cc : α → Nat → Value} {d : List α} (h : HoldsF w0 wr g (n * 2) (fc 2 cc d)) (hi : i + 1 < n) (hn : n = d.length) :
    HoldsF w0 ((((wr.setCell ⟨g, (i + 1) * 2, none⟩ (cc (nth d i) 0)).setCell ⟨g, (i + 1) * 2 + 1, none⟩ (cc (nth d i) 1)).setCell ⟨g, i * 2, none⟩ (cc (nth d (i + 1)) 0)).setCell ⟨g, i * 2 + 1, none⟩ (cc (nth d (i + 1)) 1)) g (n * 2) (fc 2 cc (swapN d (i + 1))) ∧
    HoldsF w0 ((((wr.setCell ⟨g, i * 2, none⟩ (cc (nth d (i + 1)) 0)).setCell ⟨g, i * 2 + 1, none⟩ (cc (nth d (i + 1)) 1)).setCell ⟨g, (i + 1) * 2, none⟩ (cc (nth d i) 0)).setCell ⟨g, (i + 1) * 2 + 1, none⟩ (cc (nth d i) 1)) g (n * 2) (fc 2 cc (swapN d (i + 1))) := by
  have hN := fun k => swapN_nth (d := d) (j := i + 1) (by omega) (by omega) k
  have hc : ∀ q, q < n * 2 → fc 2 cc (swapN d (i + 1)) q = if q = (i + 1) * 2 then cc (nth d i) 0 else if q = (i + 1) * 2 + 1 then cc (nth d i) 1 else if q = i * 2 then cc (nth d (i + 1)) 0 else if q = i * 2 + 1 then cc (nth d (i + 1)) 1 else fc 2 cc d q := fun q hq => by
    unfold fc
    rw [hN]
    by_cases e1 : q / 2 = i + 1
    · rw [if_pos e1, Nat.add_sub_cancel]
      by_cases e2 : q = (i + 1) * 2
      · rw [if_pos e2, show q % 2 = 0 by omega]
      · rw [if_neg e2, if_pos (by omega), show q % 2 = 1 by omega]
    · rw [if_neg e1, Nat.add_sub_cancel]
      have n1 : ¬ q = (i + 1) * 2 := by omega
      have n2 : ¬ q = (i + 1) * 2 + 1 := by omega
      by_cases e3 : q / 2 = i
      · rw [if_pos e3, if_neg n1, if_neg n2]
        by_cases e2 : q = i * 2
        · rw [if_pos e2, show q % 2 = 0 by omega]
        · rw [if_neg e2, if_pos (by omega), show q % 2 = 1 by omega]
      · have n3 : ¬ q = i * 2 := by omega
        have n4 : ¬ q = i * 2 + 1 := by omega
        rw [if_neg e3, if_neg n1, if_neg n2, if_neg n3, if_neg n4]
  constructor
  · refine ((((h.set (q := (i + 1) * 2) (by omega) _).set (q := (i + 1) * 2 + 1) (by omega) _).set (q := i * 2) (by omega) _).set (q := i * 2 + 1) (by omega) _).congr fun q hq => ?_
    rw [hc q hq]
    by_cases e1 : q = (i + 1) * 2
    · simp only [e1, if_true]; rw [if_neg (by omega), if_neg (by omega), if_neg (by omega)]
    · by_cases e2 : q = (i + 1) * 2 + 1
      · simp only [e2, if_true]; rw [if_neg (by omega), if_neg (by omega), if_neg (by omega)]
      · by_cases e3 : q = i * 2
        · simp only [e3, if_true]; rw [if_neg (by omega), if_neg (by omega), if_neg (by omega)]
        · simp only [if_neg e1, if_neg e2, if_neg e3]
  · refine ((((h.set (q := i * 2) (by omega) _).set (q := i * 2 + 1) (by omega) _).set (q := (i + 1) * 2) (by omega) _).set (q := (i + 1) * 2 + 1) (by omega) _).congr fun q hq => ?_
    rw [hc q hq]
    by_cases e1 : q = (i + 1) * 2
    · simp only [e1, if_true]; rw [if_neg (by omega)]
    · by_cases e2 : q = (i + 1) * 2 + 1
      · simp only [e2, if_true]; rw [if_neg (by omega)]
      · simp only [if_neg e1, if_neg e2]
        by_cases e3 : q = i * 2
        · simp only [e3, if_true]; rw [if_neg (by omega)]
        · simp only [if_neg e3]

end Go.Proofs.Ytlpogglcbphilaa
