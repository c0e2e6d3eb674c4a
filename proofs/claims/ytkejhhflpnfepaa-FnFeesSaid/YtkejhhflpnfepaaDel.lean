/-
  Proved here: a row of the call's own out of which elements are struck in place (slices.DeleteFunc): how it stands meanwhile; what clear does to it.
  Conditions: none beyond those in each statement.
-/
import Derived.Test.YtkejhhflpnfepaaOwn
import Derived.Test.YtkejhhflpnfepaaMark
import Derived.Test.YtkejhhflpnfepaaIdx
import Derived.Lib.SliceRun
namespace Go.Proofs.Ytkejhhflpnfepaa
open Go.RowKit

theorem grown_trans {a b c : World} {row : Option Nat} (h : a.grownBy b row) (k : b.grownBy c row) : a.grownBy c row :=
  ⟨k.os.trans h.os, k.tape.trans h.tape, k.output.trans h.output, Nat.le_trans h.size k.size, fun i hi hne => (k.block i (Nat.lt_of_lt_of_le hi h.size) hne).trans (h.block i hi hne)⟩
theorem grown_of_ext {a b : World} {row : Option Nat} (h : Ext a b) : a.grownBy b row := ⟨h.os, h.tape, h.output, h.size, fun k hk _ => h.block k hk⟩
theorem grown_setCell {a b : World} {g q : Nat} {u : Value} (h : a.grownBy b (some g)) : a.grownBy (b.setCell ⟨g, q, none⟩ u) (some g) :=
  ⟨h.os, h.tape, h.output, by simpa [World.setCell] using h.size, fun k hk hne => (Below.heap_setCell _ _ _ _ (fun e => hne (by rw [e]))).trans (h.block k hk hne)⟩

/-- Block g holds c up to m, and d from J on, of N cells. -/
structure DW (w wr : World) (g N m J : Nat) (c d : Nat → Value) : Prop where
  grown : w.grownBy wr (some g)
  size : g < wr.heap.size
  lo : ∀ q, q < m → wr.cell? ⟨g, q, none⟩ = some (c q)
  hi : ∀ q, J ≤ q → q < N → wr.cell? ⟨g, q, none⟩ = some (d q)
  all : ∀ q, q < N → ∃ u, wr.cell? ⟨g, q, none⟩ = some u
  free : ∀ q, wr.frozen? ⟨g, q, none⟩ = false

theorem DW.kept {w wr w' : World} {g N m J : Nat} {c d : Nat → Value} (h : DW w wr g N m J c d) (hx : Ext wr w') : DW w w' g N m J c d where
  grown := grown_trans h.grown (grown_of_ext hx)
  size := Nat.lt_of_lt_of_le h.size hx.size
  lo := fun q hq => hx.cells (h.lo q hq)
  hi := fun q h1 h2 => hx.cells (h.hi q h1 h2)
  all := fun q hq => let ⟨u, hu⟩ := h.all q hq; ⟨u, hx.cells hu⟩
  free := fun q => (hx.frozenr _ _ h.size).trans (h.free q)
theorem DW.skip {w wr : World} {g N m J J' : Nat} {c d : Nat → Value} (h : DW w wr g N m J c d) (hJ : J ≤ J') : DW w wr g N m J' c d :=
  ⟨h.grown, h.size, h.lo, fun q h1 h2 => h.hi q (by omega) h2, h.all, h.free⟩
theorem DW.put {w wr : World} {g N m J : Nat} {c d : Nat → Value} (h : DW w wr g N m J c d) (hm : m < J) (hJ : J ≤ N) {u : Value} (hu : u = c m) : DW w (wr.setCell ⟨g, m, none⟩ u) g N (m + 1) J c d := by
  subst hu
  obtain ⟨u0, h0⟩ := h.all m (by omega)
  refine ⟨grown_setCell h.grown, by simpa [World.setCell] using h.size, fun q hq => ?_, fun q h1 h2 => ?_, fun q hq => ?_, fun q => by rw [World.frozen?_setCell]; exact h.free q⟩
  · by_cases e : m = q
    · subst e; exact World.cell?_setCell_same wr _ _ h0
    · exact (World.cell?_setCell_other _ _ _ _ (fun e' => e (by injection e'))).trans (h.lo q (by omega))
  · exact (World.cell?_setCell_other _ _ _ _ (fun e' => by injection e' with _ e2; omega)).trans (h.hi q h1 h2)
  · by_cases e : m = q
    · subst e; exact ⟨_, World.cell?_setCell_same wr _ _ h0⟩
    · obtain ⟨v, hv⟩ := h.all q hq
      exact ⟨v, (World.cell?_setCell_other _ _ _ _ (fun e' => e (by injection e'))).trans hv⟩

section
variable {α : Type} [Inhabited α]
/-- how many of the first n are kept -/
def cntU (p : α → Bool) (xs : List α) : Nat → Nat
  | 0 => 0
  | k + 1 => cntU p xs k + if p (nth xs k) then 0 else 1
/-- what is kept -/
def keptL (p : α → Bool) (xs : List α) : List α := xs.filter fun x => !p x
theorem cntU_yes {p : α → Bool} {xs : List α} {k : Nat} (h : p (nth xs k) = true) : cntU p xs (k + 1) = cntU p xs k := by simp [cntU, h]
theorem cntU_no {p : α → Bool} {xs : List α} {k : Nat} (h : p (nth xs k) = false) : cntU p xs (k + 1) = cntU p xs k + 1 := by simp [cntU, h]
theorem take_succ_nth {xs : List α} {k : Nat} (h : k < xs.length) : xs.take (k + 1) = xs.take k ++ [nth xs k] := by
  rw [List.take_succ_eq_append_getElem h]; simp [nth, List.getD, h]
theorem cntU_take (p : α → Bool) (xs : List α) : ∀ k, k ≤ xs.length → cntU p xs k = ((xs.take k).filter fun x => !p x).length := by
  intro k
  induction k with
  | zero => intro _; simp [cntU]
  | succ k ih =>
    intro hk
    rw [take_succ_nth (by omega), List.filter_append, List.length_append, ← ih (by omega)]
    cases h : p (nth xs k)
    · simp [cntU, h]
    · simp [cntU, h]
theorem cntU_all (p : α → Bool) (xs : List α) : cntU p xs xs.length = (keptL p xs).length := by rw [cntU_take p xs _ (Nat.le_refl _), List.take_length]; rfl
theorem cntU_le (p : α → Bool) (xs : List α) (k : Nat) : cntU p xs k ≤ k := by
  induction k with
  | zero => simp [cntU]
  | succ k ih => rw [cntU]; split <;> omega
theorem cntU_mono (p : α → Bool) (xs : List α) {k n : Nat} (h : k ≤ n) : cntU p xs k ≤ cntU p xs n := by
  induction n with
  | zero => obtain rfl : k = 0 := by omega
            exact Nat.le_refl _
  | succ n ih =>
    by_cases e : k = n + 1
    · subst e; exact Nat.le_refl _
    · have := ih (by omega)
      rw [cntU]; split <;> omega
theorem kept_nth {p : α → Bool} {xs : List α} {k : Nat} (hk : k < xs.length) (h : p (nth xs k) = false) : nth (keptL p xs) (cntU p xs k) = nth xs k := by
  have e : xs = xs.take k ++ nth xs k :: xs.drop (k + 1) := by
    have h1 := List.take_append_drop k xs
    rw [List.drop_eq_getElem_cons hk] at h1
    rw [show nth xs k = xs[k] by simp [nth, List.getD, hk]]
    exact h1.symm
  have e2 : keptL p xs = (xs.take k).filter (fun x => !p x) ++ nth xs k :: (xs.drop (k + 1)).filter (fun x => !p x) := by
    unfold keptL
    conv => lhs; rw [e]
    rw [List.filter_append, List.filter_cons, h]
    rfl
  rw [e2, cntU_take p xs k (by omega)]
  simp only [nth, List.getD]
  rw [List.getElem?_append_right (Nat.le_refl _)]
  simp
theorem cntU_before {p : α → Bool} {xs : List α} {k : Nat} (h : ∀ j, j < k → p (nth xs j) = false) : cntU p xs k = k := by
  induction k with
  | zero => rfl
  | succ k ih => rw [cntU_no (h k (by omega)), ih fun j hj => h j (by omega)]
theorem kept_all {p : α → Bool} {xs : List α} (h : ∀ j, j < xs.length → p (nth xs j) = false) : keptL p xs = xs := by
  unfold keptL
  rw [List.filter_eq_self]
  intro a ha
  obtain ⟨k, hk, e⟩ := List.mem_iff_getElem.1 ha
  have := h k hk
  simp only [nth, List.getD, List.getElem?_eq_getElem hk, Option.getD_some, e] at this
  simp [this]

/-- the cells of a list by one number -/
def fc (s : Nat) (cc : α → Nat → Value) (xs : List α) : Nat → Value := fun q => cc (nth xs (q / s)) (q % s)
end

theorem Owns.form {α : Type} [Inhabited α] {w : World} {base : Nat} {e : TypeId} {s : Nat} {cc : α → Nat → Value} {v : Value} {xs : List α} (h : Owns w base e s cc v xs) : (v = .slice none 0 0 ∧ xs = []) ∨
    ∃ g cap, v = .slice (some ⟨g, 0, none⟩) xs.length cap ∧ xs.length ≤ cap ∧ cap ≤ 9223372036854775807 ∧ FreshAt base w (some ⟨g, 0, none⟩) s xs.length (fun k => cc (nth xs k)) := by
  obtain ⟨ao, cap, rfl, hF, h1, h2, h3⟩ := h.fresh
  have h0 : w.ownsRow base e s (.slice ao xs.length cap) xs.length (fl s cc xs) := h
  rcases h0.2 with ⟨he, hx⟩ | ⟨g, cap', cur, he, _, _, _, _, _, _⟩
  · injection he with e1 e2 e3
    subst e1 e3
    exact .inl ⟨by rw [e2], List.eq_nil_of_length_eq_zero e2⟩
  · injection he with e1 e2 e3
    subst e1
    unfold maxLen at h3
    exact .inr ⟨g, cap, rfl, h2, by omega, hF⟩

/-- what clear does to a stretch of a row -/
theorem run_clear_rows {P : Program} (w : World) (t ty e : TypeId) (ht : P.underlying t = some (.slice e)) (z : Value) (hz : ∀ w, (zeroValue e).run P w = .ok z w) (h1 : ∀ u ∈ z.cells.toList, u.oneCell' = true) (h0 : 0 < z.cells.size) (b o n c : Nat) (hn : 0 < n)
    (hc : ∀ j, j < n * z.cells.size → (w.cell? ⟨b, o + j, none⟩).isSome = true) (hf : ∀ j, w.frozen? ⟨b, j, none⟩ = false) :
    (Builtin.clear_ #[t] ty #[.slice (some ⟨b, o, none⟩) n c]).run P w = .ok (.tuple #[]) (w.setCells b o (Builtin.zeroCells z.cells n).toList) := by
  have hl : (Builtin.zeroCells z.cells n).toList.length = n * z.cells.size := by simp [Builtin.zeroCells]
  have hst := run_storeCells_cells (P := P) b o (Builtin.zeroCells z.cells n).toList 0 w (by intro j hj; rw [hl] at hj; simpa using hc j hj) (by intro j _; exact hf _) (by
    intro u hu
    simp only [Builtin.zeroCells, Array.toList_map, List.mem_map] at hu
    obtain ⟨i, _, rfl⟩ := hu
    have hi : i % z.cells.size < z.cells.size := Nat.mod_lt _ h0
    rw [getElem!_pos z.cells (i % z.cells.size) hi]
    exact h1 _ (by simp))
  simp only [Nat.add_zero] at hst
  obtain ⟨m, rfl⟩ : ∃ m, n = m + 1 := ⟨n - 1, by omega⟩
  simp [Builtin.clear_, run_underlying ht, hz, hst]
theorem DW.clear {w wr : World} {g N m J : Nat} {c d : Nat → Value} (h : DW w wr g N m J c d) (vs : List Value) : w.grownBy (wr.setCells g m vs) (some g) ∧ g < (wr.setCells g m vs).heap.size ∧ (∀ q, q < m → (wr.setCells g m vs).cell? ⟨g, q, none⟩ = some (c q)) ∧ ∀ q, (wr.setCells g m vs).frozen? ⟨g, q, none⟩ = false := by
  refine ⟨?_, ?_, fun q hq => ?_, fun q => ?_⟩
  · suffices H : ∀ (vs : List Value) (o : Nat) (x : World), w.grownBy x (some g) → w.grownBy (x.setCells g o vs) (some g) from H vs m wr h.grown
    intro vs
    induction vs with
    | nil => intro o x hx; exact hx
    | cons v vs ih => intro o x hx; exact ih (o + 1) _ (grown_setCell hx)
  · suffices H : ∀ (vs : List Value) (o : Nat) (x : World), g < x.heap.size → g < (x.setCells g o vs).heap.size from H vs m wr h.size
    intro vs
    induction vs with
    | nil => intro o x hx; exact hx
    | cons v vs ih => intro o x hx; exact ih (o + 1) _ (by simpa [World.setCell] using hx)
  · rw [World.cell?_setCells_out g vs m wr ⟨g, q, none⟩ (fun _ _ => .inl hq)]
    exact h.lo q hq
  · rw [World.frozen?_setCells]; exact h.free q

end Go.Proofs.Ytkejhhflpnfepaa
