/-
  Proved here: what copy does to rows of structs; a row known by its cells; a list with one element more.
  Conditions: none beyond those in each statement.
-/
import Derived.Test.YtkejhhflpnfepaaForm
import Derived.Laws.IdiomCopy
import Derived.Lib.AppendZerosOnto
import Derived.Deep.RegionLaw
namespace Go.Proofs.Ytkejhhflpnfepaa
open Go.RowKit

theorem run_copy_rows {P : Program} (w : World) (dT sT ty elem : TypeId) (i : TypeInfo) (s : Nat) (g o dLen dCap : Nat) (a : Addr) (sLen sCap : Nat) (cs : List Value)
    (hu : P.underlying dT = some (.slice elem)) (hi : P.info? elem = some i) (hsz : i.size = s) (m : Nat) (hm : m = Nat.min sLen dLen) (hn : cs.length = m * s)
    (hsrc : ∀ j v, cs[j]? = some v → w.cell? (a.add j) = some v) (hc : ∀ j, j < cs.length → (w.cell? ⟨g, o + j, none⟩).isSome = true) (hf : ∀ j, j < cs.length → w.frozen? ⟨g, o + j, none⟩ = false) (h1 : ∀ v ∈ cs, v.oneCell' = true) :
    (Builtin.copy_ #[dT, sT] ty #[.slice (some ⟨g, o, none⟩) dLen dCap, .slice (some a) sLen sCap]).run P w = .ok (goInt m) (w.setCells g o cs) := by
  have hl := run_loadCells_list (P := P) w a cs hsrc
  have hst := run_storeCells_cells (P := P) g o cs 0 w (by simpa using hc) (by simpa using hf) h1
  simp [Builtin.copy_, run_underlying hu, Builtin.lenOf, Builtin.firstCells, sizeOf, typeInfo, hi, hsz, ← hm, ← hn, hl, hst]

theorem wpList_copy_eq {P : Program} (w : World) {ops : Array Oper} {rest : List Oper} {o : Oper} {a : Act} {Q : Exit → Act → World → Prop} (hgd : o.guard = none) (d s : Operand) (t t' : TypeId)
    (ho : o.op = .call { callee := .builtin .copy, args := #[d, s], argTypes := #[t, t'] }) (v u : Value) (hd : a.eval d = v) (hs : a.eval s = u) {v' : Value} {w' : World}
    (hr : (Builtin.copy_ #[t, t'] o.type #[v, u]).run P w = .ok v' w') (h : wpList P ops Q rest (a.put o.dst v') w') : wpList P ops Q (o :: rest) a w :=
  wpList_plain hgd fun K hK => by
    unfold Oper.wp execOp
    simp only [ho, resolve, invoke, builtin, Sem.run_bind, Sem.run_pure, Result.andThen_ok, List.map_toArray, List.map_cons, List.map_nil, hd, hs, hr]
    exact hK _ _ h
theorem step_copy_eq {P : Program} {ops : Array Oper} {o : Oper} {a : Act} {w : World} {K : Act → World → Prop} {Q : Exit → Act → World → Prop} {E : Prop}
    (hg : o.guard = none) (d x : Operand) (dT sT : TypeId) (hop : o.op = Op.call { callee := Callee.builtin Builtin.copy, args := #[d, x], argTypes := #[dT, sT] })
    (v u : Value) (hd : a.eval d = v) (hx : a.eval x = u) {v' : Value} {w' : World} (hr : (Builtin.copy_ #[dT, sT] o.type #[v, u]).run P w = .ok v' w') (hK : K (a.put o.dst v') w') :
    if Region.wanted o (yielded ops a.tmps) = true then Oper.wp P o a w K Q else E := by
  have hw : Region.wanted o (yielded ops a.tmps) = true := by simp [Region.wanted, hg]
  rw [if_pos hw]
  unfold Oper.wp
  simp [execOp, hop, resolve, invoke, builtin, hd, hx, hr, Result.andThen]
  exact hK

theorem heap_setCells (g : Nat) {e : TypeId} {fr : Nat × Nat} : ∀ (vs : List Value) (o : Nat) (w : World) (cur : Array Value), w.heap[g]? = some (.cells cur e fr) → ∃ cur', (w.setCells g o vs).heap[g]? = some (.cells cur' e fr) ∧ cur'.size = cur.size
  | [], _, _, cur, h => ⟨cur, h, rfl⟩
  | v :: r, o, w, cur, h => by
    rw [World.setCells]
    have h1 : (w.setCell ⟨g, o, none⟩ v).heap[g]? = some (.cells (cur.setIfInBounds o v) e fr) := by
      rw [setCell_eq_setRow w g o cur e fr v h]
      exact setRow_heap w g cur _ e fr h
    obtain ⟨cur', h2, h3⟩ := heap_setCells g r (o + 1) _ _ h1
    exact ⟨cur', h2, by rw [h3]; simp⟩
theorem heap_setCells_ne {g k : Nat} (hk : k ≠ g) : ∀ (vs : List Value) (o : Nat) (w : World), (w.setCells g o vs).heap[k]? = w.heap[k]?
  | [], _, _ => rfl
  | v :: r, o, w => by
    rw [World.setCells, heap_setCells_ne hk r (o + 1)]
    exact Below.heap_setCell _ _ _ _ (fun e => hk e)
theorem size_setCells (g : Nat) : ∀ (vs : List Value) (o : Nat) (w : World), (w.setCells g o vs).heap.size = w.heap.size
  | [], _, _ => rfl
  | v :: r, o, w => by rw [World.setCells, size_setCells g r (o + 1)]; simp [World.setCell]
theorem below_setCells {base g : Nat} (hb : base ≤ g) (w : World) (o : Nat) (vs : List Value) : Below base w (w.setCells g o vs) := by
  induction vs generalizing o w with
  | nil => exact Below.refl _ _
  | cons v r ih => rw [World.setCells]; exact ((Below.refl _ _).setCell (p := ⟨g, o, none⟩) hb v).trans (ih _ _)

/-- a row known by its cells -/
theorem own_of_cells {w : World} {base g cap s n : Nat} {e : TypeId} {xs : List Value} {cur : Array Value} (hb : base ≤ g) (hg : w.heap[g]? = some (.cells cur e (0, 0))) (hs : cur.size = cap * s) (hn : n ≤ cap) (hm : cap ≤ maxLen) (hl : xs.length = n * s)
    (hc : ∀ j, j < n * s → w.cell? ⟨g, j, none⟩ = xs[j]?) : w.ownsRow base e s (.slice (some ⟨g, 0, none⟩) n cap) n xs := by
  refine ⟨hl, .inr ⟨g, cap, cur, rfl, hb, hg, hn, hm, hs, ?_⟩⟩
  have hle : n * s ≤ cap * s := Nat.mul_le_mul_right _ hn
  refine List.ext_getElem? fun j => ?_
  by_cases hj : j < n * s
  · have h1 := hc j hj
    rw [List.getElem?_take_of_lt hj, ← h1]
    simp [World.cell?, hg]
  · rw [List.getElem?_eq_none (by rw [List.length_take]; omega), List.getElem?_eq_none (by omega)]

section
variable {α : Type}
/-- a list with one element more, at a place -/
def insL (xs : List α) (i : Nat) (x : α) : List α := xs.take i ++ x :: xs.drop i
theorem insL_len {xs : List α} {i : Nat} {x : α} (hi : i ≤ xs.length) : (insL xs i x).length = xs.length + 1 := by simp [insL]; omega
theorem insL_end {xs : List α} {x : α} : insL xs xs.length x = xs ++ [x] := by simp [insL]
theorem insL_fl (s : Nat) (cc : α → Nat → Value) (xs : List α) (i : Nat) (x : α) : fl s cc (insL xs i x) = fl s cc (xs.take i) ++ ((List.range s).map (cc x) ++ fl s cc (xs.drop i)) := by
  unfold insL
  rw [fl_append]
  rfl
theorem fl_take (s : Nat) (cc : α → Nat → Value) : ∀ (xs : List α) (i q : Nat), q < i * s → i ≤ xs.length → (fl s cc (xs.take i))[q]? = (fl s cc xs)[q]? := by
  intro xs i q hq hi
  have e : fl s cc xs = fl s cc (xs.take i) ++ fl s cc (xs.drop i) := by rw [← fl_append, List.take_append_drop]
  rw [e, List.getElem?_append_left (by rw [fl_length, List.length_take]; rw [Nat.min_eq_left hi]; exact hq)]
theorem fl_drop (s : Nat) (cc : α → Nat → Value) (xs : List α) (i q : Nat) (hi : i ≤ xs.length) : (fl s cc (xs.drop i))[q]? = (fl s cc xs)[i * s + q]? := by
  have e : fl s cc xs = fl s cc (xs.take i) ++ fl s cc (xs.drop i) := by rw [← fl_append, List.take_append_drop]
  have hl : (fl s cc (xs.take i)).length = i * s := by rw [fl_length, List.length_take, Nat.min_eq_left hi]
  rw [e, List.getElem?_append_right (by omega), hl]
  congr 1
  omega
/-- the cells of such a list -/
theorem ins_cells {s : Nat} {cc : α → Nat → Value} {xs : List α} {i : Nat} {x : α} (hi : i ≤ xs.length) {f : Nat → Option Value} (h1 : ∀ q, q < i * s → f q = (fl s cc xs)[q]?) (h2 : ∀ q, q < s → f (i * s + q) = some (cc x q))
    (h3 : ∀ q, q < (xs.length - i) * s → f ((i + 1) * s + q) = (fl s cc xs)[i * s + q]?) : ∀ q, q < (xs.length + 1) * s → f q = (fl s cc (insL xs i x))[q]? := by
  intro q hq
  rw [insL_fl]
  have hl : (fl s cc (xs.take i)).length = i * s := by rw [fl_length, List.length_take, Nat.min_eq_left hi]
  by_cases c1 : q < i * s
  · rw [List.getElem?_append_left (by omega), fl_take s cc xs i q c1 hi, h1 q c1]
  · rw [List.getElem?_append_right (by omega), hl]
    have es : (i + 1) * s = i * s + s := by rw [Nat.add_mul, Nat.one_mul]
    by_cases c2 : q < (i + 1) * s
    · rw [List.getElem?_append_left (by simp; omega)]
      have := h2 (q - i * s) (by omega)
      rw [show i * s + (q - i * s) = q by omega] at this
      rw [this]
      simp [show q - i * s < s by omega]
    · rw [List.getElem?_append_right (by simp; omega), fl_drop s cc xs i _ hi]
      have e3 : (xs.length + 1) * s = (i + 1) * s + (xs.length - i) * s := by rw [← Nat.add_mul]; congr 1; omega
      have := h3 (q - (i + 1) * s) (by omega)
      rw [show (i + 1) * s + (q - (i + 1) * s) = q by omega] at this
      rw [this]
      congr 1
      simp
      omega
end

end Go.Proofs.Ytkejhhflpnfepaa
