/-
  Proved here: rows by their cells in one list; a row of which one element is stored anew; an append as a step of a region, by its run.
  Conditions: none beyond those in each statement.
-/
import Derived.Test.YtkejhhflpnfepaaCopy
import Derived.Test.YtkejhhflpnfepaaMark
import Derived.Test.YtkejhhflpnfepaaDel
import Derived.ArgAppend
namespace Go.Proofs.Ytkejhhflpnfepaa
open Go.RowKit

section
variable {α : Type} [Inhabited α]
theorem cells_of_row {w : World} {g s : Nat} {cc : α → Nat → Value} {xs : List α} (hs : 0 < s) (h : RowAt w (some ⟨g, 0, none⟩) s xs.length (fun k => cc (nth xs k))) : ∀ q, q < xs.length * s → w.cell? ⟨g, q, none⟩ = (fl s cc xs)[q]? := by
  intro q hq
  have hpos : 0 < xs.length := by
    cases hl : xs.length with
    | zero => rw [hl, Nat.zero_mul] at hq; omega
    | succ n => omega
  obtain ⟨b, off, e, H⟩ := h hpos
  injection e with e; injection e with e1 e2; subst e1 e2
  have hd : q = (q / s) * s + q % s := by rw [Nat.mul_comm]; exact (Nat.div_add_mod q s).symm
  have hk : q / s < xs.length := Nat.div_lt_of_lt_mul (by rw [Nat.mul_comm]; exact hq)
  have hm := Nat.mod_lt q hs
  have h1 := H (q / s) hk (q % s) hm
  have h2 := fl_get s cc xs (q / s) (q % s) hk hm
  rw [← hd] at h2
  rw [h2, ← h1, Nat.zero_add, ← hd]
theorem row_of_cells {w : World} {g s : Nat} {cc : α → Nat → Value} {xs : List α} (h : ∀ q, q < xs.length * s → w.cell? ⟨g, q, none⟩ = (fl s cc xs)[q]?) : RowAt w (some ⟨g, 0, none⟩) s xs.length (fun k => cc (nth xs k)) := fun _ => ⟨g, 0, rfl, fun k hk j hj => by
  have h1 : (k + 1) * s ≤ xs.length * s := Nat.mul_le_mul_right _ hk
  rw [Nat.add_mul] at h1
  rw [Nat.zero_add, h _ (by omega), fl_get s cc xs k j hk hj]⟩
omit [Inhabited α] in
theorem fl_set (s : Nat) (cc : α → Nat → Value) (xs : List α) (i : Nat) (x : α) (hi : i < xs.length) : fl s cc (xs.set i x) = fl s cc (xs.take i) ++ ((List.range s).map (cc x) ++ fl s cc (xs.drop (i + 1))) := by
  have e : xs.set i x = xs.take i ++ x :: xs.drop (i + 1) := by rw [List.set_eq_take_append_cons_drop, if_pos hi]
  rw [e, fl_append]
  rfl
/-- a row of which one element is stored anew -/
theorem FreshAt.store {B0 : Nat} {w : World} {g s : Nat} {cc : α → Nat → Value} {xs : List α} (hs : 0 < s) (h : FreshAt B0 w (some ⟨g, 0, none⟩) s xs.length (fun k => cc (nth xs k))) {i : Nat} (hi : i < xs.length) (x : α) {vs : List Value} (hv : vs = (List.range s).map (cc x)) :
    FreshAt B0 (w.setCells g (i * s) vs) (some ⟨g, 0, none⟩) s (xs.set i x).length (fun k => cc (nth (xs.set i x) k)) := by
  subst hv
  have hc := cells_of_row hs h.row
  have hl : ((List.range s).map (cc x)).length = s := by simp
  have h1 : (i + 1) * s ≤ xs.length * s := Nat.mul_le_mul_right _ hi
  rw [Nat.add_mul] at h1
  have hlt : (fl s cc (xs.take i)).length = i * s := by rw [fl_length, List.length_take, Nat.min_eq_left (Nat.le_of_lt hi)]
  refine ⟨row_of_cells fun q hq => ?_, fun a e => ?_, fun b off e j => ?_⟩
  · rw [List.length_set] at hq
    rw [fl_set s cc xs i x hi]
    by_cases c1 : q < i * s
    · rw [World.cell?_setCells_out g _ _ _ _ (fun _ _ => .inl c1), hc q hq, List.getElem?_append_left (by omega)]
      exact (fl_take s cc xs i q c1 (Nat.le_of_lt hi)).symm
    · by_cases c2 : q < i * s + s
      · obtain ⟨j, rfl⟩ : ∃ j, q = i * s + j := ⟨q - i * s, by omega⟩
        rw [World.cell?_setCells_in g _ _ _ (fun j hj => by rw [hl] at hj; rw [hc _ (by omega)]; rw [List.getElem?_eq_getElem (by rw [fl_length]; omega)]; rfl) j (by rw [hl]; omega)]
        rw [List.getElem?_append_right (by omega), hlt, List.getElem?_append_left (by rw [hl]; omega), show i * s + j - i * s = j by omega, List.getElem?_eq_getElem]
      · rw [World.cell?_setCells_out g _ _ _ _ (fun _ _ => .inr (by rw [hl]; simp only; omega)), hc q hq, List.getElem?_append_right (by omega), hlt, List.getElem?_append_right (by rw [hl]; omega), hl, fl_drop s cc xs (i + 1) _ hi]
        congr 1
        rw [Nat.add_mul]
        omega
  · injection e with e; subst e
    have := h.base _ rfl
    exact ⟨this.1, by rw [size_setCells]; exact this.2⟩
  · injection e with e; injection e with e1 e2; subst e1
    rw [World.frozen?_setCells]; exact h.free g 0 rfl j
end

theorem step_append_eq {P : Program} {ops : Array Oper} {o : Oper} {a : Act} {w : World} {K : Act → World → Prop} {Q : Exit → Act → World → Prop} {E : Prop}
    (hg : o.guard = none) (d x : Operand) (t : TypeId) (hop : o.op = Op.call { callee := Callee.builtin Builtin.append, args := #[d, x], argTypes := #[t, t] })
    (v u : Value) (hd : a.eval d = v) (hx : a.eval x = u) {v' : Value} {w' : World} (hr : (Builtin.append_ #[t, t] o.type #[v, u]).run P w = .ok v' w') (hK : K (a.put o.dst v') w') :
    if Region.wanted o (yielded ops a.tmps) = true then Oper.wp P o a w K Q else E := by
  have hw : Region.wanted o (yielded ops a.tmps) = true := by simp [Region.wanted, hg]
  rw [if_pos hw]
  unfold Oper.wp
  simp [execOp, hop, resolve, invoke, builtin, hd, hx, hr, Result.andThen]
  exact hK

end Go.Proofs.Ytkejhhflpnfepaa
