/-
  Proved here: where an append to a row of the call's own puts the row: in its own block, or in a new one.
  Conditions: none beyond those in each statement.
-/
import Derived.Test.YtckgjpaccgpdpaaGreatDoorOwn
namespace Go.Proofs.YtckgjpaccgpdpaaGreatDoor
open Go.RowKit

section
variable {α : Type} [Inhabited α] {P : Program} {a0 w : World} {ops : Array Oper} {o : Oper} {a : Act} {Q : Exit → Act → World → Prop}

theorem rows_news {w : World} {s : Nat} (hsz : 0 < s) {cc : α → Nat → Value} {ys : List α} {ad : Addr} (hr : RowAt w (some ad) s ys.length (fun k => cc (nth ys k))) : ∀ j u, (fl s cc ys)[j]? = some u → w.cell? (ad.add j) = some u := by
  intro j u hu
  have hj : j < ys.length * s := by
    have := (List.getElem?_eq_some_iff.1 hu).1
    rwa [fl_length] at this
  have hpos : 0 < ys.length := by
    cases hy : ys.length with
    | zero => simp [hy] at hj
    | succ n => omega
  obtain ⟨b, off, e1, H⟩ := hr hpos
  injection e1 with e1
  subst e1
  have hd : j = (j / s) * s + j % s := by rw [Nat.mul_comm]; exact (Nat.div_add_mod j s).symm
  have hk : j / s < ys.length := Nat.div_lt_of_lt_mul (by rw [Nat.mul_comm]; exact hj)
  have hm := Nat.mod_lt j hsz
  have h2 := fl_get s cc ys (j / s) (j % s) hk hm
  rw [← hd, hu] at h2
  have h3 := H (j / s) hk (j % s) hm
  rw [Nat.add_assoc, ← hd] at h3
  rw [Go.WideShapes.add_plain, h3, h2]

theorem run_append_where (t ty e : TypeId) (i : TypeInfo) (z : Value) (s bytes : Nat) (ht : P.underlying t = some (.slice e)) (hi : P.info? e = some i) (hz : i.zero = some z)
    (hsize : i.size = s) (hby : i.bytes = bytes) (hzs : z.cells.size = s) (hsz : 0 < s) {cc : α → Nat → Value} (h1 : ∀ x j, j < s → (cc x j).oneCell' = true)
    {v : Value} {xs ys : List α} (hown : Owns w a0.heap.size e s cc v xs) {ad : Addr} {cap : Nat}
    (hr : RowAt w (some ad) s ys.length (fun k => cc (nth ys k))) (h63 : xs.length + ys.length ≤ 140737488355328) (hbytes : (xs.length + ys.length) * bytes ≤ 140737488355328) (hx : Ext a0 w) :
    ∃ v' w', (Builtin.append_ #[t, t] ty #[v, .slice (some ad) ys.length cap]).run P w = .ok v' w' ∧ Owns w' a0.heap.size e s cc v' (xs ++ ys) ∧ Ext a0 w' ∧ w.grownBy w' v.ownBlock ∧ (v'.ownBlock = v.ownBlock ∨ v'.ownBlock = some w.heap.size) := by
  have hown0 : w.ownsRow a0.heap.size e s v xs.length (fl s cc xs) := hown
  have hnews := rows_news hsz hr
  obtain ⟨v', w', h2, h3, h4, h5⟩ := run_append_own (P := P) w a0.heap.size t ty e i z s bytes ht hi hz hsize hby hzs hsz v xs.length (fl s cc xs) hown0 ad ys.length cap (fl s cc ys) (fl_length s cc ys) hnews (fl_one h1 ys)
    (by unfold maxLen; omega) hbytes hx.size
  refine ⟨v', w', h2, ?_, own_ext hx hown0 h4, h4, ?_⟩
  · unfold Owns
    rw [fl_append, List.length_append]
    exact h3
  · subst hsize
    subst hby
    rcases hown0.2 with ⟨rfl, hn0⟩ | ⟨g, cap', cur, rfl, hbg, hg, hnc, hcm, hcs, htake⟩
    · by_cases hm : ys.length = 0
      · left
        rw [h5.2 ⟨rfl, hm⟩]
      · right
        have hr' := run_append_nil (P := P) w t ty e i z ht hi hz ad ys.length cap (fl i.size cc ys) (fl_length _ cc ys) hnews (by omega) (by omega) (by
          have hb := hbytes
          rw [hn0] at hb
          simp only [Nat.zero_add] at hb
          omega)
        rw [hr'] at h2
        injection h2 with e1 _
        rw [← e1]
        rfl
    · by_cases hroom : xs.length + ys.length ≤ cap'
      · left
        have hr' := run_append_room (P := P) w t ty e i ht hi g xs.length cap' cur hg ad ys.length cap (fl i.size cc ys) (fl_length _ cc ys) hnews (fl_one h1 ys) hroom (by rw [fl_length, hcs, ← Nat.add_mul]; exact Nat.mul_le_mul_right _ hroom)
        rw [hr'] at h2
        injection h2 with e1 _
        rw [← e1]
        rfl
      · right
        have hr' := run_append_grow (P := P) w t ty e i z ht hi hz ⟨g, 0, none⟩ xs.length cap' (fl i.size cc xs) hown0.1 (hown0.cells (g := g) rfl) ad ys.length cap (fl i.size cc ys) (fl_length _ cc ys) hnews (by omega) (by omega) (growslice_fits (by omega) hbytes)
        rw [hr'] at h2
        injection h2 with e1 _
        rw [← e1]
        rfl

/-- append of a row to a row of the call's own, and where it lies then: a law of the walk -/
theorem wpList_append_where {rest : List Oper} (hgd : o.guard = none) (s0 x : Operand) (t : TypeId)
    (ho : o.op = .call { callee := .builtin .append, args := #[s0, x], argTypes := #[t, t] }) (a0 : World)
    (e : TypeId) (i : TypeInfo) (z : Value) (s bytes : Nat) (ht : P.underlying t = some (.slice e)) (hi : P.info? e = some i) (hz : i.zero = some z)
    (hsize : i.size = s) (hby : i.bytes = bytes) (hzs : z.cells.size = s) (hsz : 0 < s) (cc : α → Nat → Value) (h1 : ∀ x j, j < s → (cc x j).oneCell' = true)
    (v : Value) (xs ys : List α) (hs : a.eval s0 = v) (hown : Owns w a0.heap.size e s cc v xs) (ad : Addr) (m cap : Nat) (hxv : a.eval x = .slice (some ad) m cap) (hm : m = ys.length)
    (hr : RowAt w (some ad) s ys.length (fun k => cc (nth ys k))) (h63 : xs.length + ys.length ≤ 140737488355328) (hbytes : (xs.length + ys.length) * bytes ≤ 140737488355328) (hx : Ext a0 w)
    (h : ∀ v' w', Owns w' a0.heap.size e s cc v' (xs ++ ys) → Ext a0 w' → w.grownBy w' v.ownBlock → (v'.ownBlock = v.ownBlock ∨ v'.ownBlock = some w.heap.size) → wpList P ops Q rest (a.put o.dst v') w') : wpList P ops Q (o :: rest) a w := by
  subst hm
  refine wpList_plain hgd fun K hK => ?_
  obtain ⟨v', w', hrun, h2, h3, h4, h5⟩ := run_append_where (P := P) (cap := cap) t o.type e i z s bytes ht hi hz hsize hby hzs hsz h1 hown hr h63 hbytes hx
  unfold Oper.wp
  simp [execOp, ho, resolve, invoke, builtin, hs, hxv, hrun, Result.andThen]
  exact hK _ _ (h v' w' h2 h3 h4 h5)
end

end Go.Proofs.YtckgjpaccgpdpaaGreatDoor
