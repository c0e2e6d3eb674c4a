/-
  Proved here: rows that a call appends to, said of a list of structs: appends of whole rows, as laws of the walk and as steps of a region that draws its order.
  Conditions: none beyond those in each statement.
-/
import Derived.Test.YtckgjpaccgpdpaaGreatDoorAppend
import Derived.Laws.AppendOwnNone
import Derived.Deep.RegionLaw
namespace Go.Proofs.YtckgjpaccgpdpaaGreatDoor
open Go.RowKit

/-- the cells of a list of elements of s cells -/
def fl {α : Type} (s : Nat) (cc : α → Nat → Value) (xs : List α) : List Value := xs.flatMap fun x => (List.range s).map (cc x)
theorem fl_append {α : Type} (s : Nat) (cc : α → Nat → Value) (xs ys : List α) : fl s cc (xs ++ ys) = fl s cc xs ++ fl s cc ys := by simp [fl]
theorem fl_length {α : Type} (s : Nat) (cc : α → Nat → Value) (xs : List α) : (fl s cc xs).length = xs.length * s := by
  induction xs with
  | nil => simp [fl]
  | cons x xs ih =>
    have : fl s cc (x :: xs) = (List.range s).map (cc x) ++ fl s cc xs := rfl
    rw [this, List.length_append, ih]
    simp [Nat.add_mul]; omega
theorem fl_get {α : Type} [Inhabited α] (s : Nat) (cc : α → Nat → Value) (xs : List α) : ∀ k j, k < xs.length → j < s → (fl s cc xs)[k * s + j]? = some (cc (nth xs k) j) := by
  induction xs with
  | nil => intro k j hk; simp at hk
  | cons x xs ih =>
    intro k j hk hj
    have e : fl s cc (x :: xs) = (List.range s).map (cc x) ++ fl s cc xs := rfl
    rw [e]
    cases k with
    | zero =>
      rw [List.getElem?_append_left (by simpa using hj)]
      simp [nth, hj]
    | succ k =>
      rw [List.getElem?_append_right (by simp [Nat.add_mul]; omega)]
      have := ih k j (by simpa using hk) hj
      rw [← show (k + 1) * s + j - s = k * s + j by rw [Nat.add_mul]; omega] at this
      simpa [nth] using this
theorem fl_one {α : Type} {s : Nat} {cc : α → Nat → Value} (h : ∀ x j, j < s → (cc x j).oneCell' = true) (xs : List α) : ∀ u ∈ fl s cc xs, u.oneCell' = true := by
  intro u hu
  simp only [fl, List.mem_flatMap, List.mem_map, List.mem_range] at hu
  obtain ⟨x, _, j, hj, rfl⟩ := hu
  exact h x j hj

/-- The slice v is the call's own, in memory from 'base' on, and holds xs. -/
def Owns {α : Type} (w : World) (base : Nat) (e : TypeId) (s : Nat) (cc : α → Nat → Value) (v : Value) (xs : List α) : Prop := w.ownsRow base e s v xs.length (fl s cc xs)

theorem Owns.kept {α : Type} {a w w' : World} {e : TypeId} {s : Nat} {cc : α → Nat → Value} {v : Value} {xs : List α} (h : Owns w a.heap.size e s cc v xs) (hx : Ext w w') : Owns w' a.heap.size e s cc v xs := own_kept h hx
theorem Owns.fresh {α : Type} [Inhabited α] {w : World} {base : Nat} {e : TypeId} {s : Nat} {cc : α → Nat → Value} {v : Value} {xs : List α} (h : Owns w base e s cc v xs) : ∃ ao cap, v = .slice ao xs.length cap ∧ FreshAt base w ao s xs.length (fun k => cc (nth xs k)) ∧ (ao = none → cap = 0) ∧ xs.length ≤ cap ∧ cap ≤ maxLen := by
  have h0 : w.ownsRow base e s v xs.length (fl s cc xs) := h
  obtain ⟨ao, cap, rfl, hF⟩ := own_fresh h0 (fl_get s cc xs)
  refine ⟨ao, cap, rfl, hF, ?_, ?_, ?_⟩
  all_goals rcases h0.2 with ⟨he, h1⟩ | ⟨g, cap', cur, he, _, hg, hnc, hm, _, _⟩
  all_goals injection he with e1 e2 e3
  all_goals subst e1 e3
  · exact fun _ => rfl
  · exact fun h => by cases h
  · omega
  · exact hnc
  · simp [maxLen]
  · exact hm
theorem Owns.start {α : Type} {a w : World} {e : TypeId} {s : Nat} {cc : α → Nat → Value} (hx : Ext a w) : Owns (w.alloc (.cells #[] e)) a.heap.size e s cc (.slice (some ⟨w.heap.size, 0, none⟩) 0 0) ([] : List α) := by
  have := World.ownsRow_lit (base := a.heap.size) (e := e) (size := s) w #[] 0 hx.size (by simp) (by simp)
  simpa [Owns, fl] using this

/-- One element, as the walk lays it. -/
theorem row_lit {α : Type} [Inhabited α] {w : World} {cs : Array Value} {T : TypeId} {s : Nat} {cc : α → Nat → Value} {x : α} (hc : ∀ j, j < s → cs[j]? = some (cc x j)) :
    RowAt (w.alloc (.cells cs T)) (some ⟨w.heap.size, 0, none⟩) s [x].length (fun k => cc (nth [x] k)) := by
  refine fun _ => ⟨_, _, rfl, fun k hk j hj => ?_⟩
  obtain rfl : k = 0 := by simp at hk; omega
  have := hc j hj
  rw [show (0 + 0 * s + j) = j by omega, World.cell?_alloc_new]
  simpa [nth] using this

/-- what an append of whole rows leaves -/
theorem Owns.ext {α : Type} {a w w' : World} {e : TypeId} {s : Nat} {cc : α → Nat → Value} {v : Value} {xs : List α} (hx : Ext a w) (ho : Owns w a.heap.size e s cc v xs) (hg : w.grownBy w' v.ownBlock) : Ext a w' := own_ext hx ho hg

section
variable {α : Type} [Inhabited α] {P : Program} {a0 w : World} {ops : Array Oper} {o : Oper} {a : Act} {Q : Exit → Act → World → Prop}

theorem run_append_rows (t ty e : TypeId) (i : TypeInfo) (z : Value) (s bytes : Nat) (ht : P.underlying t = some (.slice e)) (hi : P.info? e = some i) (hz : i.zero = some z)
    (hsize : i.size = s) (hby : i.bytes = bytes) (hzs : z.cells.size = s) (hsz : 0 < s) {cc : α → Nat → Value} (h1 : ∀ x j, j < s → (cc x j).oneCell' = true)
    {v : Value} {xs ys : List α} (hown : Owns w a0.heap.size e s cc v xs) {ao : Option Addr} {cap : Nat} (hnil : ao = none → cap = 0)
    (hr : RowAt w ao s ys.length (fun k => cc (nth ys k))) (h63 : xs.length + ys.length ≤ 140737488355328) (hbytes : (xs.length + ys.length) * bytes ≤ 140737488355328) (hx : Ext a0 w) :
    ∃ v' w', (Builtin.append_ #[t, t] ty #[v, .slice ao ys.length cap]).run P w = .ok v' w' ∧ Owns w' a0.heap.size e s cc v' (xs ++ ys) ∧ Ext a0 w' ∧ w.grownBy w' v.ownBlock := by
  have hown0 : w.ownsRow a0.heap.size e s v xs.length (fl s cc xs) := hown
  cases ao with
  | none =>
    obtain rfl := hnil rfl
    have hz0 : ys = [] := by
      cases ys with
      | nil => rfl
      | cons y ys => obtain ⟨_, _, h, _⟩ := hr (by simp); cases h
    subst hz0
    refine ⟨v, w, run_append_owned_none (P := P) (w := w) a0.heap.size t ty e i s ht hi v _ _ hown0, by simpa using hown, hx, ⟨rfl, rfl, rfl, Nat.le_refl _, fun _ _ _ => rfl⟩⟩
  | some ad =>
    have hnews : ∀ j u, (fl s cc ys)[j]? = some u → w.cell? (ad.add j) = some u := by
      intro j u hu
      have hj : j < ys.length * s := by
        have := (List.getElem?_eq_some_iff.1 hu).1
        rwa [fl_length] at this
      have hpos : 0 < ys.length := by
        cases hy : ys.length with
        | zero => simp [hy] at hj
        | succ n => omega
      obtain ⟨b, off, e1, H⟩ := hr hpos
      injection e1 with e1
      subst e1
      have hd : j = (j / s) * s + j % s := by rw [Nat.mul_comm]; exact (Nat.div_add_mod j s).symm
      have hk : j / s < ys.length := Nat.div_lt_of_lt_mul (by rw [Nat.mul_comm]; exact hj)
      have hm := Nat.mod_lt j hsz
      have h2 := fl_get s cc ys (j / s) (j % s) hk hm
      rw [← hd, hu] at h2
      have h3 := H (j / s) hk (j % s) hm
      rw [Nat.add_assoc, ← hd] at h3
      rw [Go.WideShapes.add_plain, h3, h2]
    obtain ⟨v', w', h2, h3, h4, _⟩ := run_append_own (P := P) w a0.heap.size t ty e i z s bytes ht hi hz hsize hby hzs hsz v xs.length (fl s cc xs) hown0 ad ys.length cap (fl s cc ys) (fl_length s cc ys) hnews (fl_one h1 ys)
      (by unfold maxLen; omega) hbytes hx.size
    refine ⟨v', w', h2, ?_, own_ext hx hown0 h4, h4⟩
    unfold Owns
    rw [fl_append, List.length_append]
    exact h3

/-- append of a row to a row of the call's own: a law of the walk -/
theorem wpList_append_rows {rest : List Oper} (hgd : o.guard = none) (s0 x : Operand) (t : TypeId)
    (ho : o.op = .call { callee := .builtin .append, args := #[s0, x], argTypes := #[t, t] }) (a0 : World)
    (e : TypeId) (i : TypeInfo) (z : Value) (s bytes : Nat) (ht : P.underlying t = some (.slice e)) (hi : P.info? e = some i) (hz : i.zero = some z)
    (hsize : i.size = s) (hby : i.bytes = bytes) (hzs : z.cells.size = s) (hsz : 0 < s) (cc : α → Nat → Value) (h1 : ∀ x j, j < s → (cc x j).oneCell' = true)
    (v : Value) (xs ys : List α) (hs : a.eval s0 = v) (hown : Owns w a0.heap.size e s cc v xs) (ao : Option Addr) (m cap : Nat) (hxv : a.eval x = .slice ao m cap) (hm : m = ys.length) (hnil : ao = none → cap = 0)
    (hr : RowAt w ao s ys.length (fun k => cc (nth ys k))) (h63 : xs.length + ys.length ≤ 140737488355328) (hbytes : (xs.length + ys.length) * bytes ≤ 140737488355328) (hx : Ext a0 w)
    (h : ∀ v' w', Owns w' a0.heap.size e s cc v' (xs ++ ys) → Ext a0 w' → wpList P ops Q rest (a.put o.dst v') w') : wpList P ops Q (o :: rest) a w := by
  subst hm
  refine wpList_plain hgd fun K hK => ?_
  obtain ⟨v', w', hrun, h2, h3, _⟩ := run_append_rows (P := P) t o.type e i z s bytes ht hi hz hsize hby hzs hsz h1 hown hnil hr h63 hbytes hx
  unfold Oper.wp execOp
  simp only [ho, resolve, invoke, builtin, Sem.run_bind, Sem.run_pure, Result.andThen_ok, List.map_toArray, List.map_cons, List.map_nil, hs, hxv, hrun]
  exact hK _ _ (h v' w' h2 h3)

/-- the same, as a step of a region that draws its order -/
theorem step_append_rows {K : Act → World → Prop} {E : Prop} (hg : o.guard = none) (s0 x : Operand) (t : TypeId)
    (ho : o.op = .call { callee := .builtin .append, args := #[s0, x], argTypes := #[t, t] }) (a0 : World)
    (e : TypeId) (i : TypeInfo) (z : Value) (s bytes : Nat) (ht : P.underlying t = some (.slice e)) (hi : P.info? e = some i) (hz : i.zero = some z)
    (hsize : i.size = s) (hby : i.bytes = bytes) (hzs : z.cells.size = s) (hsz : 0 < s) (cc : α → Nat → Value) (h1 : ∀ x j, j < s → (cc x j).oneCell' = true)
    (v : Value) (xs ys : List α) (hs : a.eval s0 = v) (hown : Owns w a0.heap.size e s cc v xs) (ao : Option Addr) (m cap : Nat) (hxv : a.eval x = .slice ao m cap) (hm : m = ys.length) (hnil : ao = none → cap = 0)
    (hr : RowAt w ao s ys.length (fun k => cc (nth ys k))) (h63 : xs.length + ys.length ≤ 140737488355328) (hbytes : (xs.length + ys.length) * bytes ≤ 140737488355328) (hx : Ext a0 w)
    (hK : ∀ v' w', Owns w' a0.heap.size e s cc v' (xs ++ ys) → Ext a0 w' → w.grownBy w' v.ownBlock → K (a.put o.dst v') w') :
    if Region.wanted o (yielded ops a.tmps) = true then Oper.wp P o a w K Q else E := by
  subst hm
  have hw : Region.wanted o (yielded ops a.tmps) = true := by simp [Region.wanted, hg]
  rw [if_pos hw]
  obtain ⟨v', w', hrun, h2, h3, h4⟩ := run_append_rows (P := P) t o.type e i z s bytes ht hi hz hsize hby hzs hsz h1 hown hnil hr h63 hbytes hx
  unfold Oper.wp
  simp [execOp, ho, resolve, invoke, builtin, hs, hxv, hrun, Result.andThen]
  exact hK v' w' h2 h3 h4
end

/-- ints, one cell each -/
def icc (x : Int) (_ : Nat) : Value := .int .i64 x
theorem icc_one : ∀ (x : Int) (j : Nat), j < 1 → (icc x j).oneCell' = true := fun _ _ _ => rfl
/-- an empty slice that the call has laid -/
theorem Owns.fresh0 {α : Type} {w : World} {base : Nat} {e : TypeId} {s : Nat} {cc : α → Nat → Value} {ao : Option Addr} {n cap : Nat} {c : Nat → Nat → Value} (h : Owns w base e s cc (.slice ao n cap) ([] : List α)) : FreshAt base w ao s 0 c := by
  have h0 : w.ownsRow base e s (.slice ao n cap) 0 (fl s cc []) := h
  obtain ⟨ao', cap', he, hF⟩ := own_fresh (c := c) h0 (fun k j hk => by omega)
  injection he with e1 e2 e3
  subst e1
  exact hF

end Go.Proofs.YtckgjpaccgpdpaaGreatDoor
