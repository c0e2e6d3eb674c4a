/-
  Proved here: rows that a call appends to, in memory from any number of blocks on: what lies below is as it was.
  Conditions: none beyond those in each statement.
-/
import Derived.Test.YtckgjpaccgpdpaaGreatDoorOwn
namespace Go.Proofs.YtckgjpaccgpdpaaGreatDoor
open Go.RowKit

theorem Ext.below {a w w' : World} {base : Nat} (h : Ext a w) (hb : Below base w w') (hl : a.heap.size ≤ base) : Ext a w' := Below.trans h (Below.mono hb hl)
theorem Owns.put {α : Type} {w : World} {base : Nat} {e : TypeId} {s : Nat} {cc : α → Nat → Value} {v : Value} {xs : List α} (h : Owns w base e s cc v xs) {p : Addr} (hp : p.block < base) (u : Value) : Owns (w.setCell p u) base e s cc v xs := ownsRow_setCell_below h hp u
theorem Owns.ext' {α : Type} {w w' : World} {base : Nat} {e : TypeId} {s : Nat} {cc : α → Nat → Value} {v : Value} {xs : List α} (h : Owns w base e s cc v xs) (hx : Ext w w') : Owns w' base e s cc v xs := by
  have h0 : w.ownsRow base e s v xs.length (fl s cc xs) := h
  have hg : w.grownBy w' none := ⟨hx.os, hx.tape, hx.output, hx.size, fun k hk _ => hx.block k hk⟩
  refine h0.kept hg ?_
  cases e : v.ownBlock
  · exact .inl rfl
  · exact .inr (by simp)
theorem Owns.low {α : Type} {w w' : World} {base : Nat} {e : TypeId} {s : Nat} {cc : α → Nat → Value} {v : Value} {xs : List α} (h : Owns w base e s cc v xs) (hg : w.grownBy w' v.ownBlock) (hb : base ≤ w.heap.size) : Below base w w' := by
  have h0 : w.ownsRow base e s v xs.length (fl s cc xs) := h
  exact (Below.refl _ _).grown hg hb (fun k hk => (h0.lt k hk).1)
theorem Owns.start' {α : Type} {w : World} {base : Nat} {e : TypeId} {s : Nat} {cc : α → Nat → Value} (hb : base ≤ w.heap.size) : Owns (w.alloc (.cells #[] e)) base e s cc (.slice (some ⟨w.heap.size, 0, none⟩) 0 0) ([] : List α) := by
  have := World.ownsRow_lit (base := base) (e := e) (size := s) w #[] 0 hb (by simp) (by simp)
  simpa [Owns, fl] using this
theorem Owns.nil {α : Type} {w : World} {base : Nat} {e : TypeId} {s : Nat} {cc : α → Nat → Value} : Owns w base e s cc (.slice none 0 0) ([] : List α) := ⟨by simp [fl], .inl ⟨rfl, rfl⟩⟩

section
variable {α : Type} [Inhabited α] {P : Program} {w : World} {ops : Array Oper} {o : Oper} {a : Act} {Q : Exit → Act → World → Prop}

theorem run_append_base (t ty e : TypeId) (i : TypeInfo) (z : Value) (s bytes : Nat) (ht : P.underlying t = some (.slice e)) (hi : P.info? e = some i) (hz : i.zero = some z)
    (hsize : i.size = s) (hby : i.bytes = bytes) (hzs : z.cells.size = s) (hsz : 0 < s) {cc : α → Nat → Value} (h1 : ∀ x j, j < s → (cc x j).oneCell' = true) {base : Nat} (hb : base ≤ w.heap.size)
    {v : Value} {xs ys : List α} (hown : Owns w base e s cc v xs) {ao : Option Addr} {cap : Nat} (hnil : ao = none → cap = 0)
    (hr : RowAt w ao s ys.length (fun k => cc (nth ys k))) (h63 : xs.length + ys.length ≤ 140737488355328) (hbytes : (xs.length + ys.length) * bytes ≤ 140737488355328) :
    ∃ v' w', (Builtin.append_ #[t, t] ty #[v, .slice ao ys.length cap]).run P w = .ok v' w' ∧ Owns w' base e s cc v' (xs ++ ys) ∧ Below base w w' ∧ w.grownBy w' v.ownBlock := by
  have hown0 : w.ownsRow base e s v xs.length (fl s cc xs) := hown
  cases ao with
  | none =>
    obtain rfl := hnil rfl
    have hz0 : ys = [] := by
      cases ys with
      | nil => rfl
      | cons y ys => obtain ⟨_, _, h, _⟩ := hr (by simp); cases h
    subst hz0
    refine ⟨v, w, run_append_owned_none (P := P) (w := w) base t ty e i s ht hi v _ _ hown0, by simpa using hown, Below.refl _ _, ⟨rfl, rfl, rfl, Nat.le_refl _, fun _ _ _ => rfl⟩⟩
  | some ad =>
    have hnews : ∀ j u, (fl s cc ys)[j]? = some u → w.cell? (ad.add j) = some u := by
      intro j u hu
      have hj : j < ys.length * s := by
        have := (List.getElem?_eq_some_iff.1 hu).1
        rwa [fl_length] at this
      have hpos : 0 < ys.length := by
        cases hy : ys.length with
        | zero => simp [hy] at hj
        | succ n => omega
      obtain ⟨b, off, e1, H⟩ := hr hpos
      injection e1 with e1
      subst e1
      have hd : j = (j / s) * s + j % s := by rw [Nat.mul_comm]; exact (Nat.div_add_mod j s).symm
      have hk : j / s < ys.length := Nat.div_lt_of_lt_mul (by rw [Nat.mul_comm]; exact hj)
      have hm := Nat.mod_lt j hsz
      have h2 := fl_get s cc ys (j / s) (j % s) hk hm
      rw [← hd, hu] at h2
      have h3 := H (j / s) hk (j % s) hm
      rw [Nat.add_assoc, ← hd] at h3
      rw [Go.WideShapes.add_plain, h3, h2]
    obtain ⟨v', w', h2, h3, h4, _⟩ := run_append_own (P := P) w base t ty e i z s bytes ht hi hz hsize hby hzs hsz v xs.length (fl s cc xs) hown0 ad ys.length cap (fl s cc ys) (fl_length s cc ys) hnews (fl_one h1 ys)
      (by unfold maxLen; omega) hbytes hb
    refine ⟨v', w', h2, ?_, hown.low h4 hb, h4⟩
    unfold Owns
    rw [fl_append, List.length_append]
    exact h3

/-- append of a row to a row of the call's own: a law of the walk -/
theorem wpList_append_base {rest : List Oper} (hgd : o.guard = none) (s0 x : Operand) (t : TypeId)
    (ho : o.op = .call { callee := .builtin .append, args := #[s0, x], argTypes := #[t, t] })
    (e : TypeId) (i : TypeInfo) (z : Value) (s bytes : Nat) (ht : P.underlying t = some (.slice e)) (hi : P.info? e = some i) (hz : i.zero = some z)
    (hsize : i.size = s) (hby : i.bytes = bytes) (hzs : z.cells.size = s) (hsz : 0 < s) (cc : α → Nat → Value) (h1 : ∀ x j, j < s → (cc x j).oneCell' = true) (base : Nat) (hb : base ≤ w.heap.size)
    (v : Value) (xs ys : List α) (hs : a.eval s0 = v) (hown : Owns w base e s cc v xs) (ao : Option Addr) (m cap : Nat) (hxv : a.eval x = .slice ao m cap) (hm : m = ys.length) (hnil : ao = none → cap = 0)
    (hr : RowAt w ao s ys.length (fun k => cc (nth ys k))) (h63 : xs.length + ys.length ≤ 140737488355328) (hbytes : (xs.length + ys.length) * bytes ≤ 140737488355328)
    (h : ∀ v' w', Owns w' base e s cc v' (xs ++ ys) → Below base w w' → wpList P ops Q rest (a.put o.dst v') w') : wpList P ops Q (o :: rest) a w := by
  subst hm
  refine wpList_plain hgd fun K hK => ?_
  obtain ⟨v', w', hrun, h2, h3, _⟩ := run_append_base (P := P) t o.type e i z s bytes ht hi hz hsize hby hzs hsz h1 hb hown hnil hr h63 hbytes
  unfold Oper.wp execOp
  simp only [ho, resolve, invoke, builtin, Sem.run_bind, Sem.run_pure, Result.andThen_ok, List.map_toArray, List.map_cons, List.map_nil, hs, hxv, hrun]
  exact hK _ _ (h v' w' h2 h3)

/-- the same, as a step of a region that draws its order -/
theorem step_append_base {K : Act → World → Prop} {E : Prop} (hg : o.guard = none) (s0 x : Operand) (t : TypeId)
    (ho : o.op = .call { callee := .builtin .append, args := #[s0, x], argTypes := #[t, t] })
    (e : TypeId) (i : TypeInfo) (z : Value) (s bytes : Nat) (ht : P.underlying t = some (.slice e)) (hi : P.info? e = some i) (hz : i.zero = some z)
    (hsize : i.size = s) (hby : i.bytes = bytes) (hzs : z.cells.size = s) (hsz : 0 < s) (cc : α → Nat → Value) (h1 : ∀ x j, j < s → (cc x j).oneCell' = true) (base : Nat) (hb : base ≤ w.heap.size)
    (v : Value) (xs ys : List α) (hs : a.eval s0 = v) (hown : Owns w base e s cc v xs) (ao : Option Addr) (m cap : Nat) (hxv : a.eval x = .slice ao m cap) (hm : m = ys.length) (hnil : ao = none → cap = 0)
    (hr : RowAt w ao s ys.length (fun k => cc (nth ys k))) (h63 : xs.length + ys.length ≤ 140737488355328) (hbytes : (xs.length + ys.length) * bytes ≤ 140737488355328)
    (hK : ∀ v' w', Owns w' base e s cc v' (xs ++ ys) → Below base w w' → w.grownBy w' v.ownBlock → K (a.put o.dst v') w') :
    if Region.wanted o (yielded ops a.tmps) = true then Oper.wp P o a w K Q else E := by
  subst hm
  have hw : Region.wanted o (yielded ops a.tmps) = true := by simp [Region.wanted, hg]
  rw [if_pos hw]
  obtain ⟨v', w', hrun, h2, h3, h4⟩ := run_append_base (P := P) t o.type e i z s bytes ht hi hz hsize hby hzs hsz h1 hb hown hnil hr h63 hbytes
  unfold Oper.wp
  simp [execOp, ho, resolve, invoke, builtin, hs, hxv, hrun, Result.andThen]
  exact hK v' w' h2 h3 h4
end

/-- Four cells of a block of the call's own. -/
structure Box4 (w : World) (B : Nat) (a b c d : Value) : Prop where
  c0 : w.cell? ⟨B, 0, none⟩ = some a
  c1 : w.cell? ⟨B, 1, none⟩ = some b
  c2 : w.cell? ⟨B, 2, none⟩ = some c
  c3 : w.cell? ⟨B, 3, none⟩ = some d
theorem Box4.ext {w w' : World} {B : Nat} {a b c d : Value} (h : Box4 w B a b c d) (hx : Ext w w') : Box4 w' B a b c d := ⟨hx.cells h.c0, hx.cells h.c1, hx.cells h.c2, hx.cells h.c3⟩
theorem Box4.of {w w' : World} {a b c d : Value} {T : TypeId} (hx : Ext (w.alloc (.cells #[a, b, c, d] T)) w') : Box4 w' w.heap.size a b c d :=
  ⟨hx.cells (by go_simp), hx.cells (by go_simp), hx.cells (by go_simp), hx.cells (by go_simp)⟩
theorem Box4.lt {w : World} {B : Nat} {a b c d : Value} (h : Box4 w B a b c d) : B < w.heap.size := World.block_lt_of_cell? _ _ h.c0
theorem Box4.below {w w' : World} {B base : Nat} {a b c d : Value} (h : Box4 w B a b c d) (hx : Below base w w') (hB : B < base) : Box4 w' B a b c d :=
  ⟨(hx.cell (p := ⟨B, 0, none⟩) hB).trans h.c0, (hx.cell (p := ⟨B, 1, none⟩) hB).trans h.c1, (hx.cell (p := ⟨B, 2, none⟩) hB).trans h.c2, (hx.cell (p := ⟨B, 3, none⟩) hB).trans h.c3⟩
theorem Box4.grown {w w' : World} {B : Nat} {a b c d : Value} {row : Option Nat} (h : Box4 w B a b c d) (hg : w.grownBy w' row) (hr : row ≠ some B) : Box4 w' B a b c d := by
  have k : ∀ o, w'.cell? ⟨B, o, none⟩ = w.cell? ⟨B, o, none⟩ := fun o => World.cell?_of_block (a := ⟨B, o, none⟩) (hg.block B h.lt (fun e => hr e.symm))
  exact ⟨(k 0).trans h.c0, (k 1).trans h.c1, (k 2).trans h.c2, (k 3).trans h.c3⟩
theorem Box4.put {w : World} {B : Nat} {a b c d : Value} (h : Box4 w B a b c d) {p : Addr} (hp : p.block ≠ B) (u : Value) : Box4 (w.setCell p u) B a b c d := by
  have k : ∀ o, (w.setCell p u).cell? ⟨B, o, none⟩ = w.cell? ⟨B, o, none⟩ := fun o => World.cell?_setCell_other _ _ _ _ (fun e => hp (by rw [e]))
  exact ⟨(k 0).trans h.c0, (k 1).trans h.c1, (k 2).trans h.c2, (k 3).trans h.c3⟩
theorem Box4.put3 {w : World} {B : Nat} {a b c d : Value} (h : Box4 w B a b c d) (u : Value) : Box4 (w.setCell ⟨B, 3, none⟩ u) B a b c u := by
  have k : ∀ o, o ≠ 3 → (w.setCell ⟨B, 3, none⟩ u).cell? ⟨B, o, none⟩ = w.cell? ⟨B, o, none⟩ := fun o ho => World.cell?_setCell_other _ _ _ _ (fun e => ho (by injection e with _ e2; exact e2.symm))
  exact ⟨(k 0 (by decide)).trans h.c0, (k 1 (by decide)).trans h.c1, (k 2 (by decide)).trans h.c2, World.cell?_setCell_same _ _ _ h.c3⟩

end Go.Proofs.YtckgjpaccgpdpaaGreatDoor
