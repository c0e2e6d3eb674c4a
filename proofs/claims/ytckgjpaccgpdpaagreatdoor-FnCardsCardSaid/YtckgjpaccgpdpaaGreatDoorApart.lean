/-
  Proved here: a row that stays apart from a row that a call appends to.
  Conditions: none beyond those in each statement.
-/
import Derived.Test.YtckgjpaccgpdpaaGreatDoorOwn2
import Derived.Test.YtckgjpaccgpdpaaGreatDoorOwn3
import Derived.Test.YtckgjpaccgpdpaaGreatDoorMark
namespace Go.Proofs.YtckgjpaccgpdpaaGreatDoor
open Go.RowKit

/-- The row at an address lies in a block that is not the slice's. -/
def Apart (w : World) (go : Option Addr) (v : Value) : Prop := ∀ a, go = some a → a.block < w.heap.size ∧ v.ownBlock ≠ some a.block
theorem Apart.ext {w w' : World} {go : Option Addr} {v : Value} (h : Apart w go v) (hx : Ext w w') : Apart w' go v := fun a e => ⟨Nat.lt_of_lt_of_le (h a e).1 hx.size, (h a e).2⟩
theorem Apart.append {w w' : World} {go : Option Addr} {v v' : Value} (h : Apart w go v) (hg : w.grownBy w' v.ownBlock) (hv : v'.ownBlock = v.ownBlock ∨ v'.ownBlock = some w.heap.size) : Apart w' go v' := fun a e => by
  have h1 := h a e
  refine ⟨Nat.lt_of_lt_of_le h1.1 hg.size, fun hb => ?_⟩
  rcases hv with hv | hv
  · exact h1.2 (hv ▸ hb)
  · rw [hv] at hb; injection hb with hb; omega
theorem Apart.row {w w' : World} {go : Option Addr} {v : Value} {s n : Nat} {c : Nat → Nat → Value} (h : Apart w go v) (hs : 0 < s) (hr : RowAt w go s n c) (hg : w.grownBy w' v.ownBlock) : RowAt w' go s n c := hr.grown hs hg (fun a e => (h a e).2)
/-- a slice in newer memory is apart from an older one -/
theorem Apart.new {w : World} {go : Option Addr} {v : Value} {B0 s n : Nat} {c : Nat → Nat → Value} (h : FreshAt B0 w go s n c) (hv : ∀ k, v.ownBlock = some k → k < B0) : Apart w go v := fun a e => ⟨(h.base a e).2, fun hb => by have h1 := hv _ hb; have h2 := (h.base a e).1; omega⟩
/-- an empty slice that was laid before other things were made -/
theorem Owns.early {α : Type} {a w w' : World} {e : TypeId} {s : Nat} {cc : α → Nat → Value} (hx : Ext a w) (hx1 : Ext (w.alloc (.cells #[] e)) w') : Owns w' a.heap.size e s cc (.slice (some ⟨w.heap.size, 0, none⟩) 0 0) ([] : List α) := (Owns.start hx).ext' hx1
theorem early_block {b n c : Nat} : ∀ k, (Value.slice (some ⟨b, 0, none⟩) n c).ownBlock = some k → k < b + 1 := fun k h => by simp [Value.ownBlock] at h; omega

section
variable {α : Type} [Inhabited α] {P : Program} {a0 w : World} {ops : Array Oper} {o : Oper} {a : Act} {Q : Exit → Act → World → Prop}
/-- an append of a row to a row of the call's own, the new slice written out: a law of the walk -/
theorem wpList_append_form {rest : List Oper} (hgd : o.guard = none) (s0 x : Operand) (t : TypeId)
    (ho : o.op = .call { callee := .builtin .append, args := #[s0, x], argTypes := #[t, t] }) (a0 : World)
    (e : TypeId) (i : TypeInfo) (z : Value) (s bytes : Nat) (ht : P.underlying t = some (.slice e)) (hi : P.info? e = some i) (hz : i.zero = some z)
    (hsize : i.size = s) (hby : i.bytes = bytes) (hzs : z.cells.size = s) (hsz : 0 < s) (cc : α → Nat → Value) (h1 : ∀ x j, j < s → (cc x j).oneCell' = true)
    (v : Value) (xs ys L : List α) (hL : Hid (L = xs ++ ys)) (hs : a.eval s0 = v) (hown : Owns w a0.heap.size e s cc v xs) (ad : Addr) (m cap : Nat) (hxv : a.eval x = .slice (some ad) m cap) (hm : m = ys.length)
    (hr : RowAt w (some ad) s ys.length (fun k => cc (nth ys k))) (h63 : xs.length + ys.length ≤ 140737488355328) (hbytes : (xs.length + ys.length) * bytes ≤ 140737488355328) (hx : Ext a0 w)
    (h : ∀ go gc w', Owns w' a0.heap.size e s cc (.slice go L.length gc) L → Ext a0 w' → w.grownBy w' v.ownBlock → ((Value.slice go L.length gc).ownBlock = v.ownBlock ∨ (Value.slice go L.length gc).ownBlock = some w.heap.size) → wpList P ops Q rest (a.put o.dst (.slice go L.length gc)) w') : wpList P ops Q (o :: rest) a w := by
  refine wpList_append_where hgd s0 x t ho a0 e i z s bytes ht hi hz hsize hby hzs hsz cc h1 v xs ys hs hown ad m cap hxv hm hr h63 hbytes hx ?_
  intro v' w' ho1 hx1 hg hv
  obtain ⟨go, gc, hve, _⟩ := ho1.fresh
  have hL' : L = xs ++ ys := hL
  rw [← hL'] at ho1 hve
  rw [hve] at ho1 hv ⊢
  exact h go gc w' ho1 hx1 hg hv
end

section
variable {α : Type} [Inhabited α] {P : Program} {a0 w : World} {ops : Array Oper} {o : Oper} {a : Act} {Q : Exit → Act → World → Prop}
/-- an append of a row to a row of the call's own, and where it lies then, as a step of a region that draws its order -/
theorem step_append_apart {K : Act → World → Prop} {E : Prop} (hg : o.guard = none) (s0 x : Operand) (t : TypeId)
    (ho : o.op = .call { callee := .builtin .append, args := #[s0, x], argTypes := #[t, t] }) (a0 : World)
    (e : TypeId) (i : TypeInfo) (z : Value) (s bytes : Nat) (ht : P.underlying t = some (.slice e)) (hi : P.info? e = some i) (hz : i.zero = some z)
    (hsize : i.size = s) (hby : i.bytes = bytes) (hzs : z.cells.size = s) (hsz : 0 < s) (cc : α → Nat → Value) (h1 : ∀ x j, j < s → (cc x j).oneCell' = true)
    (v : Value) (xs ys : List α) (hs : a.eval s0 = v) (hown : Owns w a0.heap.size e s cc v xs) (ad : Addr) (m cap : Nat) (hxv : a.eval x = .slice (some ad) m cap) (hm : m = ys.length)
    (hr : RowAt w (some ad) s ys.length (fun k => cc (nth ys k))) (h63 : xs.length + ys.length ≤ 140737488355328) (hbytes : (xs.length + ys.length) * bytes ≤ 140737488355328) (hx : Ext a0 w)
    (hK : ∀ v' w', Owns w' a0.heap.size e s cc v' (xs ++ ys) → Ext a0 w' → w.grownBy w' v.ownBlock → (v'.ownBlock = v.ownBlock ∨ v'.ownBlock = some w.heap.size) → K (a.put o.dst v') w') :
    if Region.wanted o (yielded ops a.tmps) = true then Oper.wp P o a w K Q else E := by
  subst hm
  have hw : Region.wanted o (yielded ops a.tmps) = true := by simp [Region.wanted, hg]
  rw [if_pos hw]
  obtain ⟨v', w', hrun, h2, h3, h4, h5⟩ := run_append_where (P := P) (cap := cap) t o.type e i z s bytes ht hi hz hsize hby hzs hsz h1 hown hr h63 hbytes hx
  unfold Oper.wp
  simp [execOp, ho, resolve, invoke, builtin, hs, hxv, hrun, Result.andThen]
  exact hK v' w' h2 h3 h4 h5
/-- the same, as a step of a region that draws its order -/
theorem step_append_form {K : Act → World → Prop} {E : Prop} (hg : o.guard = none) (s0 x : Operand) (t : TypeId)
    (ho : o.op = .call { callee := .builtin .append, args := #[s0, x], argTypes := #[t, t] }) (a0 : World)
    (e : TypeId) (i : TypeInfo) (z : Value) (s bytes : Nat) (ht : P.underlying t = some (.slice e)) (hi : P.info? e = some i) (hz : i.zero = some z)
    (hsize : i.size = s) (hby : i.bytes = bytes) (hzs : z.cells.size = s) (hsz : 0 < s) (cc : α → Nat → Value) (h1 : ∀ x j, j < s → (cc x j).oneCell' = true)
    (v : Value) (xs ys L : List α) (hL : Hid (L = xs ++ ys)) (hs : a.eval s0 = v) (hown : Owns w a0.heap.size e s cc v xs) (ad : Addr) (m cap : Nat) (hxv : a.eval x = .slice (some ad) m cap) (hm : m = ys.length)
    (hr : RowAt w (some ad) s ys.length (fun k => cc (nth ys k))) (h63 : xs.length + ys.length ≤ 140737488355328) (hbytes : (xs.length + ys.length) * bytes ≤ 140737488355328) (hx : Ext a0 w)
    (hK : ∀ go gc w', Owns w' a0.heap.size e s cc (.slice go L.length gc) L → Ext a0 w' → w.grownBy w' v.ownBlock → ((Value.slice go L.length gc).ownBlock = v.ownBlock ∨ (Value.slice go L.length gc).ownBlock = some w.heap.size) → K (a.put o.dst (.slice go L.length gc)) w') :
    if Region.wanted o (yielded ops a.tmps) = true then Oper.wp P o a w K Q else E := by
  refine step_append_apart hg s0 x t ho a0 e i z s bytes ht hi hz hsize hby hzs hsz cc h1 v xs ys hs hown ad m cap hxv hm hr h63 hbytes hx ?_
  intro v' w' ho1 hx1 hg hv
  obtain ⟨go, gc, hve, _⟩ := ho1.fresh
  have hL' : L = xs ++ ys := hL
  rw [← hL'] at ho1 hve
  rw [hve] at ho1 hv ⊢
  exact hK go gc w' ho1 hx1 hg hv
end

end Go.Proofs.YtckgjpaccgpdpaaGreatDoor
