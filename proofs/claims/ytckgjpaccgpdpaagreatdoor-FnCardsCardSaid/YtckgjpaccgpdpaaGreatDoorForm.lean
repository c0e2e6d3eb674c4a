/-
  Proved here: appends of rows to rows of the call's own, in memory from any number of blocks on, the new slice written out.
  Conditions: none beyond those in each statement.
-/
import Derived.Test.YtckgjpaccgpdpaaGreatDoorApart
namespace Go.Proofs.YtckgjpaccgpdpaaGreatDoor
open Go.RowKit

section
variable {α : Type} [Inhabited α] {P : Program} {w : World} {ops : Array Oper} {o : Oper} {a : Act} {Q : Exit → Act → World → Prop}

theorem run_append_whereB (t ty e : TypeId) (i : TypeInfo) (z : Value) (s bytes : Nat) (ht : P.underlying t = some (.slice e)) (hi : P.info? e = some i) (hz : i.zero = some z)
    (hsize : i.size = s) (hby : i.bytes = bytes) (hzs : z.cells.size = s) (hsz : 0 < s) {cc : α → Nat → Value} (h1 : ∀ x j, j < s → (cc x j).oneCell' = true) {base : Nat} (hb : base ≤ w.heap.size)
    {v : Value} {xs ys : List α} (hown : Owns w base e s cc v xs) {ad : Addr} {cap : Nat}
    (hr : RowAt w (some ad) s ys.length (fun k => cc (nth ys k))) (h63 : xs.length + ys.length ≤ 140737488355328) (hbytes : (xs.length + ys.length) * bytes ≤ 140737488355328) :
    ∃ v' w', (Builtin.append_ #[t, t] ty #[v, .slice (some ad) ys.length cap]).run P w = .ok v' w' ∧ Owns w' base e s cc v' (xs ++ ys) ∧ Below base w w' ∧ w.grownBy w' v.ownBlock ∧ (v'.ownBlock = v.ownBlock ∨ v'.ownBlock = some w.heap.size) := by
  have hown0 : w.ownsRow base e s v xs.length (fl s cc xs) := hown
  have hnews := rows_news hsz hr
  obtain ⟨v', w', h2, h3, h4, h5⟩ := run_append_own (P := P) w base t ty e i z s bytes ht hi hz hsize hby hzs hsz v xs.length (fl s cc xs) hown0 ad ys.length cap (fl s cc ys) (fl_length s cc ys) hnews (fl_one h1 ys)
    (by unfold maxLen; omega) hbytes hb
  refine ⟨v', w', h2, ?_, hown.low h4 hb, h4, ?_⟩
  · unfold Owns
    rw [fl_append, List.length_append]
    exact h3
  · subst hsize
    subst hby
    rcases hown0.2 with ⟨rfl, hn0⟩ | ⟨g, cap', cur, rfl, hbg, hg, hnc, hcm, hcs, htake⟩
    · by_cases hm : ys.length = 0
      · left
        rw [h5.2 ⟨rfl, hm⟩]
      · right
        have hr' := run_append_nil (P := P) w t ty e i z ht hi hz ad ys.length cap (fl i.size cc ys) (fl_length _ cc ys) hnews (by omega) (by omega) (by
          have hb := hbytes
          rw [hn0] at hb
          simp only [Nat.zero_add] at hb
          omega)
        rw [hr'] at h2
        injection h2 with e1 _
        rw [← e1]
        rfl
    · by_cases hroom : xs.length + ys.length ≤ cap'
      · left
        have hr' := run_append_room (P := P) w t ty e i ht hi g xs.length cap' cur hg ad ys.length cap (fl i.size cc ys) (fl_length _ cc ys) hnews (fl_one h1 ys) hroom (by rw [fl_length, hcs, ← Nat.add_mul]; exact Nat.mul_le_mul_right _ hroom)
        rw [hr'] at h2
        injection h2 with e1 _
        rw [← e1]
        rfl
      · right
        have hr' := run_append_grow (P := P) w t ty e i z ht hi hz ⟨g, 0, none⟩ xs.length cap' (fl i.size cc xs) hown0.1 (hown0.cells (g := g) rfl) ad ys.length cap (fl i.size cc ys) (fl_length _ cc ys) hnews (by omega) (by omega) (growslice_fits (by omega) hbytes)
        rw [hr'] at h2
        injection h2 with e1 _
        rw [← e1]
        rfl

/-- the form of a slice of the call's own -/
theorem Owns.shape {w : World} {base : Nat} {e : TypeId} {s : Nat} {cc : α → Nat → Value} {v : Value} {xs : List α} (h : Owns w base e s cc v xs) : ∃ go gc, v = .slice go xs.length gc := by
  obtain ⟨go, gc, hv, _⟩ := h.fresh
  exact ⟨go, gc, hv⟩

/-- a law of the walk -/
theorem wpList_append_bf {rest : List Oper} (hgd : o.guard = none) (s0 x : Operand) (t : TypeId)
    (ho : o.op = .call { callee := .builtin .append, args := #[s0, x], argTypes := #[t, t] })
    (e : TypeId) (i : TypeInfo) (z : Value) (s bytes : Nat) (ht : P.underlying t = some (.slice e)) (hi : P.info? e = some i) (hz : i.zero = some z)
    (hsize : i.size = s) (hby : i.bytes = bytes) (hzs : z.cells.size = s) (hsz : 0 < s) (cc : α → Nat → Value) (h1 : ∀ x j, j < s → (cc x j).oneCell' = true) (base : Nat) (hb : base ≤ w.heap.size)
    (v : Value) (xs ys L : List α) (hL : Hid (L = xs ++ ys)) (hs : a.eval s0 = v) (hown : Owns w base e s cc v xs) (ad : Addr) (m cap : Nat) (hxv : a.eval x = .slice (some ad) m cap) (hm : m = ys.length)
    (hr : RowAt w (some ad) s ys.length (fun k => cc (nth ys k))) (h63 : xs.length + ys.length ≤ 140737488355328) (hbytes : (xs.length + ys.length) * bytes ≤ 140737488355328)
    (h : ∀ go gc w', Owns w' base e s cc (.slice go L.length gc) L → Below base w w' → w.grownBy w' v.ownBlock → Hid ((Value.slice go L.length gc).ownBlock = v.ownBlock ∨ (Value.slice go L.length gc).ownBlock = some w.heap.size) → wpList P ops Q rest (a.put o.dst (.slice go L.length gc)) w') : wpList P ops Q (o :: rest) a w := by
  subst hm
  refine wpList_plain hgd fun K hK => ?_
  obtain ⟨v', w', hrun, h2, h3, h4, h5⟩ := run_append_whereB (P := P) (cap := cap) t o.type e i z s bytes ht hi hz hsize hby hzs hsz h1 hb hown hr h63 hbytes
  obtain ⟨go, gc, hve⟩ := h2.shape
  have hL' : L = xs ++ ys := hL
  rw [← hL'] at h2 hve
  rw [hve] at h2 h5 hrun
  unfold Oper.wp
  simp [execOp, ho, resolve, invoke, builtin, hs, hxv, hrun, Result.andThen]
  exact hK _ _ (h go gc w' h2 h3 h4 h5)

/-- a step of a region that draws its order -/
theorem step_append_bf {K : Act → World → Prop} {E : Prop} (hg : o.guard = none) (s0 x : Operand) (t : TypeId)
    (ho : o.op = .call { callee := .builtin .append, args := #[s0, x], argTypes := #[t, t] })
    (e : TypeId) (i : TypeInfo) (z : Value) (s bytes : Nat) (ht : P.underlying t = some (.slice e)) (hi : P.info? e = some i) (hz : i.zero = some z)
    (hsize : i.size = s) (hby : i.bytes = bytes) (hzs : z.cells.size = s) (hsz : 0 < s) (cc : α → Nat → Value) (h1 : ∀ x j, j < s → (cc x j).oneCell' = true) (base : Nat) (hb : base ≤ w.heap.size)
    (v : Value) (xs ys L : List α) (hL : Hid (L = xs ++ ys)) (hs : a.eval s0 = v) (hown : Owns w base e s cc v xs) (ad : Addr) (m cap : Nat) (hxv : a.eval x = .slice (some ad) m cap) (hm : m = ys.length)
    (hr : RowAt w (some ad) s ys.length (fun k => cc (nth ys k))) (h63 : xs.length + ys.length ≤ 140737488355328) (hbytes : (xs.length + ys.length) * bytes ≤ 140737488355328)
    (hK : ∀ go gc w', Owns w' base e s cc (.slice go L.length gc) L → Below base w w' → w.grownBy w' v.ownBlock → Hid ((Value.slice go L.length gc).ownBlock = v.ownBlock ∨ (Value.slice go L.length gc).ownBlock = some w.heap.size) → K (a.put o.dst (.slice go L.length gc)) w') :
    if Region.wanted o (yielded ops a.tmps) = true then Oper.wp P o a w K Q else E := by
  subst hm
  have hw : Region.wanted o (yielded ops a.tmps) = true := by simp [Region.wanted, hg]
  rw [if_pos hw]
  obtain ⟨v', w', hrun, h2, h3, h4, h5⟩ := run_append_whereB (P := P) (cap := cap) t o.type e i z s bytes ht hi hz hsize hby hzs hsz h1 hb hown hr h63 hbytes
  obtain ⟨go, gc, hve⟩ := h2.shape
  have hL' : L = xs ++ ys := hL
  rw [← hL'] at h2 hve
  rw [hve] at h2 h5 hrun
  unfold Oper.wp
  simp [execOp, ho, resolve, invoke, builtin, hs, hxv, hrun, Result.andThen]
  exact hK go gc w' h2 h3 h4 h5
end

/-- A struct result's cells, zero. -/
structure Res4 (w : World) (B : Nat) : Prop where
  c0 : w.cell? ⟨B, 0, none⟩ = some (.int .i64 0)
  c1 : w.cell? ⟨B, 1, none⟩ = some (.int .i64 0)
  c2 : w.cell? ⟨B, 2, none⟩ = some (.int .i64 0)
  c3 : w.cell? ⟨B, 3, none⟩ = some (.slice none 0 0)
  fz : ∀ j, w.frozen? ⟨B, j, none⟩ = false
theorem Res4.lt {w : World} {B : Nat} (h : Res4 w B) : B < w.heap.size := World.block_lt_of_cell? _ _ h.c0
theorem Res4.ext {w w' : World} {B : Nat} (h : Res4 w B) (hx : Ext w w') : Res4 w' B := ⟨hx.cells h.c0, hx.cells h.c1, hx.cells h.c2, hx.cells h.c3, fun j => (hx.frozenr _ _ h.lt).trans (h.fz j)⟩
theorem Res4.of {w w' : World} {T : TypeId} (hx : Ext (w.alloc (.cells #[.int .i64 0, .int .i64 0, .int .i64 0, .slice none 0 0] T)) w') : Res4 w' w.heap.size :=
  ⟨hx.cells (by go_simp), hx.cells (by go_simp), hx.cells (by go_simp), hx.cells (by go_simp), fun j => (hx.frozenr _ _ (by simp)).trans (by go_simp)⟩
theorem Res4.put {w : World} {B : Nat} (h : Res4 w B) {p : Addr} (hp : p.block ≠ B) (u : Value) : Res4 (w.setCell p u) B :=
  have k : ∀ o, (w.setCell p u).cell? ⟨B, o, none⟩ = w.cell? ⟨B, o, none⟩ := fun o => World.cell?_setCell_other _ _ _ _ (fun e => hp (by rw [e]))
  ⟨(k 0).trans h.c0, (k 1).trans h.c1, (k 2).trans h.c2, (k 3).trans h.c3, fun j => by rw [World.frozen?_setCell]; exact h.fz j⟩
/-- no slice -/
theorem fresh_nil {B0 : Nat} {w : World} {s : Nat} {c : Nat → Nat → Value} : FreshAt B0 w none s 0 c := ⟨fun hn => by omega, fun a e => (by cases e), fun b off e => (by cases e)⟩

end Go.Proofs.YtckgjpaccgpdpaaGreatDoor
