/-
  Proved here: teams gathered in a slice of the call's own, their legs in slices of the call's own.
  Conditions: none beyond those in each statement.
-/
import Derived.Test.YtlpogglcbphilaaTmV
import Derived.Test.YtlpogglcbphilaaForm
import Derived.Test.YtlpogglcbphilaaCur2
namespace Go.Proofs.Ytlpogglcbphilaa
open Go.RowKit

/-- a row that is kept where another block is written -/
theorem Owns.grownO {α : Type} {w w' : World} {base : Nat} {e : TypeId} {s : Nat} {cc : α → Nat → Value} {v : Value} {xs : List α} {row : Option Nat} (h : Owns w base e s cc v xs) (hg : w.grownBy w' row) (hr : ∀ b, v.ownBlock = some b → row ≠ some b) : Owns w' base e s cc v xs := by
  have h0 : w.ownsRow base e s v xs.length (fl s cc xs) := h
  refine ⟨h0.1, ?_⟩
  rcases h0.2 with hn | ⟨g, cap, cur, e1, e2, e3, e4, e5, e6, e7⟩
  · exact .inl hn
  · refine .inr ⟨g, cap, cur, e1, e2, ?_, e4, e5, e6, e7⟩
    have hl : g < w.heap.size := by
      rcases Nat.lt_or_ge g w.heap.size with h1 | h1
      · exact h1
      · rw [Array.getElem?_eq_none h1] at e3; cases e3
    rw [hg.block g hl (fun q => hr g (by rw [e1]; rfl) q.symm)]
    exact e3
theorem own_of_some {w : World} {base n cap : Nat} {e : TypeId} {s : Nat} {α : Type} {cc : α → Nat → Value} {a : Addr} {xs : List α} (h : Owns w base e s cc (.slice (some a) n cap) xs) : base ≤ a.block ∧ a.block < w.heap.size := by
  have h0 : w.ownsRow base e s (.slice (some a) n cap) xs.length (fl s cc xs) := h
  exact h0.lt a.block rfl
theorem own_block {w : World} {base : Nat} {e : TypeId} {s : Nat} {α : Type} {cc : α → Nat → Value} {v : Value} {xs : List α} {k : Nat} (h : Owns w base e s cc v xs) (hk : v.ownBlock = some k) : base ≤ k ∧ k < w.heap.size := by
  have h0 : w.ownsRow base e s v xs.length (fl s cc xs) := h
  exact h0.lt k hk

theorem Owns.mono {α : Type} {w : World} {base base' : Nat} {e : TypeId} {s : Nat} {cc : α → Nat → Value} {v : Value} {xs : List α} (h : Owns w base e s cc v xs) (hb : base' ≤ base) : Owns w base' e s cc v xs := by
  have h0 : w.ownsRow base e s v xs.length (fl s cc xs) := h
  refine ⟨h0.1, ?_⟩
  rcases h0.2 with hn | ⟨g, cap, cur, e1, e2, e3⟩
  · exact .inl hn
  · exact .inr ⟨g, cap, cur, e1, Nat.le_trans hb e2, e3⟩
def TmV.leg (x : TmV) : Value := .slice x.a x.t.legs.length x.ac
/-- no block in common -/
def sepT (x y : TmV) : Prop := ∀ b, x.leg.ownBlock = some b → y.leg.ownBlock ≠ some b
structure OwnT (wr : World) (base : Nat) (v : Value) (vs : List TmV) : Prop where
  own : Owns wr base 51 2 TmV.c v vs
  inn : ∀ x, x ∈ vs → Owns wr base 3 1 icc x.leg x.t.legs ∧ (∀ b, x.leg.ownBlock = some b → v.ownBlock ≠ some b) ∧ x.a ≠ none
  dist : vs.Pairwise sepT
theorem OwnT.ext {wr w' : World} {base : Nat} {v : Value} {vs : List TmV} (h : OwnT wr base v vs) (hx : Ext wr w') : OwnT w' base v vs := ⟨h.own.ext' hx, fun x hm => ⟨(h.inn x hm).1.ext' hx, (h.inn x hm).2⟩, h.dist⟩
theorem OwnT.cur {w w' : World} {base B : Nat} {v : Value} {vs : List TmV} (h : OwnT w base v vs) (ht : Touch w w' (Span B (B + 1))) (hB : B < base) : OwnT w' base v vs := ⟨h.own.cur ht hB, fun x hm => ⟨(h.inn x hm).1.cur ht hB, (h.inn x hm).2⟩, h.dist⟩
theorem OwnT.start {w : World} {base : Nat} (hb : base ≤ w.heap.size) : OwnT (w.alloc (.cells #[] 51)) base (.slice (some ⟨w.heap.size, 0, none⟩) 0 0) [] := ⟨Owns.start' hb, fun x hm => by simp at hm, List.Pairwise.nil⟩
theorem OwnT.push {wr w2 w4 : World} {base : Nat} {v v4 : Value} {vs : List TmV} {x : TmV} (h : OwnT wr base v vs) (hx : Ext wr w2) (hleg : Owns w2 base 3 1 icc x.leg x.t.legs) (hsm : x.a ≠ none) (hfr : ∀ b, x.leg.ownBlock = some b → wr.heap.size ≤ b)
    (ho : Owns w4 base 51 2 TmV.c v4 (vs ++ [x])) (hg : w2.grownBy w4 v.ownBlock) (hv : v4.ownBlock = v.ownBlock ∨ v4.ownBlock = some w2.heap.size) : OwnT w4 base v4 (vs ++ [x]) := by
  have hsz := hx.size
  have hne : ∀ b, x.leg.ownBlock = some b → v.ownBlock ≠ some b := fun b hb e => by
    have h1 := (own_block h.own e).2
    have h2 := hfr b hb
    omega
  refine ⟨ho, fun y hy => ?_, ?_⟩
  · rw [List.mem_append, List.mem_singleton] at hy
    rcases hy with hy | hy
    · obtain ⟨h1, h2, h4⟩ := h.inn y hy
      refine ⟨(h1.ext' hx).grownO hg (fun b hb => h2 b hb), fun b hb e => ?_, h4⟩
      rcases hv with hv | hv
      · exact h2 b hb (hv ▸ e)
      · have h3 := (own_block h1 hb).2
        rw [hv] at e
        have e2 : w2.heap.size = b := Option.some.inj e
        omega
    · subst hy
      refine ⟨hleg.grownO hg (fun b hb => hne b hb), fun b hb e => ?_, hsm⟩
      rcases hv with hv | hv
      · exact hne b hb (hv ▸ e)
      · have h3 := (own_block hleg hb).2
        rw [hv] at e
        have e2 : w2.heap.size = b := Option.some.inj e
        omega
  · rw [List.pairwise_append]
    refine ⟨h.dist, by simp, fun a ha b hb => ?_⟩
    obtain rfl : b = x := by simpa using hb
    intro k hk e
    have h1 := (own_block (h.inn a ha).1 hk).2
    have h2 := hfr k e
    omega
theorem OwnT.form {wr : World} {base : Nat} {v : Value} {vs : List TmV} (h : OwnT wr base v vs) : ∃ ao cap, v = .slice ao vs.length cap ∧ (ao = none → cap = 0) ∧ vs.length ≤ cap ∧ FreshAt base wr ao 2 vs.length (fun k => (nth vs k).c) := by
  obtain ⟨ao, cap, e, hF, h1, h2, h3⟩ := h.own.fresh
  exact ⟨ao, cap, e, h1, h2, hF⟩
theorem OwnT.ok {wr : World} {base : Nat} {v : Value} {vs : List TmV} (h : OwnT wr base v vs) {x : TmV} (hx : x ∈ vs) : x.ok wr := by
  obtain ⟨ao, cap, e, hF, h1, h2, h3⟩ := (h.inn x hx).1.fresh
  injection e with e1 e2 e3
  unfold maxLen at h3
  exact ⟨by rw [e1]; exact hF.row, by omega, by omega⟩
theorem OwnT.row {wr : World} {base : Nat} {ao : Option Addr} {cap : Nat} {vs : List TmV} (h : OwnT wr base (.slice ao vs.length cap) vs) : GRow wr ao 2 (vs.map TmV.t).length (tsC (vs.map TmV.t)) := by
  obtain ⟨ao', cap', e, _, _, hF⟩ := h.form
  injection e with e1 e2 e3
  subst e1
  rw [List.length_map]
  intro hn
  obtain ⟨b, off, e, H⟩ := hF.row hn
  refine ⟨b, off, e, fun k hk j hj => ?_⟩
  have hm : nth vs k ∈ vs := by simp [nth, hk]
  have hk2 : nth (vs.map TmV.t) k = (nth vs k).t := by simp [nth, hk]
  have hok := h.ok hm
  have hc := H k hk j hj
  match j, hj with
  | 0, _ => simpa [CellIs, tsC, TeamD.cd, hk2, TmV.c] using hc
  | 1, _ => exact ⟨(nth vs k).a, (nth vs k).ac, by rw [hk2]; exact hc, by rw [hk2]; exact hok.1, by rw [hk2]; exact hok.2.1, by rw [hk2]; exact hok.2.2⟩

end Go.Proofs.Ytlpogglcbphilaa
