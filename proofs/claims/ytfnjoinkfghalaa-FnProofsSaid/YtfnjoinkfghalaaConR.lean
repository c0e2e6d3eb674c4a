/-
  Proved here: rows of two numbers gathered in a slice of the call's own; the results of functions that hand back slices of slices.
  Conditions: none beyond those in each statement.
-/
import Derived.Test.YtfnjoinkfghalaaSS
import Derived.Test.YtfnjoinkfghalaaConPl
import Derived.Test.YtfnjoinkfghalaaForm
namespace Go.Proofs.Ytfnjoinkfghalaa
open Go.RowKit

theorem infoIntS : (Try.prog.info? 48).map (fun i => (i.zero, i.size, i.bytes)) = some (some (.slice none 0 0), 1, 24) := by kernel_rfl

theorem FreshG.congrL {B0 : Nat} {w : World} {ao : Option Addr} {n : Nat} {len len' : Nat → Nat} {f : Nat → Option Addr × Nat} {c c' : Nat → Nat → Nat → Value} (h : FreshG B0 w ao n len f c) (hl : ∀ k, k < n → len k = len' k) (hc : ∀ k, k < n → c k = c' k) : FreshG B0 w ao n len' f c' where
  outer := ⟨fun hn => by
    obtain ⟨b, off, e, H⟩ := h.outer.row hn
    exact ⟨b, off, e, fun k hk j hj => by rw [H k hk j hj]; show some (Value.slice (f k).fst (len k) (f k).snd) = _; rw [hl k hk]⟩, h.outer.base, h.outer.free⟩
  inner := fun k hk => by rw [← hl k hk, ← hc k hk]; exact h.inner k hk
  oi := h.oi
  ii := h.ii
/-- what is handed back: a slice of slices in new memory, a bool -/
def ResSS (w : World) (L : List (List Int)) (B : Bool) (e : Ending) (w' : World) : Prop := ∃ bo bc f, e = .returned (.tuple #[.slice bo L.length bc, .bool B]) ∧ Ext w w' ∧ FreshG w.heap.size w' bo L.length (lenL L) f (icL L)
theorem freshG_nil {B0 : Nat} {w : World} {ao : Option Addr} {len : Nat → Nat} {f : Nat → Option Addr × Nat} {c : Nat → Nat → Nat → Value} (h : FreshAt B0 w ao 1 0 (fun k _ => .slice (f k).1 (len k) (f k).2)) : FreshG B0 w ao 0 len f c := ⟨h, fun k hk => by omega, fun k hk => by omega, fun j k hj => by omega⟩

/-- a row's block -/
structure In2 (w : World) (x : Row2) : Prop where
  c0 : w.cell? ⟨x.blk, 0, none⟩ = some (.int .i64 x.r)
  c1 : w.cell? ⟨x.blk, 1, none⟩ = some (.int .i64 x.c)
  fr : ∀ j, w.frozen? ⟨x.blk, j, none⟩ = false
theorem In2.lt {w : World} {x : Row2} (h : In2 w x) : x.blk < w.heap.size := World.block_lt_of_cell? _ _ h.c0
theorem In2.ext {w w' : World} {x : Row2} (h : In2 w x) (hx : Ext w w') : In2 w' x := ⟨hx.cells h.c0, hx.cells h.c1, fun j => (hx.frozenr _ _ h.lt).trans (h.fr j)⟩
theorem In2.grown {w w' : World} {x : Row2} {g : Nat} (h : In2 w x) (hg : w.grownBy w' (some g)) (hne : x.blk ≠ g) : In2 w' x :=
  have hr : (some g : Option Nat) ≠ some x.blk := fun e => hne (Option.some.inj e).symm
  ⟨(grown_cell hg h.lt hr).trans h.c0, (grown_cell hg h.lt hr).trans h.c1, fun j => (grown_frozen hg h.lt hr).trans (h.fr j)⟩
theorem In2.row {w : World} {x : Row2} (h : In2 w x) : RowAt w (some ⟨x.blk, 0, none⟩) 1 x.l.length (ic x.l) := fun _ => ⟨_, _, rfl, fun k hk j hj => by
  obtain rfl : j = 0 := by omega
  match k, hk with
  | 0, _ => exact h.c0
  | 1, _ => exact h.c1⟩
theorem In2.of {w : World} {r c : Int} {T : TypeId} : In2 (w.alloc (.cells #[.int .i64 r, .int .i64 c] T)) ⟨w.heap.size, r, c⟩ := ⟨by go_simp, by go_simp, fun j => by go_simp⟩

/-- cells of a row -/
def rcc (x : Row2) (_ : Nat) : Value := x.v
theorem rcc_one : ∀ (x : Row2) (j : Nat), j < 1 → (rcc x j).oneCell' = true := fun _ _ _ => rfl
/-- rows gathered -/
structure StR (w wr : World) (g cap : Nat) (X : List Row2) : Prop where
  ext : Ext w wr
  own : Owns wr w.heap.size 48 1 rcc (.slice (some ⟨g, 0, none⟩) X.length cap) X
  inn : ∀ x, x ∈ X → In2 wr x ∧ w.heap.size ≤ x.blk ∧ x.blk ≠ g
  dist : X.Pairwise (fun a b => a.blk ≠ b.blk)
theorem own_g {w : World} {base e s n gc : Nat} {α : Type} {cc : α → Nat → Value} {go : Option Addr} {xs : List α} (h : Owns w base e s cc (.slice go n gc) xs) (h0 : 0 < xs.length) : ∃ g, go = some ⟨g, 0, none⟩ := by
  have h1 : w.ownsRow base e s (.slice go n gc) xs.length (fl s cc xs) := h
  rcases h1.2 with ⟨_, hn0⟩ | ⟨g, cap', cur, he, _⟩
  · omega
  · injection he with e1 e2 e3
    exact ⟨g, e1⟩
theorem StR.kept {w wr w' : World} {g cap : Nat} {X : List Row2} (h : StR w wr g cap X) (hx : Ext wr w') : StR w w' g cap X := ⟨h.ext.trans hx, h.own.ext' hx, fun x hm => ⟨(h.inn x hm).1.ext hx, (h.inn x hm).2⟩, h.dist⟩
theorem StR.push {w wr w2 w3 : World} {g cap gc : Nat} {go : Option Addr} {X L : List Row2} {x : Row2} (h : StR w wr g cap X) (hx : Ext wr w2) (hin : In2 w2 x) (hxb : wr.heap.size ≤ x.blk) (hL : L = X ++ [x])
    (ho : Owns w3 w.heap.size 48 1 rcc (.slice go L.length gc) L) (hb : Below w.heap.size w2 w3) (hg : w2.grownBy w3 (some g)) (hv : (Value.slice go L.length gc).ownBlock = some g ∨ (Value.slice go L.length gc).ownBlock = some w2.heap.size) : ∃ g', go = some ⟨g', 0, none⟩ ∧ StR w w3 g' gc L := by
  obtain ⟨g', rfl⟩ := own_g ho (by rw [hL]; simp)
  have hgl : g < wr.heap.size := (h.own : wr.ownsRow _ _ _ _ _ _).lt g rfl |>.2
  have hgx : x.blk ≠ g := by omega
  have hxl := hin.lt
  have hg' : g' = g ∨ g' = w2.heap.size := by
    rcases hv with e | e
    · exact .inl (Option.some.inj e)
    · exact .inr (Option.some.inj e)
  subst hL
  refine ⟨g', rfl, ?_, ho, fun y hy => ?_, ?_⟩
  · exact Ext.below (h.ext.trans hx) hb (Nat.le_refl _)
  · rw [List.mem_append, List.mem_singleton] at hy
    rcases hy with hy | hy
    · obtain ⟨h1, h2, h3⟩ := h.inn y hy
      refine ⟨(h1.ext hx).grown hg h3, h2, ?_⟩
      have := (h1.ext hx).lt
      omega
    · subst hy
      refine ⟨hin.grown hg hgx, by have := h.ext.size; omega, by omega⟩
  · rw [List.pairwise_append]
    refine ⟨h.dist, by simp, fun a ha b hb' => ?_⟩
    obtain rfl : b = x := by simpa using hb'
    have := (h.inn a ha).1.lt
    omega
theorem pw_nth {X : List Row2} (h : X.Pairwise (fun a b => a.blk ≠ b.blk)) {j k : Nat} (hj : j < X.length) (hk : k < X.length) (hne : j ≠ k) : (nth X j).blk ≠ (nth X k).blk := by
  have hat : ∀ i, (hi : i < X.length) → nth X i = X[i] := fun i hi => by simp [nth, hi]
  rw [hat j hj, hat k hk]
  rcases Nat.lt_or_gt_of_ne hne with h1 | h1
  · exact List.pairwise_iff_getElem.1 h j k hj hk h1
  · exact fun e => List.pairwise_iff_getElem.1 h k j hk hj h1 e.symm
/-- rows that lie in one block's first cells, each in a block of its own -/
theorem rows_fresh {B0 : Nat} {w : World} {g : Nat} {X : List Row2} (ho : FreshAt B0 w (some ⟨g, 0, none⟩) 1 X.length (fun k => rcc (nth X k))) (hin : ∀ x, x ∈ X → In2 w x ∧ B0 ≤ x.blk ∧ x.blk ≠ g) (hd : X.Pairwise (fun a b => a.blk ≠ b.blk)) :
    FreshG B0 w (some ⟨g, 0, none⟩) (X.map Row2.l).length (lenL (X.map Row2.l)) (fun k => (some ⟨(nth X k).blk, 0, none⟩, 2)) (icL (X.map Row2.l)) := by
  have hm : ∀ k, k < X.length → nth X k ∈ X := fun k hk => by simp [nth, hk]
  have hml : ∀ k, k < X.length → nth (X.map Row2.l) k = (nth X k).l := fun k hk => by simp [nth, hk]
  rw [List.length_map]
  have h0 : FreshG B0 w (some ⟨g, 0, none⟩) X.length (fun _ => 2) (fun k => (some ⟨(nth X k).blk, 0, none⟩, 2)) (fun k => ic (nth X k).l) := by
    refine ⟨ho, fun k hk => ?_, fun k hk a b ea eb => ?_, fun j k hj hk hne a b ea eb => ?_⟩
    · have h1 := hin _ (hm k hk)
      exact ⟨h1.1.row, fun a e => by injection e with e; subst e; exact ⟨h1.2.1, h1.1.lt⟩, fun b off e j => by injection e with e; injection e with e1 e2; subst e1; exact h1.1.fr j⟩
    · injection ea with ea
      injection eb with eb
      subst ea eb
      exact fun e => (hin _ (hm k hk)).2.2 e.symm
    · injection ea with ea
      injection eb with eb
      subst ea eb
      exact pw_nth hd hj hk hne
  exact h0.congrL (fun k hk => by show 2 = (nth (X.map Row2.l) k).length; rw [hml k hk]; rfl) (fun k hk => by show ic (nth X k).l = ic (nth (X.map Row2.l) k); rw [hml k hk])
theorem StR.fresh {w wr : World} {g cap : Nat} {X : List Row2} (h : StR w wr g cap X) : FreshG w.heap.size wr (some ⟨g, 0, none⟩) (X.map Row2.l).length (lenL (X.map Row2.l)) (fun k => (some ⟨(nth X k).blk, 0, none⟩, 2)) (icL (X.map Row2.l)) := by
  obtain ⟨ao, c, e, hF, _⟩ := h.own.fresh
  injection e with e1 e2 e3
  subst e1
  exact rows_fresh hF h.inn h.dist
theorem StR.start {w wr : World} (hx : Ext w wr) : StR w (wr.alloc (.cells #[] 48)) wr.heap.size 0 [] := ⟨hx.alloc _, Owns.start hx, fun x hm => by simp at hm, List.Pairwise.nil⟩

end Go.Proofs.Ytfnjoinkfghalaa
