/-
  Proved here: a made slice of growing slices of ints.
  Conditions: none beyond those in each statement.
-/
import Derived.Test.YtpafiongiffakaaSS2
import Derived.Test.YtpafiongiffakaaSeed1
namespace Go.Proofs.Ytpafiongiffakaa
open Go.RowKit

/-- a row that is kept where another block is written -/
theorem Owns.grownO {α : Type} {w w' : World} {base : Nat} {e : TypeId} {s : Nat} {cc : α → Nat → Value} {v : Value} {xs : List α} {row : Option Nat} (h : Owns w base e s cc v xs) (hg : w.grownBy w' row) (hr : ∀ b, v.ownBlock = some b → row ≠ some b) : Owns w' base e s cc v xs := by
  have h0 : w.ownsRow base e s v xs.length (fl s cc xs) := h
  refine ⟨h0.1, ?_⟩
  rcases h0.2 with hn | ⟨g, cap, cur, e1, e2, e3, e4, e5, e6, e7⟩
  · exact .inl hn
  · refine .inr ⟨g, cap, cur, e1, e2, ?_, e4, e5, e6, e7⟩
    have hl : g < w.heap.size := by
      rcases Nat.lt_or_ge g w.heap.size with h1 | h1
      · exact h1
      · rw [Array.getElem?_eq_none h1] at e3; cases e3
    rw [hg.block g hl (fun q => hr g (by rw [e1]; rfl) q.symm)]
    exact e3

/-- slices of ints that grow, in block O's first cells -/
structure StG (w wr : World) (O h : Nat) (f : Nat → Option Addr × Nat) (R : List (List Int)) : Prop where
  ext : Ext w wr
  base : w.heap.size ≤ O
  size : O < wr.heap.size
  len : R.length = h
  cell : ∀ k, k < h → wr.cell? ⟨O, k, none⟩ = some (.slice (f k).1 (nth R k).length (f k).2)
  free : ∀ j, wr.frozen? ⟨O, j, none⟩ = false
  own : ∀ k, k < h → Owns wr (O + 1) 3 1 icc (.slice (f k).1 (nth R k).length (f k).2) (nth R k)
  ii : ∀ j k, j < h → k < h → j ≠ k → ∀ a b, (f j).1 = some a → (f k).1 = some b → a.block ≠ b.block
theorem own_of_some {w : World} {base n cap : Nat} {e : TypeId} {s : Nat} {α : Type} {cc : α → Nat → Value} {a : Addr} {xs : List α} (h : Owns w base e s cc (.slice (some a) n cap) xs) : base ≤ a.block ∧ a.block < w.heap.size := by
  have h0 : w.ownsRow base e s (.slice (some a) n cap) xs.length (fl s cc xs) := h
  exact h0.lt a.block rfl
theorem StG.kept {w wr w' : World} {O h : Nat} {f : Nat → Option Addr × Nat} {R : List (List Int)} (hS : StG w wr O h f R) (hx : Ext wr w') : StG w w' O h f R where
  ext := hS.ext.trans hx
  base := hS.base
  size := Nat.lt_of_lt_of_le hS.size hx.size
  len := hS.len
  cell := fun k hk => hx.cells (hS.cell k hk)
  free := fun j => (hx.frozenr _ _ hS.size).trans (hS.free j)
  own := fun k hk => (hS.own k hk).ext' hx
  ii := hS.ii
theorem StG.push {w wr w2 w4 : World} {O h k gc : Nat} {f : Nat → Option Addr × Nat} {R : List (List Int)} {go : Option Addr} {L : List Int} (hS : StG w wr O h f R) (hk : k < h) (hx : Ext wr w2)
    (ho : Owns w4 (O + 1) 3 1 icc (.slice go L.length gc) L) (hb : Below (O + 1) w2 w4) (hg : w2.grownBy w4 (Value.slice (f k).1 (nth R k).length (f k).2).ownBlock)
    (hv : (Value.slice go L.length gc).ownBlock = (Value.slice (f k).1 (nth R k).length (f k).2).ownBlock ∨ (Value.slice go L.length gc).ownBlock = some w2.heap.size) :
    StG w (w4.setCell ⟨O, k, none⟩ (.slice go L.length gc)) O h (fun j => if j = k then (go, gc) else f j) (R.set k L) := by
  have hO2 := Nat.lt_of_lt_of_le hS.size hx.size
  have hS4 := hb.size
  have hR := hS.len
  have hcell4 : ∀ o, w4.cell? ⟨O, o, none⟩ = w2.cell? ⟨O, o, none⟩ := fun o => Below.cell hb (p := ⟨O, o, none⟩) (Nat.lt_succ_self _)
  have hfr4 : ∀ o, w4.frozen? ⟨O, o, none⟩ = w2.frozen? ⟨O, o, none⟩ := fun o => Below.frozen hb (p := ⟨O, o, none⟩) (Nat.lt_succ_self _)
  have hblk : ∀ a, go = some a → ∀ j b, j < h → j ≠ k → (f j).1 = some b → a.block ≠ b.block := fun a ea j b hj hne eb => by
    subst ea
    have hbj : b.block < wr.heap.size := (own_of_some (a := b) (by rw [← eb]; exact hS.own j hj)).2
    have hbs := hx.size
    rcases hv with e | e
    · have e' : some a.block = (Value.slice (f k).1 (nth R k).length (f k).2).ownBlock := e
      cases hfk : (f k).1 with
      | none => rw [hfk] at e'; cases e'
      | some c =>
        rw [hfk] at e'
        have e2 : a.block = c.block := Option.some.inj e'
        rw [e2]
        exact hS.ii k j hk hj (fun q => hne q.symm) c b hfk eb
    · have e2 : a.block = w2.heap.size := Option.some.inj e
      omega
  have hcur : ∃ u, w4.cell? ⟨O, k, none⟩ = some u := ⟨_, (hcell4 k).trans (hx.cells (hS.cell k hk))⟩
  obtain ⟨u, hu⟩ := hcur
  refine ⟨?_, hS.base, by simp only [World.setCell, Array.size_modify]; omega, by simp [hR], fun j hj => ?_, fun j => ?_, fun j hj => ?_, fun i j hi hj hne a b ea eb => ?_⟩
  · exact (Ext.below (hS.ext.trans hx) hb (by have := hS.base; omega)).setCell hS.base _
  · by_cases e : j = k
    · subst e
      simp only [if_true]
      rw [World.cell?_setCell_same _ _ _ hu, nth_set (by omega), if_pos rfl]
    · simp only [if_neg e]
      rw [World.cell?_setCell_other _ _ _ _ (fun q => e (by injection q with _ q; exact q.symm)), hcell4, nth_set (by omega), if_neg (fun q => e q.symm)]
      exact hx.cells (hS.cell j hj)
  · rw [World.frozen?_setCell, hfr4]
    exact (hx.frozenr _ _ hS.size).trans (hS.free j)
  · by_cases e : j = k
    · subst e
      simp only [if_true]
      rw [nth_set (by omega), if_pos rfl]
      exact ho.put (by show O < O + 1; omega) _
    · simp only [if_neg e]
      rw [nth_set (by omega), if_neg (fun q => e q.symm)]
      refine (((hS.own j hj).ext' hx).grownO hg (fun b eb q => ?_)).put (by show O < O + 1; omega) _
      cases hfj : (f j).1 with
      | none => rw [hfj] at eb; cases eb
      | some c =>
        rw [hfj] at eb
        have e2 : c.block = b := Option.some.inj eb
        cases hfk : (f k).1 with
        | none => rw [hfk] at q; cases q
        | some d =>
          rw [hfk] at q
          have e3 : d.block = b := Option.some.inj q
          exact hS.ii j k hj hk e c d hfj hfk (e2.trans e3.symm)
  · by_cases e1 : i = k
    · subst e1
      simp only [if_true] at ea
      have e2 : j ≠ i := fun q => hne q.symm
      simp only [if_neg e2] at eb
      exact hblk a ea j b hj e2 eb
    · simp only [if_neg e1] at ea
      by_cases e2 : j = k
      · subst e2
        simp only [if_true] at eb
        exact fun q => hblk b eb i a hi e1 ea q.symm
      · simp only [if_neg e2] at eb
        exact hS.ii i j hi hj hne a b ea eb
theorem StG.start {w w0 w1 : World} {n : Nat} {h : Nat} (hx : Ext w w0) (hown : w1.ownsRow w0.heap.size 22 1 (.slice (some ⟨w0.heap.size, 0, none⟩) n n) n (madeCells #[.slice none 0 0] (n * 1)).toList) (hg : w0.grownBy w1 none) (hh : h = n) : StG w w1 w0.heap.size h (fun _ => (none, 0)) (List.replicate h []) := by
  subst hh
  have hs := (hown.lt _ rfl).2
  have hat : ∀ k, k < h → nth (List.replicate h ([] : List Int)) k = [] := fun k hk => by simp [nth, hk]
  refine ⟨hx.trans ((Below.refl _ _).grown hg (Nat.le_refl _) (fun k hk => by cases hk)), hx.size, hs, by simp, fun k hk => ?_, fun j => hown.frozenAt j, fun k hk => ?_, fun j k _ _ _ a b ea => by cases ea⟩
  · rw [hat k hk]
    have := hown.cellAt k (by omega)
    rw [this]
    simp [madeCells, hk, Nat.mod_one]
  · rw [hat k hk]; exact Owns.nil
theorem StG.fresh {w wr : World} {O h : Nat} {f : Nat → Option Addr × Nat} {R : List (List Int)} (hS : StG w wr O h f R) : FreshG w.heap.size wr (some ⟨O, 0, none⟩) R.length (lenL R) f (icL R) := by
  have hb := hS.base
  rw [hS.len]
  refine ⟨⟨fun _ => ⟨O, 0, rfl, fun k hk j hj => ?_⟩, fun a e => by injection e with e; subst e; exact ⟨hb, hS.size⟩, fun b off e j => by injection e with e; injection e with e1 e2; subst e1; exact hS.free j⟩, fun k hk => ?_, fun k hk a b ea eb => ?_, hS.ii⟩
  · obtain rfl : j = 0 := by omega
    rw [show 0 + k * 1 + 0 = k by omega]
    exact hS.cell k hk
  · obtain ⟨ao, cap, e, hF, _⟩ := (hS.own k hk).fresh
    injection e with e1 e2 e3
    rw [e1]
    exact hF.mono (by omega)
  · injection ea with ea
    subst ea
    have := (own_of_some (a := b) (by rw [← eb]; exact hS.own k hk)).1
    show O ≠ b.block
    omega

end Go.Proofs.Ytpafiongiffakaa
