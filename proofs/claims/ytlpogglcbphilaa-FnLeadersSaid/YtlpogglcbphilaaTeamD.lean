/-
  Proved here: teams drawn from a cursor: how a team is made and put to the others.
  Conditions: those in each statement.
-/
import Derived.Test.YtlpogglcbphilaaAddLeg3
import Derived.Test.YtlpogglcbphilaaCurL
import Derived.Test.YtlpogglcbphilaaCopy
namespace Go.Proofs.Ytlpogglcbphilaa
open Go.RowKit

theorem OwnT.pushC {wr w2 w4 : World} {base : Nat} {v v4 : Value} {vs : List TmV} {x : TmV} (h0 : OwnT wr base v vs) (h : OwnT w2 base v vs) (hleg : Owns w2 base 3 1 icc x.leg x.t.legs) (hsm : x.a ≠ none) (hfr : ∀ b, x.leg.ownBlock = some b → wr.heap.size ≤ b)
    (ho : Owns w4 base 51 2 TmV.c v4 (vs ++ [x])) (hg : w2.grownBy w4 v.ownBlock) (hv : v4.ownBlock = v.ownBlock ∨ v4.ownBlock = some w2.heap.size) : OwnT w4 base v4 (vs ++ [x]) := by
  have hne : ∀ b, x.leg.ownBlock = some b → v.ownBlock ≠ some b := fun b hb e => by
    have h1 := (own_block h0.own e).2
    have h2 := hfr b hb
    omega
  refine ⟨ho, fun y hy => ?_, ?_⟩
  · rw [List.mem_append, List.mem_singleton] at hy
    rcases hy with hy | hy
    · obtain ⟨h1, h2, h4⟩ := h.inn y hy
      refine ⟨h1.grownO hg (fun b hb => h2 b hb), fun b hb e => ?_, h4⟩
      rcases hv with hv | hv
      · exact h2 b hb (hv ▸ e)
      · have h3 := (own_block h1 hb).2
        rw [hv] at e
        have e2 : w2.heap.size = b := Option.some.inj e
        omega
    · subst hy
      refine ⟨hleg.grownO hg (fun b hb => hne b hb), fun b hb e => ?_, hsm⟩
      rcases hv with hv | hv
      · exact hne b hb (hv ▸ e)
      · have h3 := (own_block hleg hb).2
        rw [hv] at e
        have e2 : w2.heap.size = b := Option.some.inj e
        omega
  · rw [List.pairwise_append]
    refine ⟨h.dist, by simp, fun a ha b hb => ?_⟩
    obtain rfl : b = x := by simpa using hb
    intro k hk e
    have h1 := (own_block (h0.inn a ha).1 hk).2
    have h2 := hfr k e
    omega

theorem own_one {w : World} {base : Nat} {e : TypeId} {x : Int} (hb : base ≤ w.heap.size) : Owns (w.alloc (.cells #[.int .i64 x] e)) base e 1 icc (.slice (some ⟨w.heap.size, 0, none⟩) 1 1) [x] := by
  have := World.ownsRow_lit (base := base) (e := e) (size := 1) w #[.int .i64 x] 1 hb (by decide) (by simp)
  simpa [Owns, fl, icc] using this
/-- a team being drawn: its box X, its legs; both lie from block lo on -/
structure BoxD (wd : World) (lo X : Nat) (num : Int) (g : Nat) (c : Nat) (lg : List Int) : Prop where
  c0 : wd.cell? ⟨X, 0, none⟩ = some (.int .i64 num)
  c1 : wd.cell? ⟨X, 1, none⟩ = some (.slice (some ⟨g, 0, none⟩) lg.length c)
  fr : ∀ j, wd.frozen? ⟨X, j, none⟩ = false
  low : lo ≤ X
  own : Owns wd lo 3 1 icc (.slice (some ⟨g, 0, none⟩) lg.length c) lg
  ne : g ≠ X
section
variable {wd w' : World} {B lo X : Nat} {num : Int} {g : Nat} {c : Nat} {lg : List Int}
theorem BoxD.lt (h : BoxD wd lo X num g c lg) : X < wd.heap.size := World.block_lt_of_cell? _ _ h.c0
theorem BoxD.ext (h : BoxD wd lo X num g c lg) (hx : Ext wd w') : BoxD w' lo X num g c lg :=
  ⟨hx.cells h.c0, hx.cells h.c1, fun j => (hx.frozenr _ _ h.lt).trans (h.fr j), h.low, h.own.ext' hx, h.ne⟩
theorem BoxD.curs (h : BoxD wd lo X num g c lg) (ht : Touch wd w' (Span B (B + 1))) (hB : B < lo) : BoxD w' lo X num g c lg := by
  have hlo := h.low
  have hX := h.lt
  have nf : ¬ Span B (B + 1) X := fun hs => by have h1 := hs.1; have h2 := hs.2; omega
  exact ⟨(ht.cell hX nf).trans h.c0, (ht.cell hX nf).trans h.c1, fun j => (ht.frozen hX nf).trans (h.fr j), h.low, h.own.cur ht hB, h.ne⟩
theorem BoxD.start {wr : World} {num : Int} {T : TypeId} : BoxD ((wr.alloc (.cells #[] 3)).alloc (.cells #[.int .i64 num, .slice (some ⟨wr.heap.size, 0, none⟩) 0 0] T)) wr.heap.size (wr.heap.size + 1) num wr.heap.size 0 [] := by
  have h := BoxT.of1 (wr := wr) (T := T) (num := num) (lg := []) (c := 0) (g := ⟨wr.heap.size, 0, none⟩) ((Ext.refl wr).alloc (.cells #[] 3)) (Owns.start' (e := 3) (s := 1) (cc := icc) (Nat.le_refl wr.heap.size)) (Nat.le_refl _)
  rw [World.size_alloc] at h
  exact ⟨h.c0, h.c1, h.fr, h.lo, h.own, h.ne⟩
/-- behind an append to the legs, ahead of the store -/
theorem BoxD.mid (h : BoxD wd lo X num g c lg) (hg : wd.grownBy w' (Value.slice (some ⟨g, 0, none⟩) lg.length c).ownBlock) :
    w'.cell? ⟨X, 0, none⟩ = some (.int .i64 num) ∧ w'.cell? ⟨X, 1, none⟩ = some (.slice (some ⟨g, 0, none⟩) lg.length c) ∧ (∀ j, w'.frozen? ⟨X, j, none⟩ = false) ∧ X < w'.heap.size := by
  have hne : (Value.slice (some ⟨g, 0, none⟩) lg.length c).ownBlock ≠ some X := fun e => h.ne (Option.some.inj e)
  have c0 := (grown_cell (o := 0) hg h.lt hne).trans h.c0
  exact ⟨c0, (grown_cell (o := 1) hg h.lt hne).trans h.c1, fun j => (grown_frozen (o := j) hg h.lt hne).trans (h.fr j), World.block_lt_of_cell? _ _ c0⟩
theorem BoxD.push (h : BoxD wd lo X num g c lg) {L : List Int} {go : Option Addr} {gc : Nat} (hL : 0 < L.length) (hg : wd.grownBy w' (Value.slice (some ⟨g, 0, none⟩) lg.length c).ownBlock) (ho : Owns w' lo 3 1 icc (.slice go L.length gc) L)
    (hv : Hid ((Value.slice go L.length gc).ownBlock = (Value.slice (some ⟨g, 0, none⟩) lg.length c).ownBlock ∨ (Value.slice go L.length gc).ownBlock = some wd.heap.size)) :
    ∃ g2, go = some ⟨g2, 0, none⟩ ∧ BoxD (w'.setCell ⟨X, 1, none⟩ (.slice go L.length gc)) lo X num g2 gc L := by
  obtain ⟨ao, cap, e, hF, _⟩ := ho.fresh
  injection e with e1 _ e3
  subst e1 e3
  obtain ⟨b, off, e2, _⟩ := hF.row hL
  subst e2
  have hoff := own_addr ho
  injection hoff with _ hoff
  subst hoff
  have hm := h.mid hg
  have hgX : b ≠ X := by
    have hv' := hv.out
    have hX := h.lt
    rcases hv' with q | q
    · have q2 : b = g := Option.some.inj q
      rw [q2]; exact h.ne
    · have q2 : b = wd.heap.size := Option.some.inj q
      omega
  refine ⟨b, rfl, (World.cell?_setCell_other _ _ _ _ (fun q => by injection q with _ q; omega)).trans hm.1, World.cell?_setCell_same _ _ _ hm.2.1, fun j => by rw [World.frozen?_setCell]; exact hm.2.2.1 j, h.low, ho.setO (p := ⟨X, 1, none⟩) (fun q => hgX (Option.some.inj q)) _, hgX⟩
theorem own_setInt {w : World} {base g n cap i : Nat} {e : TypeId} {xs : List Int} (h : Owns w base e 1 icc (.slice (some ⟨g, 0, none⟩) n cap) xs) (hn : n = xs.length) (hi : i < xs.length) (u : Int) :
    Owns (w.setCell ⟨g, i, none⟩ (.int .i64 u)) base e 1 icc (.slice (some ⟨g, 0, none⟩) n cap) (xs.set i u) := by
  subst hn
  have h0 : w.ownsRow base e 1 (.slice (some ⟨g, 0, none⟩) xs.length cap) xs.length (fl 1 icc xs) := h
  obtain ⟨ao, cap', e1, hF, _⟩ := h.fresh
  injection e1 with e1 _ e3
  subst e1 e3
  obtain ⟨b, off, e2, H⟩ := hF.row (by omega)
  injection e2 with e2; injection e2 with e2 e4
  subst e2 e4
  have hex := H i hi 0 (by decide)
  simp only [Nat.mul_one, Nat.add_zero, Nat.zero_add] at hex
  rcases h0.2 with ⟨q, _⟩ | ⟨g', cap', cur, q1, q2, q3, q4, q5, q6, q7⟩
  · cases q
  · injection q1 with q1 _ q8
    injection q1 with q1; injection q1 with q1
    subst q1 q8
    have hl : (xs.set i u).length = xs.length := by simp
    unfold Owns
    rw [hl]
    refine own_of_cells (cur := cur.setIfInBounds i (.int .i64 u)) q2 ?_ (by rw [Array.size_setIfInBounds]; exact q6) q4 q5 (by rw [fl_length, hl]) fun j hj => ?_
    · simp [World.setCell, Array.getElem?_modify, q3]
    · have hfl : ∀ ys : List Int, fl 1 icc ys = ys.map (Value.int .i64) := fun ys => by
        simp [fl, icc]
        induction ys with
        | nil => rfl
        | cons a l ih => simp [ih]
      rw [hfl, List.getElem?_map, List.getElem?_set]
      by_cases e : i = j
      · subst e
        rw [if_pos rfl, if_pos hi]
        exact World.cell?_setCell_same _ _ _ hex
      · rw [if_neg e]
        have hj2 := H j (by omega) 0 (by decide)
        simp only [Nat.mul_one, Nat.add_zero, Nat.zero_add] at hj2
        refine (World.cell?_setCell_other _ _ _ _ (fun q => e (by injection q))).trans (hj2.trans ?_)
        have : xs[j]? = some (nth xs j) := by simp [nth, show j < xs.length by omega]
        rw [this]; rfl
theorem BoxD.set (h : BoxD wd lo X num g c lg) {i : Nat} (hi : i < lg.length) (u : Int) : BoxD (wd.setCell ⟨g, i, none⟩ (.int .i64 u)) lo X num g c (lg.set i u) := by
  have hl : (lg.set i u).length = lg.length := by simp
  have k : ∀ o, (wd.setCell ⟨g, i, none⟩ (.int .i64 u)).cell? ⟨X, o, none⟩ = wd.cell? ⟨X, o, none⟩ := fun o => World.cell?_setCell_other _ _ _ _ (fun e => h.ne (by injection e))
  refine ⟨(k 0).trans h.c0, (k 1).trans (by rw [hl]; exact h.c1), fun j => by rw [World.frozen?_setCell]; exact h.fr j, h.low, ?_, h.ne⟩
  rw [hl]
  exact own_setInt h.own rfl hi u
/-- a leg's cell -/
theorem BoxD.leg (h : BoxD wd lo X num g c lg) {i : Nat} (hi : i < lg.length) : wd.cell? ⟨g, i, none⟩ = some (.int .i64 (nth lg i)) ∧ wd.frozen? ⟨g, i, none⟩ = false ∧ lo ≤ g := by
  obtain ⟨ao, cap', e1, hF, _⟩ := h.own.fresh
  injection e1 with e1 _ e3
  subst e1 e3
  obtain ⟨b, off, e2, H⟩ := hF.row (by omega)
  injection e2 with e2; injection e2 with e2 e4
  subst e2 e4
  have hex := H i hi 0 (by decide)
  simp only [Nat.mul_one, Nat.add_zero, Nat.zero_add] at hex
  exact ⟨hex, hF.free _ _ rfl i, (hF.base _ rfl).1⟩
end

/-- drawn teams -/
structure DrawnT (B0 : Nat) (w : World) (vs : List TmV) (ao : Option Addr) (cap : Nat) : Prop where
  own : OwnT w B0 (.slice ao vs.length cap) vs
  len : vs.length ≤ 8
  num : ∀ x, x ∈ vs → 0 ≤ x.t.num ∧ x.t.num ≤ 100
theorem DrawnT.ext {B0 : Nat} {w w' : World} {vs : List TmV} {ao : Option Addr} {cap : Nat} (h : DrawnT B0 w vs ao cap) (hx : Ext w w') : DrawnT B0 w' vs ao cap := ⟨h.own.ext hx, h.len, h.num⟩
theorem DrawnT.curs {B0 B : Nat} {w w' : World} {vs : List TmV} {ao : Option Addr} {cap : Nat} (h : DrawnT B0 w vs ao cap) (ht : Touch w w' (Span B (B + 1))) (hB : B < B0) : DrawnT B0 w' vs ao cap := ⟨h.own.cur ht hB, h.len, h.num⟩
theorem OwnT.mono {w : World} {base base' : Nat} {v : Value} {vs : List TmV} (h : OwnT w base v vs) (hb : base' ≤ base) : OwnT w base' v vs := ⟨h.own.mono hb, fun x hx => ⟨(h.inn x hx).1.mono hb, (h.inn x hx).2⟩, h.dist⟩
theorem DrawnT.mono {B0 B1 : Nat} {w : World} {vs : List TmV} {ao : Option Addr} {cap : Nat} (h : DrawnT B0 w vs ao cap) (hb : B1 ≤ B0) : DrawnT B1 w vs ao cap := ⟨h.own.mono hb, h.len, h.num⟩
theorem DrawnT.nil {B0 : Nat} {w : World} {vs : List TmV} {ao : Option Addr} {cap : Nat} (h : DrawnT B0 w vs ao cap) : ao = none → cap = 0 := by
  obtain ⟨a2, c2, e, h1, _⟩ := h.own.form
  injection e with e1 e2 e3
  subst e1 e3
  exact h1
theorem DrawnT.row {B0 : Nat} {w : World} {vs : List TmV} {ao : Option Addr} {cap : Nat} (h : DrawnT B0 w vs ao cap) : RowAt w ao 2 vs.length (fun k => (nth vs k).c) := by
  obtain ⟨a2, c2, e, _, _, hF⟩ := h.own.form
  injection e with e1 e2 e3
  subst e1
  exact hF.row
theorem DrawnT.ok {B0 : Nat} {w : World} {vs : List TmV} {ao : Option Addr} {cap : Nat} (h : DrawnT B0 w vs ao cap) : ∀ x, x ∈ vs → x.ok w ∧ x.a ≠ none := fun x hx => ⟨h.own.ok hx, (h.own.inn x hx).2.2⟩
theorem DrawnT.grow {B0 : Nat} {w : World} {vs : List TmV} {ao : Option Addr} {cap : Nat} (h : DrawnT B0 w vs ao cap) : GRow w ao 2 (vs.map TmV.t).length (tsC (vs.map TmV.t)) := h.own.row

end Go.Proofs.Ytlpogglcbphilaa
