/-
  Proved here: what DrawBestTour, DrawGreedyTour, DrawTourScore, DrawScoreFor and DrawBreakEven hand back; what DrawBestTour hands back; what DrawGreedyTour hands back; what DrawTourTime hands back; a draw's rows as a site.
  Conditions: those in each statement.
-/
import Derived.Test.YtidcfohlhamgmaaCurW
import Derived.Deep.RegionHeld3
import Derived.Deep.CutBlock
import Derived.Deep.DeepCutAuto
import Derived.Test.YtidcfohlhamgmaaSco1
namespace Go.Proofs.Ytidcfohlhamgmaa
open Go.RowKit

theorem Owns.lowR {α : Type} {w : World} {base base' : Nat} {e : TypeId} {s : Nat} {cc : α → Nat → Value} {v : Value} {xs : List α} (h : Owns w base e s cc v xs) (hb : base' ≤ base) : Owns w base' e s cc v xs := by
  have h0 : w.ownsRow base e s v xs.length (fl s cc xs) := h
  refine ⟨h0.1, ?_⟩
  rcases h0.2 with hn | ⟨g, cap, cur, e1, e2, e3⟩
  · exact .inl hn
  · exact .inr ⟨g, cap, cur, e1, Nat.le_trans hb e2, e3⟩
theorem put7f {B0 X Y : Nat} {w : World} {ao : Option Addr} {s n : Nat} {c : Nat → Nat → Value} (h : FreshAt B0 w ao s n c) (hX : X < B0) (hY : Y < B0) (u0 u1 u2 u3 t0 t1 t2 : Value) :
    FreshAt B0 (((((((w.setCell ⟨X, 0, none⟩ u0).setCell ⟨X, 1, none⟩ u1).setCell ⟨X, 2, none⟩ u2).setCell ⟨X, 3, none⟩ u3).setCell ⟨Y, 0, none⟩ t0).setCell ⟨Y, 1, none⟩ t1).setCell ⟨Y, 2, none⟩ t2) ao s n c := by
  have hp : ∀ j, ∀ a, ao = some a → a.block ≠ (⟨Y, j, none⟩ : Addr).block := fun j a e q => by
    have h1 := (h.base a e).1
    have q : a.block = Y := q
    omega
  exact (((four_put h hX u0 u1 u2 u3).offs (p := ⟨Y, 0, none⟩) (hp 0) t0).offs (p := ⟨Y, 1, none⟩) (hp 1) t1).offs (p := ⟨Y, 2, none⟩) (hp 2) t2
theorem put7b {base X Y : Nat} {w : World} (hX : base ≤ X) (hY : base ≤ Y) (u0 u1 u2 u3 t0 t1 t2 : Value) :
    Below base w (((((((w.setCell ⟨X, 0, none⟩ u0).setCell ⟨X, 1, none⟩ u1).setCell ⟨X, 2, none⟩ u2).setCell ⟨X, 3, none⟩ u3).setCell ⟨Y, 0, none⟩ t0).setCell ⟨Y, 1, none⟩ t1).setCell ⟨Y, 2, none⟩ t2) :=
  Below.setCell (p := ⟨Y, 2, none⟩) (Below.setCell (p := ⟨Y, 1, none⟩) (Below.setCell (p := ⟨Y, 0, none⟩) (Below.setCell (p := ⟨X, 3, none⟩) (Below.setCell (p := ⟨X, 2, none⟩) (Below.setCell (p := ⟨X, 1, none⟩) (Below.setCell (p := ⟨X, 0, none⟩) (Below.refl _ _) hX u0) hX u1) hX u2) hX u3) hY t0) hY t1) hY t2
theorem off1 {z : World} {X j Y o : Nat} {u v : Value} (h : ¬ Y = X) (hc : z.cell? ⟨Y, o, none⟩ = some v) : (z.setCell ⟨X, j, none⟩ u).cell? ⟨Y, o, none⟩ = some v := (World.cell?_setCell_other _ _ _ _ (fun e => h (by injection e with e; exact e.symm))).trans hc
theorem keep4 {z : World} {X MB RB : Nat} {a b c d e f g : Value} (hM : ¬ MB = X) (hR : ¬ RB = X) (h : z.cell? ⟨MB, 0, none⟩ = some a ∧ z.cell? ⟨MB, 1, none⟩ = some b ∧ z.cell? ⟨MB, 2, none⟩ = some c ∧ z.cell? ⟨MB, 3, none⟩ = some d ∧ z.cell? ⟨RB, 0, none⟩ = some e ∧ z.cell? ⟨RB, 1, none⟩ = some f ∧ z.cell? ⟨RB, 2, none⟩ = some g) (u0 u1 u2 u3 : Value) : (((((z.setCell ⟨X, 0, none⟩ u0).setCell ⟨X, 1, none⟩ u1).setCell ⟨X, 2, none⟩ u2).setCell ⟨X, 3, none⟩ u3)).cell? ⟨MB, 0, none⟩ = some a ∧ (((((z.setCell ⟨X, 0, none⟩ u0).setCell ⟨X, 1, none⟩ u1).setCell ⟨X, 2, none⟩ u2).setCell ⟨X, 3, none⟩ u3)).cell? ⟨MB, 1, none⟩ = some b ∧ (((((z.setCell ⟨X, 0, none⟩ u0).setCell ⟨X, 1, none⟩ u1).setCell ⟨X, 2, none⟩ u2).setCell ⟨X, 3, none⟩ u3)).cell? ⟨MB, 2, none⟩ = some c ∧ (((((z.setCell ⟨X, 0, none⟩ u0).setCell ⟨X, 1, none⟩ u1).setCell ⟨X, 2, none⟩ u2).setCell ⟨X, 3, none⟩ u3)).cell? ⟨MB, 3, none⟩ = some d ∧ (((((z.setCell ⟨X, 0, none⟩ u0).setCell ⟨X, 1, none⟩ u1).setCell ⟨X, 2, none⟩ u2).setCell ⟨X, 3, none⟩ u3)).cell? ⟨RB, 0, none⟩ = some e ∧ (((((z.setCell ⟨X, 0, none⟩ u0).setCell ⟨X, 1, none⟩ u1).setCell ⟨X, 2, none⟩ u2).setCell ⟨X, 3, none⟩ u3)).cell? ⟨RB, 1, none⟩ = some f ∧ (((((z.setCell ⟨X, 0, none⟩ u0).setCell ⟨X, 1, none⟩ u1).setCell ⟨X, 2, none⟩ u2).setCell ⟨X, 3, none⟩ u3)).cell? ⟨RB, 2, none⟩ = some g :=
  ⟨off1 hM (off1 hM (off1 hM (off1 hM h.1))), off1 hM (off1 hM (off1 hM (off1 hM h.2.1))), off1 hM (off1 hM (off1 hM (off1 hM h.2.2.1))), off1 hM (off1 hM (off1 hM (off1 hM h.2.2.2.1))), off1 hR (off1 hR (off1 hR (off1 hR h.2.2.2.2.1))), off1 hR (off1 hR (off1 hR (off1 hR h.2.2.2.2.2.1))), off1 hR (off1 hR (off1 hR (off1 hR h.2.2.2.2.2.2)))⟩
theorem keepE {z z' : World} {MB RB : Nat} {a b c d e f g : Value} (hx : Ext z z') (h : z.cell? ⟨MB, 0, none⟩ = some a ∧ z.cell? ⟨MB, 1, none⟩ = some b ∧ z.cell? ⟨MB, 2, none⟩ = some c ∧ z.cell? ⟨MB, 3, none⟩ = some d ∧ z.cell? ⟨RB, 0, none⟩ = some e ∧ z.cell? ⟨RB, 1, none⟩ = some f ∧ z.cell? ⟨RB, 2, none⟩ = some g) : z'.cell? ⟨MB, 0, none⟩ = some a ∧ z'.cell? ⟨MB, 1, none⟩ = some b ∧ z'.cell? ⟨MB, 2, none⟩ = some c ∧ z'.cell? ⟨MB, 3, none⟩ = some d ∧ z'.cell? ⟨RB, 0, none⟩ = some e ∧ z'.cell? ⟨RB, 1, none⟩ = some f ∧ z'.cell? ⟨RB, 2, none⟩ = some g := ⟨hx.cells h.1, hx.cells h.2.1, hx.cells h.2.2.1, hx.cells h.2.2.2.1, hx.cells h.2.2.2.2.1, hx.cells h.2.2.2.2.2.1, hx.cells h.2.2.2.2.2.2⟩
theorem keep3 {z : World} {X MB RB : Nat} {a b c d e f g : Value} (hM : ¬ MB = X) (hR : ¬ RB = X) (h : z.cell? ⟨MB, 0, none⟩ = some a ∧ z.cell? ⟨MB, 1, none⟩ = some b ∧ z.cell? ⟨MB, 2, none⟩ = some c ∧ z.cell? ⟨MB, 3, none⟩ = some d ∧ z.cell? ⟨RB, 0, none⟩ = some e ∧ z.cell? ⟨RB, 1, none⟩ = some f ∧ z.cell? ⟨RB, 2, none⟩ = some g) (u0 u1 u2 : Value) : ((((z.setCell ⟨X, 0, none⟩ u0).setCell ⟨X, 1, none⟩ u1).setCell ⟨X, 2, none⟩ u2)).cell? ⟨MB, 0, none⟩ = some a ∧ ((((z.setCell ⟨X, 0, none⟩ u0).setCell ⟨X, 1, none⟩ u1).setCell ⟨X, 2, none⟩ u2)).cell? ⟨MB, 1, none⟩ = some b ∧ ((((z.setCell ⟨X, 0, none⟩ u0).setCell ⟨X, 1, none⟩ u1).setCell ⟨X, 2, none⟩ u2)).cell? ⟨MB, 2, none⟩ = some c ∧ ((((z.setCell ⟨X, 0, none⟩ u0).setCell ⟨X, 1, none⟩ u1).setCell ⟨X, 2, none⟩ u2)).cell? ⟨MB, 3, none⟩ = some d ∧ ((((z.setCell ⟨X, 0, none⟩ u0).setCell ⟨X, 1, none⟩ u1).setCell ⟨X, 2, none⟩ u2)).cell? ⟨RB, 0, none⟩ = some e ∧ ((((z.setCell ⟨X, 0, none⟩ u0).setCell ⟨X, 1, none⟩ u1).setCell ⟨X, 2, none⟩ u2)).cell? ⟨RB, 1, none⟩ = some f ∧ ((((z.setCell ⟨X, 0, none⟩ u0).setCell ⟨X, 1, none⟩ u1).setCell ⟨X, 2, none⟩ u2)).cell? ⟨RB, 2, none⟩ = some g :=
  ⟨off1 hM (off1 hM (off1 hM h.1)), off1 hM (off1 hM (off1 hM h.2.1)), off1 hM (off1 hM (off1 hM h.2.2.1)), off1 hM (off1 hM (off1 hM h.2.2.2.1)), off1 hR (off1 hR (off1 hR h.2.2.2.2.1)), off1 hR (off1 hR (off1 hR h.2.2.2.2.2.1)), off1 hR (off1 hR (off1 hR h.2.2.2.2.2.2))⟩
/-- what a draw hands back: a map, controls, a rule -/
structure DrawnR (w w' : World) (m : MapD) (ro : Option Addr) (rc : Nat) (qo : Option Addr) (tc : Nat) (xs : List Ctl) (co : Option Addr) (cap : Nat) (r : RuleD) (po : Option Addr) (pc : Nat) : Prop where
  dr : Drawn w w' m ro rc qo tc xs co cap
  l4 : r.pts.length ≤ 12
  f4 : FreshAt w.heap.size w' po 1 r.pts.length (ic r.pts)
  c4 : r.pts.length ≤ pc ∧ pc ≤ 9223372036854775807
  ext : Ext w w'
/-- a draw under way: results, boxes, rows, the cursor -/
structure DS (w y : World) (n MB RB : Nat) (m : MapD) (ro : Option Addr) (rc : Nat) (qo : Option Addr) (tc : Nat) (xs : List Ctl) (co : Option Addr) (cap : Nat) (r : RuleD) (po : Option Addr) (pc : Nat) : Prop where
  ext : Ext w y
  res : ResM y w.heap.size
  rer : ResR y (w.heap.size + 1)
  map : Box4 y MB (.int .i64 m.wid) (.int .i64 m.hei) (.slice ro m.rise.length rc) (.slice qo m.cost.length tc)
  b0 : y.cell? ⟨RB, 0, none⟩ = some (.slice po r.pts.length pc)
  b1 : y.cell? ⟨RB, 1, none⟩ = some (.int .i64 r.lim)
  b2 : y.cell? ⟨RB, 2, none⟩ = some (.int .i64 r.pen)
  f1 : FreshAt (w.heap.size + 1 + 1 + 1) y ro 1 m.rise.length (ic m.rise)
  f2 : FreshAt (w.heap.size + 1 + 1 + 1) y qo 1 m.cost.length (ic m.cost)
  f3 : FreshAt (w.heap.size + 1 + 1 + 1) y co 2 xs.length (fun k => (nth xs k).c)
  f4 : FreshAt (w.heap.size + 1 + 1 + 1) y po 1 r.pts.length (ic r.pts)
  cur : Cu y (w.heap.size + 1 + 1) n
  lM : w.heap.size + 1 + 1 + 1 ≤ MB
  lR : w.heap.size + 1 + 1 + 1 ≤ RB
  lens : m.rise.length ≤ 21 ∧ m.cost.length ≤ 20 ∧ xs.length ≤ 11 ∧ r.pts.length ≤ 12
  caps : (m.rise.length ≤ rc ∧ rc ≤ 9223372036854775807) ∧ (m.cost.length ≤ tc ∧ tc ≤ 9223372036854775807) ∧ (co = none → cap = 0) ∧ (xs.length ≤ cap ∧ cap ≤ 9223372036854775807) ∧ (r.pts.length ≤ pc ∧ pc ≤ 9223372036854775807)
section
variable {w y y' : World} {n n' MB RB : Nat} {m : MapD} {ro : Option Addr} {rc : Nat} {qo : Option Addr} {tc : Nat} {xs : List Ctl} {co : Option Addr} {cap : Nat} {r : RuleD} {po : Option Addr} {pc : Nat}
theorem DS.exts (h : DS w y n MB RB m ro rc qo tc xs co cap r po pc) (hx : Ext y y') : DS w y' n MB RB m ro rc qo tc xs co cap r po pc :=
  ⟨h.ext.trans hx, h.res.ext hx, h.rer.ext hx, h.map.ext hx, hx.cells h.b0, hx.cells h.b1, hx.cells h.b2, h.f1.ext hx, h.f2.ext hx, h.f3.ext hx, h.f4.ext hx, h.cur.ext hx, h.lM, h.lR, h.lens, h.caps⟩
theorem DS.curs (h : DS w y n MB RB m ro rc qo tc xs co cap r po pc) (hc : Cu y' (w.heap.size + 1 + 1) n') (ht : Touch y y' (Span (w.heap.size + 1 + 1) (w.heap.size + 1 + 1 + 1))) : DS w y' n' MB RB m ro rc qo tc xs co cap r po pc := by
  have hM := h.lM; have hR := h.lR
  have hlR := World.block_lt_of_cell? _ _ h.b0
  have nM : ¬ Span (w.heap.size + 1 + 1) (w.heap.size + 1 + 1 + 1) MB := fun hs => by have h2 := hs.2; omega
  have nR : ¬ Span (w.heap.size + 1 + 1) (w.heap.size + 1 + 1 + 1) RB := fun hs => by have h2 := hs.2; omega
  have k : ∀ o, y'.cell? ⟨MB, o, none⟩ = y.cell? ⟨MB, o, none⟩ := fun o => ht.cell h.map.lt nM
  have kr : ∀ o, y'.cell? ⟨RB, o, none⟩ = y.cell? ⟨RB, o, none⟩ := fun o => ht.cell hlR nR
  exact ⟨Touch.spanExt h.ext ht (by omega), h.res.touch ht (by omega), h.rer.touch ht (by omega), ⟨(k 0).trans h.map.c0, (k 1).trans h.map.c1, (k 2).trans h.map.c2, (k 3).trans h.map.c3⟩, (kr 0).trans h.b0, (kr 1).trans h.b1, (kr 2).trans h.b2, h.f1.curs ht (Nat.lt_succ_self _), h.f2.curs ht (Nat.lt_succ_self _), h.f3.curs ht (Nat.lt_succ_self _), h.f4.curs ht (Nat.lt_succ_self _), hc, h.lM, h.lR, h.lens, h.caps⟩
theorem fresh_below {w w' : World} {B0 base : Nat} {ao : Option Addr} {s n : Nat} {c : Nat → Nat → Value} (h : FreshAt B0 w ao s n c) (hb : Below base w w') (hlt : ∀ a, ao = some a → a.block < base) : FreshAt B0 w' ao s n c := by
  refine ⟨fun hn => ?_, fun a e => ⟨(h.base a e).1, Nat.lt_of_lt_of_le (h.base a e).2 hb.size⟩, fun b off e j => (hb.frozen (p := ⟨b, j, none⟩) (show b < base from hlt _ e)).trans (h.free b off e j)⟩
  obtain ⟨b, off, e, H⟩ := h.row hn
  exact ⟨b, off, e, fun k hk j hj => (hb.cell (p := ⟨b, off + k * s + j, none⟩) (show b < base from hlt _ e)).trans (H k hk j hj)⟩
/-- the blocks of a draw lie below a number -/
def LtsD (base MB RB : Nat) (ro qo co po : Option Addr) : Prop := MB < base ∧ RB < base ∧ (∀ a, ro = some a → a.block < base) ∧ (∀ a, qo = some a → a.block < base) ∧ (∀ a, co = some a → a.block < base) ∧ ∀ a, po = some a → a.block < base
theorem DS.lts (h : DS w y n MB RB m ro rc qo tc xs co cap r po pc) : LtsD y.heap.size MB RB ro qo co po := ⟨h.map.lt, World.block_lt_of_cell? _ _ h.b0, fun a e => (h.f1.base a e).2, fun a e => (h.f2.base a e).2, fun a e => (h.f3.base a e).2, fun a e => (h.f4.base a e).2⟩
theorem DS.belows (h : DS w y n MB RB m ro rc qo tc xs co cap r po pc) {base : Nat} (hl : LtsD base MB RB ro qo co po) (hb : Below base y y') (hB : w.heap.size + 1 + 1 + 1 ≤ base) : DS w y' n MB RB m ro rc qo tc xs co cap r po pc := by
  have k : ∀ b o, b < base → y'.cell? ⟨b, o, none⟩ = y.cell? ⟨b, o, none⟩ := fun b o hlt => hb.cell (p := ⟨b, o, none⟩) hlt
  exact ⟨Ext.below h.ext hb (by omega), h.res.below hb (by omega), ⟨(k _ _ (by omega)).trans h.rer.c0, (k _ _ (by omega)).trans h.rer.c1, (k _ _ (by omega)).trans h.rer.c2, fun j => (hb.frozen (p := ⟨w.heap.size + 1, j, none⟩) (by show w.heap.size + 1 < base; omega)).trans (h.rer.fz j)⟩, ⟨(k _ _ hl.1).trans h.map.c0, (k _ _ hl.1).trans h.map.c1, (k _ _ hl.1).trans h.map.c2, (k _ _ hl.1).trans h.map.c3⟩, (k _ _ hl.2.1).trans h.b0, (k _ _ hl.2.1).trans h.b1, (k _ _ hl.2.1).trans h.b2, fresh_below h.f1 hb hl.2.2.1, fresh_below h.f2 hb hl.2.2.2.1, fresh_below h.f3 hb hl.2.2.2.2.1, fresh_below h.f4 hb hl.2.2.2.2.2, h.cur.below hb (by omega), h.lM, h.lR, h.lens, h.caps⟩
theorem DS.openC (h : DS w y n MB RB m ro rc qo tc xs co cap r po pc) (hn : n ≤ 800000) : Calls Try.prog 91 #[.pointer (some ⟨w.heap.size + 1 + 1, 0, none⟩), .agg #[.int .i64 m.wid, .int .i64 m.hei, .slice ro m.rise.length rc, .slice qo m.cost.length tc]] y fun e w' => ∃ x : Int, e = .returned (.int .i64 x) ∧ DS w w' (n + 3) MB RB m ro rc qo tc xs co cap r po pc := by
  have hl := h.lens
  refine (cu_openCell (m := m) (ac := rc) (bc := tc) h.cur hn h.f1.row h.f2.row (by omega) (by omega) (fun a e q => by have := (h.f1.base a e).1; omega) (fun a e q => by have := (h.f2.base a e).1; omega)).mono ?_
  rintro e w' ⟨x, rfl, _, hc, ht⟩
  exact ⟨x, rfl, h.curs hc ht⟩
theorem DS.tourC (h : DS w y n MB RB m ro rc qo tc xs co cap r po pc) (hn : n ≤ 700000) : Calls Try.prog 79 #[.pointer (some ⟨w.heap.size + 1 + 1, 0, none⟩), .slice co xs.length cap] y fun e w' => ∃ (go : Option Addr) (gc : Nat) (L : List Int), e = .returned (.slice go L.length gc) ∧ L.length ≤ 5 ∧ Owns w' y.heap.size 3 1 icc (.slice go L.length gc) L ∧ w.heap.size + 1 + 1 + 1 ≤ y.heap.size ∧ DS w w' (n + 40) MB RB m ro rc qo tc xs co cap r po pc := by
  have hl := h.lens
  have hlt := h.cur.lt
  refine (cu_tour (cap := cap) h.cur hn h.f3.row (by omega) (fun a e q => by have := (h.f3.base a e).1; omega)).mono ?_
  rintro e w' ⟨go, gc, L, rfl, hL, hO, hc, ht⟩
  exact ⟨go, gc, L, rfl, hL, hO, hlt, h.curs hc ht⟩
theorem DS.tourS (h : DS w y n MB RB m ro rc qo tc xs co cap r po pc) (hn : n ≤ 700000) : Calls Try.prog 79 #[.pointer (some ⟨w.heap.size + 1 + 1, 0, none⟩), .slice co xs.length cap] y fun e w' => ∃ (go : Option Addr) (gc : Nat) (L : List Int), e = .returned (.slice go L.length gc) ∧ L.length ≤ 5 ∧ Owns w' y.heap.size 3 1 icc (.slice go L.length gc) L ∧ w.heap.size + 1 + 1 + 1 ≤ y.heap.size ∧ y.heap.size ≤ w'.heap.size ∧ DS w w' (n + 40) MB RB m ro rc qo tc xs co cap r po pc := by
  have hl := h.lens
  have hlt := h.cur.lt
  refine (cu_tour (cap := cap) h.cur hn h.f3.row (by omega) (fun a e q => by have := (h.f3.base a e).1; omega)).mono ?_
  rintro e w' ⟨go, gc, L, rfl, hL, hO, hc, ht⟩
  exact ⟨go, gc, L, rfl, hL, hO, hlt, ht.size, h.curs hc ht⟩
theorem DS.codeC (h : DS w y n MB RB m ro rc qo tc xs co cap r po pc) (hn : n ≤ 700000) : Calls Try.prog 92 #[.pointer (some ⟨w.heap.size + 1 + 1, 0, none⟩), .slice co xs.length cap] y fun e w' => ∃ x : Int, e = .returned (.int .i64 x) ∧ DS w w' (n + 3) MB RB m ro rc qo tc xs co cap r po pc := by
  have hl := h.lens
  refine (cu_codeOf (cap := cap) h.cur (by omega) h.f3.row (by omega) (fun a e q => by have := (h.f3.base a e).1; omega)).mono ?_
  rintro e w' ⟨x, rfl, hc, ht⟩
  exact ⟨x, rfl, h.curs hc ht⟩
theorem DS.fin (h : DS w y n MB RB m ro rc qo tc xs co cap r po pc) (u0 u1 u2 u3 t0 t1 t2 : Value) :
    DrawnR w (((((((y.setCell ⟨w.heap.size, 0, none⟩ u0).setCell ⟨w.heap.size, 1, none⟩ u1).setCell ⟨w.heap.size, 2, none⟩ u2).setCell ⟨w.heap.size, 3, none⟩ u3).setCell ⟨w.heap.size + 1, 0, none⟩ t0).setCell ⟨w.heap.size + 1, 1, none⟩ t1).setCell ⟨w.heap.size + 1, 2, none⟩ t2) m ro rc qo tc xs co cap r po pc := by
  have hl := h.lens; have hc := h.caps
  exact ⟨⟨hl.1, hl.2.1, hc.1, hc.2.1, (put7f h.f1 (by omega) (by omega) _ _ _ _ _ _ _).mono (by omega), (put7f h.f2 (by omega) (by omega) _ _ _ _ _ _ _).mono (by omega), hl.2.2.1, (put7f h.f3 (by omega) (by omega) _ _ _ _ _ _ _).mono (by omega), hc.2.2.1, hc.2.2.2.1⟩, hl.2.2.2, (put7f h.f4 (by omega) (by omega) _ _ _ _ _ _ _).mono (by omega), hc.2.2.2.2, Ext.below h.ext (put7b (base := w.heap.size) (Nat.le_refl _) (Nat.le_succ _) _ _ _ _ _ _ _) (Nat.le_refl _)⟩
end


set_option maxRecDepth 100000 in
set_option maxHeartbeats 4000000 in
theorem draw_best {w : World} {co0 : Option Addr} {m0 cc : Nat} {bs : Nat → Nat} (hr : RowAt w co0 1 m0 (by8 bs)) (hb : ∀ k, bs k < 256) (hm : m0 ≤ 9223372036854775807) :
    Calls Try.prog 45 #[.slice co0 m0 cc] w fun e w' => ∃ (m : MapD) (ro : Option Addr) (rc : Nat) (qo : Option Addr) (tc : Nat) (xs : List Ctl) (co : Option Addr) (cap : Nat) (r : RuleD) (po : Option Addr) (pc : Nat) (x : Int), e = .returned (.tuple #[m.val ro rc qo tc, .slice co xs.length cap, r.val po pc, .int .i64 x]) ∧ DrawnR w w' m ro rc qo tc xs co cap r po pc := by
  have hxa := ((Ext.refl w).alloc (.cells #[.int .i64 0, .int .i64 0, .slice none 0 0, .slice none 0 0] 30))
  have hxb := ((Ext.refl (w.alloc (.cells #[.int .i64 0, .int .i64 0, .slice none 0 0, .slice none 0 0] 30))).alloc (.cells #[.slice none 0 0, .int .i64 0, .int .i64 0] 43))
  have hx0 := hxa.trans hxb
  have h0 := fun T => cu_box (cc := cc) (T := T) (hr.ext hx0) hb hm
  have hs0 : ∀ o, (((w.alloc (.cells #[.int .i64 0, .int .i64 0, .slice none 0 0, .slice none 0 0] 30)).alloc (.cells #[.slice none 0 0, .int .i64 0, .int .i64 0] 43)).alloc o).heap.size = w.heap.size + 1 + 1 + 1 := fun o => by simp
  rw [World.size_alloc, World.size_alloc] at h0
  have HS := Lib.hid (fun T => cu_scored (most := 4) (h0 T) (by omega) (by decide))
  have HR0 := Lib.hid (fun o => ((ResM.of (w := w) (T := 30) (Ext.refl _)).ext hxb).ext ((Ext.refl _).alloc o))
  have hq0 := ResR.of (w := (w.alloc (.cells #[.int .i64 0, .int .i64 0, .slice none 0 0, .slice none 0 0] 30))) (T := 43) (Ext.refl _)
  rw [World.size_alloc] at hq0
  have HQ0 := Lib.hid (fun o => hq0.ext ((Ext.refl _).alloc o))
  have HX0 := Lib.hid (fun o => hx0.alloc o)
  have HSZ := Lib.hid hs0
  clear hr hb h0 hx0 hxa hxb hq0 hs0
  go_enter Try.func45, Try.ntmps45
  go_wp2_with fail
  refine (HS.out _).mono ?_; rintro e w1 ⟨m, ro, rc, qo, tc, xs, co, cap, r, po, pc, rfl, hD, hl4, hf4, hc4, hc, ht⟩
  obtain ⟨hl1, hl2, hc1, hc2, hf1, hf2, hl3, hf3, hn3, hc3⟩ := hD
  rw [HSZ.out] at hf1 hf2 hf3 hf4
  have hz := ht.size
  rw [HSZ.out] at hz
  have hx2 : ∀ T1 T2, Ext w1 ((w1.alloc (.cells #[.int .i64 m.wid, .int .i64 m.hei, .slice ro m.rise.length rc, .slice qo m.cost.length tc] T1)).alloc (.cells #[.slice po r.pts.length pc, .int .i64 r.lim, .int .i64 r.pen] T2)) := fun _ _ => ((Ext.refl _).alloc _).alloc _
  have hds : ∀ T1 T2, DS w ((w1.alloc (.cells #[.int .i64 m.wid, .int .i64 m.hei, .slice ro m.rise.length rc, .slice qo m.cost.length tc] T1)).alloc (.cells #[.slice po r.pts.length pc, .int .i64 r.lim, .int .i64 r.pen] T2)) 400 w1.heap.size (w1.heap.size + 1) m ro rc qo tc xs co cap r po pc := fun T1 T2 => by
    have hxx := hx2 T1 T2
    refine ⟨Touch.spanExt (HX0.out _) ((ht.trans (Touch.of_ext hxx))) (by omega), ((HR0.out _).touch ht (by omega)).ext hxx, ((HQ0.out _).touch ht (by omega)).ext hxx, ⟨by go_simp, by go_simp, by go_simp, by go_simp⟩, by go_simp, by go_simp, by go_simp, hf1.ext hxx, hf2.ext hxx, hf3.ext hxx, hf4.ext hxx, (hc.mono (by omega)).ext hxx, hz, by omega, ⟨hl1, hl2, hl3, hl4⟩, ⟨hc1, hc2, hn3, hc3, hc4⟩⟩
  have HDS := Lib.hid (hds 30 43)
  unfold MapD.val RuleD.val
  clear hx2 hds hz hl1 hl2 hl3 hl4 hc1 hc2 hc3 hc4 hn3 hf1 hf2 hf3 hf4 hc ht HS HR0 HQ0 HX0 HSZ
  go_upto_region 3 with fail
  generalize ((w1.alloc (.cells #[.int .i64 m.wid, .int .i64 m.hei, .slice ro m.rise.length rc, .slice qo m.cost.length tc] 30)).alloc (.cells #[.slice po r.pts.length pc, .int .i64 r.lim, .int .i64 r.pen] 43)) = w2 at *
  obtain ⟨MB, hMB⟩ : ∃ MB, MB = w1.heap.size := ⟨_, rfl⟩
  obtain ⟨RB, hRB⟩ : ∃ RB, RB = w1.heap.size + 1 := ⟨_, rfl⟩
  rw [← hRB, ← hMB] at HDS
  rw [← hRB, ← hMB]
  clear hMB hRB
  have q0 := HDS.out.map.c0
  have q1 := HDS.out.map.c1
  have q2 := HDS.out.map.c2
  have q3 := HDS.out.map.c3
  have b0 := HDS.out.b0
  have b1 := HDS.out.b1
  have b2 := HDS.out.b2
  have r0 := HDS.out.res.c0
  have r1 := HDS.out.res.c1
  have r2 := HDS.out.res.c2
  have r3 := HDS.out.res.c3
  have rf0 := HDS.out.res.fz 0
  have rf1 := HDS.out.res.fz 1
  have rf2 := HDS.out.res.fz 2
  have rf3 := HDS.out.res.fz 3
  have t0 := HDS.out.rer.c0
  have t1 := HDS.out.rer.c1
  have t2 := HDS.out.rer.c2
  have tf0 := HDS.out.rer.fz 0
  have tf1 := HDS.out.rer.fz 1
  have tf2 := HDS.out.rer.fz 2
  have zl0 := HDS.out.res.lt
  have zl1 := HDS.out.rer.lt
  have zl2 := HDS.out.map.lt
  have hn1 : ¬ w.heap.size = MB := by have := HDS.out.lM; omega
  have hn2 : ¬ w.heap.size + 1 = MB := by have := HDS.out.lM; omega
  have hn3 : ¬ w.heap.size = RB := by have := HDS.out.lR; omega
  have hn4 : ¬ w.heap.size + 1 = RB := by have := HDS.out.lR; omega
  have hn5 : ¬ MB = w.heap.size := by have := HDS.out.lM; omega
  have hn6 : ¬ MB = w.heap.size + 1 := by have := HDS.out.lM; omega
  have hn7 : ¬ RB = w.heap.size := by have := HDS.out.lR; omega
  have hn8 : ¬ RB = w.heap.size + 1 := by have := HDS.out.lR; omega
  go_region_held3 (fun z => z.cell? ⟨MB, 0, none⟩ = some (.int .i64 m.wid) ∧ z.cell? ⟨MB, 1, none⟩ = some (.int .i64 m.hei) ∧ z.cell? ⟨MB, 2, none⟩ = some (.slice ro m.rise.length rc) ∧ z.cell? ⟨MB, 3, none⟩ = some (.slice qo m.cost.length tc) ∧ z.cell? ⟨RB, 0, none⟩ = some (.slice po r.pts.length pc) ∧ z.cell? ⟨RB, 1, none⟩ = some (.int .i64 r.lim) ∧ z.cell? ⟨RB, 2, none⟩ = some (.int .i64 r.pen)) (first | with_reducible exact ⟨q0, q1, q2, q3, b0, b1, b2⟩ | (with_reducible refine keep4 hn5 hn7 ?_ _ _ _ _; assumption) | (with_reducible refine keep3 hn6 hn8 ?_ _ _ _; assumption) | with_reducible exact ⟨(Ext.refl _).drew.cells q0, (Ext.refl _).drew.cells q1, (Ext.refl _).drew.cells q2, (Ext.refl _).drew.cells q3, (Ext.refl _).drew.cells b0, (Ext.refl _).drew.cells b1, (Ext.refl _).drew.cells b2⟩)
    (first
      | (go_at_call 91; (first | (with_reducible refine Calls.mono (DS.openC HDS.out (by omega)) ?_) | (with_reducible refine Calls.mono (DS.openC (HDS.out.exts (Ext.refl _).drew) (by omega)) ?_)); rintro e wn ⟨x, rfl, hD⟩; (clear q0 q1 q2 q3 b0 b1 b2 r0 r1 r2 r3 rf0 rf1 rf2 rf3 t0 t1 t2 tf0 tf1 tf2 zl0 zl1 zl2; have HDS := Lib.hid hD; clear hD; have q0 := HDS.out.map.c0; have q1 := HDS.out.map.c1; have q2 := HDS.out.map.c2; have q3 := HDS.out.map.c3; have b0 := HDS.out.b0; have b1 := HDS.out.b1; have b2 := HDS.out.b2; have r0 := HDS.out.res.c0; have r1 := HDS.out.res.c1; have r2 := HDS.out.res.c2; have r3 := HDS.out.res.c3; have rf0 := HDS.out.res.fz 0; have rf1 := HDS.out.res.fz 1; have rf2 := HDS.out.res.fz 2; have rf3 := HDS.out.res.fz 3; have t0 := HDS.out.rer.c0; have t1 := HDS.out.rer.c1; have t2 := HDS.out.rer.c2; have tf0 := HDS.out.rer.fz 0; have tf1 := HDS.out.rer.fz 1; have tf2 := HDS.out.rer.fz 2; have zl0 := HDS.out.res.lt; have zl1 := HDS.out.rer.lt; have zl2 := HDS.out.map.lt)))
  all_goals
    go_wp2
    refine bodyPost_ret (v := .tuple #[.agg #[.int .i64 m.wid, .int .i64 m.hei, .slice ro m.rise.length rc, .slice qo m.cost.length tc], .slice co xs.length cap, .agg #[.slice po r.pts.length pc, .int .i64 r.lim, .int .i64 r.pen], .int .i64 x]) ?_ rfl ?_
    · simp [results, Try.results45, go_sem, cell_put, r0, r1, r2, r3, t0, t1, t2]
    · exact ⟨m, ro, rc, qo, tc, xs, co, cap, r, po, pc, x, rfl, HDS.out.fin _ _ _ _ _ _ _⟩


set_option maxRecDepth 100000 in
set_option maxHeartbeats 4000000 in
theorem draw_greedy {w : World} {co0 : Option Addr} {m0 cc : Nat} {bs : Nat → Nat} (hr : RowAt w co0 1 m0 (by8 bs)) (hb : ∀ k, bs k < 256) (hm : m0 ≤ 9223372036854775807) :
    Calls Try.prog 48 #[.slice co0 m0 cc] w fun e w' => ∃ (m : MapD) (ro : Option Addr) (rc : Nat) (qo : Option Addr) (tc : Nat) (xs : List Ctl) (co : Option Addr) (cap : Nat) (r : RuleD) (po : Option Addr) (pc : Nat) (x : Int), e = .returned (.tuple #[m.val ro rc qo tc, .slice co xs.length cap, r.val po pc, .int .i64 x]) ∧ DrawnR w w' m ro rc qo tc xs co cap r po pc := by
  have hxa := ((Ext.refl w).alloc (.cells #[.int .i64 0, .int .i64 0, .slice none 0 0, .slice none 0 0] 30))
  have hxb := ((Ext.refl (w.alloc (.cells #[.int .i64 0, .int .i64 0, .slice none 0 0, .slice none 0 0] 30))).alloc (.cells #[.slice none 0 0, .int .i64 0, .int .i64 0] 43))
  have hx0 := hxa.trans hxb
  have h0 := fun T => cu_box (cc := cc) (T := T) (hr.ext hx0) hb hm
  have hs0 : ∀ o, (((w.alloc (.cells #[.int .i64 0, .int .i64 0, .slice none 0 0, .slice none 0 0] 30)).alloc (.cells #[.slice none 0 0, .int .i64 0, .int .i64 0] 43)).alloc o).heap.size = w.heap.size + 1 + 1 + 1 := fun o => by simp
  rw [World.size_alloc, World.size_alloc] at h0
  have HS := Lib.hid (fun T => cu_scored (most := 10) (h0 T) (by omega) (by decide))
  have HR0 := Lib.hid (fun o => ((ResM.of (w := w) (T := 30) (Ext.refl _)).ext hxb).ext ((Ext.refl _).alloc o))
  have hq0 := ResR.of (w := (w.alloc (.cells #[.int .i64 0, .int .i64 0, .slice none 0 0, .slice none 0 0] 30))) (T := 43) (Ext.refl _)
  rw [World.size_alloc] at hq0
  have HQ0 := Lib.hid (fun o => hq0.ext ((Ext.refl _).alloc o))
  have HX0 := Lib.hid (fun o => hx0.alloc o)
  have HSZ := Lib.hid hs0
  clear hr hb h0 hx0 hxa hxb hq0 hs0
  go_enter Try.func48, Try.ntmps48
  go_wp2_with fail
  refine (HS.out _).mono ?_; rintro e w1 ⟨m, ro, rc, qo, tc, xs, co, cap, r, po, pc, rfl, hD, hl4, hf4, hc4, hc, ht⟩
  obtain ⟨hl1, hl2, hc1, hc2, hf1, hf2, hl3, hf3, hn3, hc3⟩ := hD
  rw [HSZ.out] at hf1 hf2 hf3 hf4
  have hz := ht.size
  rw [HSZ.out] at hz
  have hx2 : ∀ T1 T2, Ext w1 ((w1.alloc (.cells #[.int .i64 m.wid, .int .i64 m.hei, .slice ro m.rise.length rc, .slice qo m.cost.length tc] T1)).alloc (.cells #[.slice po r.pts.length pc, .int .i64 r.lim, .int .i64 r.pen] T2)) := fun _ _ => ((Ext.refl _).alloc _).alloc _
  have hds : ∀ T1 T2, DS w ((w1.alloc (.cells #[.int .i64 m.wid, .int .i64 m.hei, .slice ro m.rise.length rc, .slice qo m.cost.length tc] T1)).alloc (.cells #[.slice po r.pts.length pc, .int .i64 r.lim, .int .i64 r.pen] T2)) 400 w1.heap.size (w1.heap.size + 1) m ro rc qo tc xs co cap r po pc := fun T1 T2 => by
    have hxx := hx2 T1 T2
    refine ⟨Touch.spanExt (HX0.out _) ((ht.trans (Touch.of_ext hxx))) (by omega), ((HR0.out _).touch ht (by omega)).ext hxx, ((HQ0.out _).touch ht (by omega)).ext hxx, ⟨by go_simp, by go_simp, by go_simp, by go_simp⟩, by go_simp, by go_simp, by go_simp, hf1.ext hxx, hf2.ext hxx, hf3.ext hxx, hf4.ext hxx, (hc.mono (by omega)).ext hxx, hz, by omega, ⟨hl1, hl2, hl3, hl4⟩, ⟨hc1, hc2, hn3, hc3, hc4⟩⟩
  have HDS := Lib.hid (hds 30 43)
  unfold MapD.val RuleD.val
  clear hx2 hds hz hl1 hl2 hl3 hl4 hc1 hc2 hc3 hc4 hn3 hf1 hf2 hf3 hf4 hc ht HS HR0 HQ0 HX0 HSZ
  go_upto_region 3 with fail
  generalize ((w1.alloc (.cells #[.int .i64 m.wid, .int .i64 m.hei, .slice ro m.rise.length rc, .slice qo m.cost.length tc] 30)).alloc (.cells #[.slice po r.pts.length pc, .int .i64 r.lim, .int .i64 r.pen] 43)) = w2 at *
  obtain ⟨MB, hMB⟩ : ∃ MB, MB = w1.heap.size := ⟨_, rfl⟩
  obtain ⟨RB, hRB⟩ : ∃ RB, RB = w1.heap.size + 1 := ⟨_, rfl⟩
  rw [← hRB, ← hMB] at HDS
  rw [← hRB, ← hMB]
  clear hMB hRB
  have q0 := HDS.out.map.c0
  have q1 := HDS.out.map.c1
  have q2 := HDS.out.map.c2
  have q3 := HDS.out.map.c3
  have b0 := HDS.out.b0
  have b1 := HDS.out.b1
  have b2 := HDS.out.b2
  have r0 := HDS.out.res.c0
  have r1 := HDS.out.res.c1
  have r2 := HDS.out.res.c2
  have r3 := HDS.out.res.c3
  have rf0 := HDS.out.res.fz 0
  have rf1 := HDS.out.res.fz 1
  have rf2 := HDS.out.res.fz 2
  have rf3 := HDS.out.res.fz 3
  have t0 := HDS.out.rer.c0
  have t1 := HDS.out.rer.c1
  have t2 := HDS.out.rer.c2
  have tf0 := HDS.out.rer.fz 0
  have tf1 := HDS.out.rer.fz 1
  have tf2 := HDS.out.rer.fz 2
  have zl0 := HDS.out.res.lt
  have zl1 := HDS.out.rer.lt
  have zl2 := HDS.out.map.lt
  have hn1 : ¬ w.heap.size = MB := by have := HDS.out.lM; omega
  have hn2 : ¬ w.heap.size + 1 = MB := by have := HDS.out.lM; omega
  have hn3 : ¬ w.heap.size = RB := by have := HDS.out.lR; omega
  have hn4 : ¬ w.heap.size + 1 = RB := by have := HDS.out.lR; omega
  have hn5 : ¬ MB = w.heap.size := by have := HDS.out.lM; omega
  have hn6 : ¬ MB = w.heap.size + 1 := by have := HDS.out.lM; omega
  have hn7 : ¬ RB = w.heap.size := by have := HDS.out.lR; omega
  have hn8 : ¬ RB = w.heap.size + 1 := by have := HDS.out.lR; omega
  go_region_held3 (fun z => z.cell? ⟨MB, 0, none⟩ = some (.int .i64 m.wid) ∧ z.cell? ⟨MB, 1, none⟩ = some (.int .i64 m.hei) ∧ z.cell? ⟨MB, 2, none⟩ = some (.slice ro m.rise.length rc) ∧ z.cell? ⟨MB, 3, none⟩ = some (.slice qo m.cost.length tc) ∧ z.cell? ⟨RB, 0, none⟩ = some (.slice po r.pts.length pc) ∧ z.cell? ⟨RB, 1, none⟩ = some (.int .i64 r.lim) ∧ z.cell? ⟨RB, 2, none⟩ = some (.int .i64 r.pen)) (first | with_reducible exact ⟨q0, q1, q2, q3, b0, b1, b2⟩ | (with_reducible refine keep4 hn5 hn7 ?_ _ _ _ _; assumption) | (with_reducible refine keep3 hn6 hn8 ?_ _ _ _; assumption) | with_reducible exact ⟨(Ext.refl _).drew.cells q0, (Ext.refl _).drew.cells q1, (Ext.refl _).drew.cells q2, (Ext.refl _).drew.cells q3, (Ext.refl _).drew.cells b0, (Ext.refl _).drew.cells b1, (Ext.refl _).drew.cells b2⟩)
    (first
      | (go_at_call 91; (first | (with_reducible refine Calls.mono (DS.openC HDS.out (by omega)) ?_) | (with_reducible refine Calls.mono (DS.openC (HDS.out.exts (Ext.refl _).drew) (by omega)) ?_)); rintro e wn ⟨x, rfl, hD⟩; (clear q0 q1 q2 q3 b0 b1 b2 r0 r1 r2 r3 rf0 rf1 rf2 rf3 t0 t1 t2 tf0 tf1 tf2 zl0 zl1 zl2; have HDS := Lib.hid hD; clear hD; have q0 := HDS.out.map.c0; have q1 := HDS.out.map.c1; have q2 := HDS.out.map.c2; have q3 := HDS.out.map.c3; have b0 := HDS.out.b0; have b1 := HDS.out.b1; have b2 := HDS.out.b2; have r0 := HDS.out.res.c0; have r1 := HDS.out.res.c1; have r2 := HDS.out.res.c2; have r3 := HDS.out.res.c3; have rf0 := HDS.out.res.fz 0; have rf1 := HDS.out.res.fz 1; have rf2 := HDS.out.res.fz 2; have rf3 := HDS.out.res.fz 3; have t0 := HDS.out.rer.c0; have t1 := HDS.out.rer.c1; have t2 := HDS.out.rer.c2; have tf0 := HDS.out.rer.fz 0; have tf1 := HDS.out.rer.fz 1; have tf2 := HDS.out.rer.fz 2; have zl0 := HDS.out.res.lt; have zl1 := HDS.out.rer.lt; have zl2 := HDS.out.map.lt)))
  all_goals
    go_wp2
    refine bodyPost_ret (v := .tuple #[.agg #[.int .i64 m.wid, .int .i64 m.hei, .slice ro m.rise.length rc, .slice qo m.cost.length tc], .slice co xs.length cap, .agg #[.slice po r.pts.length pc, .int .i64 r.lim, .int .i64 r.pen], .int .i64 x]) ?_ rfl ?_
    · simp [results, Try.results48, go_sem, cell_put, r0, r1, r2, r3, t0, t1, t2]
    · exact ⟨m, ro, rc, qo, tc, xs, co, cap, r, po, pc, x, rfl, HDS.out.fin _ _ _ _ _ _ _⟩


theorem keepT {z : World} {X MB : Nat} {a b c d : Value} (hM : ¬ MB = X) (h : z.cell? ⟨MB, 0, none⟩ = some a ∧ z.cell? ⟨MB, 1, none⟩ = some b ∧ z.cell? ⟨MB, 2, none⟩ = some c ∧ z.cell? ⟨MB, 3, none⟩ = some d) (u0 u1 u2 u3 : Value) : ((((z.setCell ⟨X, 0, none⟩ u0).setCell ⟨X, 1, none⟩ u1).setCell ⟨X, 2, none⟩ u2).setCell ⟨X, 3, none⟩ u3).cell? ⟨MB, 0, none⟩ = some a ∧ ((((z.setCell ⟨X, 0, none⟩ u0).setCell ⟨X, 1, none⟩ u1).setCell ⟨X, 2, none⟩ u2).setCell ⟨X, 3, none⟩ u3).cell? ⟨MB, 1, none⟩ = some b ∧ ((((z.setCell ⟨X, 0, none⟩ u0).setCell ⟨X, 1, none⟩ u1).setCell ⟨X, 2, none⟩ u2).setCell ⟨X, 3, none⟩ u3).cell? ⟨MB, 2, none⟩ = some c ∧ ((((z.setCell ⟨X, 0, none⟩ u0).setCell ⟨X, 1, none⟩ u1).setCell ⟨X, 2, none⟩ u2).setCell ⟨X, 3, none⟩ u3).cell? ⟨MB, 3, none⟩ = some d :=
  ⟨off1 hM (off1 hM (off1 hM (off1 hM h.1))), off1 hM (off1 hM (off1 hM (off1 hM h.2.1))), off1 hM (off1 hM (off1 hM (off1 hM h.2.2.1))), off1 hM (off1 hM (off1 hM (off1 hM h.2.2.2)))⟩
theorem four_below {base X : Nat} {w : World} (hX : base ≤ X) (u0 u1 u2 u3 : Value) : Below base w ((((w.setCell ⟨X, 0, none⟩ u0).setCell ⟨X, 1, none⟩ u1).setCell ⟨X, 2, none⟩ u2).setCell ⟨X, 3, none⟩ u3) :=
  Below.setCell (p := ⟨X, 3, none⟩) (Below.setCell (p := ⟨X, 2, none⟩) (Below.setCell (p := ⟨X, 1, none⟩) (Below.setCell (p := ⟨X, 0, none⟩) (Below.refl _ _) hX u0) hX u1) hX u2) hX u3
/-- a draw without a rule under way -/
structure DT (w y : World) (n MB : Nat) (m : MapD) (ro : Option Addr) (rc : Nat) (qo : Option Addr) (tc : Nat) (xs : List Ctl) (co : Option Addr) (cap : Nat) : Prop where
  ext : Ext w y
  res : ResM y w.heap.size
  map : Box4 y MB (.int .i64 m.wid) (.int .i64 m.hei) (.slice ro m.rise.length rc) (.slice qo m.cost.length tc)
  f1 : FreshAt (w.heap.size + 1 + 1) y ro 1 m.rise.length (ic m.rise)
  f2 : FreshAt (w.heap.size + 1 + 1) y qo 1 m.cost.length (ic m.cost)
  f3 : FreshAt (w.heap.size + 1 + 1) y co 2 xs.length (fun k => (nth xs k).c)
  cur : Cu y (w.heap.size + 1) n
  lM : w.heap.size + 1 + 1 ≤ MB
  lens : m.rise.length ≤ 21 ∧ m.cost.length ≤ 20 ∧ xs.length ≤ 11
  caps : (m.rise.length ≤ rc ∧ rc ≤ 9223372036854775807) ∧ (m.cost.length ≤ tc ∧ tc ≤ 9223372036854775807) ∧ (co = none → cap = 0) ∧ (xs.length ≤ cap ∧ cap ≤ 9223372036854775807)
section
variable {w y y' : World} {n n' MB : Nat} {m : MapD} {ro : Option Addr} {rc : Nat} {qo : Option Addr} {tc : Nat} {xs : List Ctl} {co : Option Addr} {cap : Nat}
theorem DT.exts (h : DT w y n MB m ro rc qo tc xs co cap) (hx : Ext y y') : DT w y' n MB m ro rc qo tc xs co cap :=
  ⟨h.ext.trans hx, h.res.ext hx, h.map.ext hx, h.f1.ext hx, h.f2.ext hx, h.f3.ext hx, h.cur.ext hx, h.lM, h.lens, h.caps⟩
theorem DT.curs (h : DT w y n MB m ro rc qo tc xs co cap) (hc : Cu y' (w.heap.size + 1) n') (ht : Touch y y' (Span (w.heap.size + 1) (w.heap.size + 1 + 1))) : DT w y' n' MB m ro rc qo tc xs co cap := by
  have hM := h.lM
  have nM : ¬ Span (w.heap.size + 1) (w.heap.size + 1 + 1) MB := fun hs => by have h2 := hs.2; omega
  have k : ∀ o, y'.cell? ⟨MB, o, none⟩ = y.cell? ⟨MB, o, none⟩ := fun o => ht.cell h.map.lt nM
  exact ⟨Touch.spanExt h.ext ht (by omega), h.res.touch ht (by omega), ⟨(k 0).trans h.map.c0, (k 1).trans h.map.c1, (k 2).trans h.map.c2, (k 3).trans h.map.c3⟩, h.f1.curs ht (Nat.lt_succ_self _), h.f2.curs ht (Nat.lt_succ_self _), h.f3.curs ht (Nat.lt_succ_self _), hc, h.lM, h.lens, h.caps⟩
theorem DT.openC (h : DT w y n MB m ro rc qo tc xs co cap) (hn : n ≤ 800000) : Calls Try.prog 91 #[.pointer (some ⟨w.heap.size + 1, 0, none⟩), .agg #[.int .i64 m.wid, .int .i64 m.hei, .slice ro m.rise.length rc, .slice qo m.cost.length tc]] y fun e w' => ∃ x : Int, e = .returned (.int .i64 x) ∧ DT w w' (n + 3) MB m ro rc qo tc xs co cap := by
  have hl := h.lens
  refine (cu_openCell (m := m) (ac := rc) (bc := tc) h.cur hn h.f1.row h.f2.row (by omega) (by omega) (fun a e q => by have := (h.f1.base a e).1; omega) (fun a e q => by have := (h.f2.base a e).1; omega)).mono ?_
  rintro e w' ⟨x, rfl, _, hc, ht⟩
  exact ⟨x, rfl, h.curs hc ht⟩
theorem DT.tourC (h : DT w y n MB m ro rc qo tc xs co cap) (hn : n ≤ 700000) : Calls Try.prog 79 #[.pointer (some ⟨w.heap.size + 1, 0, none⟩), .slice co xs.length cap] y fun e w' => ∃ (go : Option Addr) (gc : Nat) (L : List Int), e = .returned (.slice go L.length gc) ∧ L.length ≤ 5 ∧ Owns w' y.heap.size 3 1 icc (.slice go L.length gc) L ∧ w.heap.size + 1 + 1 ≤ y.heap.size ∧ DT w w' (n + 40) MB m ro rc qo tc xs co cap := by
  have hl := h.lens
  have hlt := h.cur.lt
  refine (cu_tour (cap := cap) h.cur hn h.f3.row (by omega) (fun a e q => by have := (h.f3.base a e).1; omega)).mono ?_
  rintro e w' ⟨go, gc, L, rfl, hL, hO, hc, ht⟩
  exact ⟨go, gc, L, rfl, hL, hO, hlt, h.curs hc ht⟩
theorem DT.fin (h : DT w y n MB m ro rc qo tc xs co cap) (u0 u1 u2 u3 : Value) :
    Drawn w ((((y.setCell ⟨w.heap.size, 0, none⟩ u0).setCell ⟨w.heap.size, 1, none⟩ u1).setCell ⟨w.heap.size, 2, none⟩ u2).setCell ⟨w.heap.size, 3, none⟩ u3) m ro rc qo tc xs co cap ∧ Ext w ((((y.setCell ⟨w.heap.size, 0, none⟩ u0).setCell ⟨w.heap.size, 1, none⟩ u1).setCell ⟨w.heap.size, 2, none⟩ u2).setCell ⟨w.heap.size, 3, none⟩ u3) := by
  have hl := h.lens; have hc := h.caps
  exact ⟨⟨hl.1, hl.2.1, hc.1, hc.2.1, (four_put h.f1 (by omega) _ _ _ _).mono (by omega), (four_put h.f2 (by omega) _ _ _ _).mono (by omega), hl.2.2, (four_put h.f3 (by omega) _ _ _ _).mono (by omega), hc.2.2.1, hc.2.2.2⟩, Ext.below h.ext (four_below (base := w.heap.size) (Nat.le_refl _) _ _ _ _) (Nat.le_refl _)⟩
end

set_option maxRecDepth 100000 in
set_option maxHeartbeats 4000000 in
theorem draw_tourtime {w : World} {co0 : Option Addr} {m0 cc : Nat} {bs : Nat → Nat} (hr : RowAt w co0 1 m0 (by8 bs)) (hb : ∀ k, bs k < 256) (hm : m0 ≤ 9223372036854775807) :
    Calls Try.prog 47 #[.slice co0 m0 cc] w fun e w' => ∃ (m : MapD) (ro : Option Addr) (rc : Nat) (qo : Option Addr) (tc : Nat) (xs : List Ctl) (co : Option Addr) (cap : Nat) (x : Int) (L : List Int) (go : Option Addr) (gc : Nat), e = .returned (.tuple #[m.val ro rc qo tc, .slice co xs.length cap, .int .i64 x, .slice go L.length gc]) ∧ Drawn w w' m ro rc qo tc xs co cap ∧ Ext w w' ∧ L.length ≤ 5 ∧ FreshAt w.heap.size w' go 1 L.length (ic L) ∧ (L.length ≤ gc ∧ gc ≤ 9223372036854775807) := by
  have hx0 := ((Ext.refl w).alloc (.cells #[.int .i64 0, .int .i64 0, .slice none 0 0, .slice none 0 0] 30))
  have h0 := fun T => cu_box (cc := cc) (T := T) (hr.ext hx0) hb hm
  have hs0 : ∀ o, ((w.alloc (.cells #[.int .i64 0, .int .i64 0, .slice none 0 0, .slice none 0 0] 30)).alloc o).heap.size = w.heap.size + 1 + 1 := fun o => by simp
  rw [World.size_alloc] at h0
  have HS := Lib.hid (fun T => cu_site (h0 T) (by omega))
  have HR0 := Lib.hid (fun o => (ResM.of (w := w) (T := 30) (Ext.refl _)).ext ((Ext.refl _).alloc o))
  have HX0 := Lib.hid (fun o => hx0.alloc o)
  have HSZ := Lib.hid hs0
  clear hr hb h0 hx0 hs0
  go_enter Try.func47, Try.ntmps47
  go_wp2_with fail
  refine (HS.out _).mono ?_; rintro e w1 ⟨m, ro, rc, qo, tc, xs, co, cap, rfl, hl1, hl2, hc1, hc2, hf1, hf2, hl3, hf3, hn3, hc3, hc, ht⟩
  rw [HSZ.out] at hf1 hf2 hf3
  have hz := ht.size
  rw [HSZ.out] at hz
  have hds : ∀ T1, DT w (w1.alloc (.cells #[.int .i64 m.wid, .int .i64 m.hei, .slice ro m.rise.length rc, .slice qo m.cost.length tc] T1)) 400 w1.heap.size m ro rc qo tc xs co cap := fun T1 => by
    have hxx : Ext w1 (w1.alloc (.cells #[.int .i64 m.wid, .int .i64 m.hei, .slice ro m.rise.length rc, .slice qo m.cost.length tc] T1)) := (Ext.refl _).alloc _
    exact ⟨Touch.spanExt (HX0.out _) ((ht.trans (Touch.of_ext hxx))) (by omega), ((HR0.out _).touch ht (by omega)).ext hxx, ⟨by go_simp, by go_simp, by go_simp, by go_simp⟩, hf1.ext hxx, hf2.ext hxx, hf3.ext hxx, (hc.mono (by omega)).ext hxx, hz, ⟨hl1, hl2, hl3⟩, ⟨hc1, hc2, hn3, hc3⟩⟩
  have HDS := Lib.hid (hds 30)
  unfold MapD.val
  clear hds hz hl1 hl2 hl3 hc1 hc2 hc3 hn3 hf1 hf2 hf3 hc ht HS HR0 HX0 HSZ
  go_upto_region 3 with fail
  generalize (w1.alloc (.cells #[.int .i64 m.wid, .int .i64 m.hei, .slice ro m.rise.length rc, .slice qo m.cost.length tc] 30)) = w2 at *
  obtain ⟨MB, hMB⟩ : ∃ MB, MB = w1.heap.size := ⟨_, rfl⟩
  rw [← hMB] at HDS
  rw [← hMB]
  clear hMB
  have q0 := HDS.out.map.c0
  have q1 := HDS.out.map.c1
  have q2 := HDS.out.map.c2
  have q3 := HDS.out.map.c3
  have r0 := HDS.out.res.c0
  have r1 := HDS.out.res.c1
  have r2 := HDS.out.res.c2
  have r3 := HDS.out.res.c3
  have rf0 := HDS.out.res.fz 0
  have rf1 := HDS.out.res.fz 1
  have rf2 := HDS.out.res.fz 2
  have rf3 := HDS.out.res.fz 3
  have zl0 := HDS.out.res.lt
  have zl2 := HDS.out.map.lt
  have hn1 : ¬ w.heap.size = MB := by have := HDS.out.lM; omega
  have hn5 : ¬ MB = w.heap.size := by have := HDS.out.lM; omega
  go_region_held3 (fun z => z.cell? ⟨MB, 0, none⟩ = some (.int .i64 m.wid) ∧ z.cell? ⟨MB, 1, none⟩ = some (.int .i64 m.hei) ∧ z.cell? ⟨MB, 2, none⟩ = some (.slice ro m.rise.length rc) ∧ z.cell? ⟨MB, 3, none⟩ = some (.slice qo m.cost.length tc)) (first | with_reducible exact ⟨q0, q1, q2, q3⟩ | (with_reducible refine keepT hn5 ?_ _ _ _ _; assumption) | with_reducible exact ⟨(Ext.refl _).drew.cells q0, (Ext.refl _).drew.cells q1, (Ext.refl _).drew.cells q2, (Ext.refl _).drew.cells q3⟩)
    (first
      | (go_at_call 91; (first | (with_reducible refine Calls.mono (DT.openC HDS.out (by omega)) ?_) | (with_reducible refine Calls.mono (DT.openC (HDS.out.exts (Ext.refl _).drew) (by omega)) ?_)); rintro e wn ⟨x, rfl, hD⟩; (clear q0 q1 q2 q3 r0 r1 r2 r3 rf0 rf1 rf2 rf3 zl0 zl2; have HDS := Lib.hid hD; clear hD; have q0 := HDS.out.map.c0; have q1 := HDS.out.map.c1; have q2 := HDS.out.map.c2; have q3 := HDS.out.map.c3; have r0 := HDS.out.res.c0; have r1 := HDS.out.res.c1; have r2 := HDS.out.res.c2; have r3 := HDS.out.res.c3; have rf0 := HDS.out.res.fz 0; have rf1 := HDS.out.res.fz 1; have rf2 := HDS.out.res.fz 2; have rf3 := HDS.out.res.fz 3; have zl0 := HDS.out.res.lt; have zl2 := HDS.out.map.lt))
      | (go_at_call 79; (first | (with_reducible refine Calls.mono (DT.tourC HDS.out (by omega)) ?_) | (with_reducible refine Calls.mono (DT.tourC (HDS.out.exts (Ext.refl _).drew) (by omega)) ?_)); rintro e wn ⟨go, gc, L, rfl, hL, hO, hbl, hD⟩; (clear q0 q1 q2 q3 r0 r1 r2 r3 rf0 rf1 rf2 rf3 zl0 zl2; have HDS := Lib.hid hD; clear hD; have q0 := HDS.out.map.c0; have q1 := HDS.out.map.c1; have q2 := HDS.out.map.c2; have q3 := HDS.out.map.c3; have r0 := HDS.out.res.c0; have r1 := HDS.out.res.c1; have r2 := HDS.out.res.c2; have r3 := HDS.out.res.c3; have rf0 := HDS.out.res.fz 0; have rf1 := HDS.out.res.fz 1; have rf2 := HDS.out.res.fz 2; have rf3 := HDS.out.res.fz 3; have zl0 := HDS.out.res.lt; have zl2 := HDS.out.map.lt; have HO := Lib.hid (hO.lowR hbl); clear hO)))
  all_goals
    go_wp2
    refine bodyPost_ret (v := .tuple #[.agg #[.int .i64 m.wid, .int .i64 m.hei, .slice ro m.rise.length rc, .slice qo m.cost.length tc], .slice co xs.length cap, .int .i64 x, .slice go L.length gc]) ?_ rfl ?_
    · simp [results, Try.results47, go_sem, cell_put, r0, r1, r2, r3]
    · obtain ⟨ao, cap2, e0, hF, hnil, hcl, hcm⟩ := HO.out.fresh
      injection e0 with e1 _ e3
      subst e1 e3
      exact ⟨m, ro, rc, qo, tc, xs, co, cap, x, L, go, gc, rfl, (HDS.out.fin _ _ _ _).1, (HDS.out.fin _ _ _ _).2, hL, (four_put hF (by omega) _ _ _ _).mono (by omega), ⟨hcl, by unfold maxLen at hcm; omega⟩⟩


theorem Drawn.siteD {w w' : World} {m : MapD} {ro : Option Addr} {rc : Nat} {qo : Option Addr} {tc : Nat} {xs : List Ctl} {co : Option Addr} {cap : Nat} (h : Drawn w w' m ro rc qo tc xs co cap) : Site w' m ro qo xs co cap := by
  have h1 := h.l1; have h2 := h.l2; have h3 := h.l3
  exact ⟨h.f1.row, h.f2.row, h.f3.row, by omega, by omega, by omega, h.c3.1⟩
theorem DrawnR.site {w w' : World} {m : MapD} {ro : Option Addr} {rc : Nat} {qo : Option Addr} {tc : Nat} {xs : List Ctl} {co : Option Addr} {cap : Nat} {r : RuleD} {po : Option Addr} {pc : Nat} (h : DrawnR w w' m ro rc qo tc xs co cap r po pc) : Site w' m ro qo xs co cap := h.dr.siteD


end Go.Proofs.Ytidcfohlhamgmaa
