/-
  Proved here: what DrawBestTour, DrawGreedyTour, DrawTourScore, DrawScoreFor and DrawBreakEven hand back; what DrawBreakEven hands back; what DrawTourScore hands back; what DrawScoreFor hands back; what FnScores tells of scores (plain); a draw's rows as a site.
  Conditions: those in each statement.
-/
import Derived.Test.YtidcfohlhamgmaaCurW
import Derived.Deep.RegionHeld3
import Derived.Deep.CutBlock
import Derived.Deep.DeepCutAuto
import Derived.Test.YtidcfohlhamgmaaSco6
import Derived.Test.YtidcfohlhamgmaaSco4
import Derived.Test.YtidcfohlhamgmaaSco3
import Derived.Test.YtidcfohlhamgmaaTour11
namespace Go.Proofs.Ytidcfohlhamgmaa
open Go.RowKit

theorem Owns.lowR {α : Type} {w : World} {base base' : Nat} {e : TypeId} {s : Nat} {cc : α → Nat → Value} {v : Value} {xs : List α} (h : Owns w base e s cc v xs) (hb : base' ≤ base) : Owns w base' e s cc v xs := by
  have h0 : w.ownsRow base e s v xs.length (fl s cc xs) := h
  refine ⟨h0.1, ?_⟩
  rcases h0.2 with hn | ⟨g, cap, cur, e1, e2, e3⟩
  · exact .inl hn
  · exact .inr ⟨g, cap, cur, e1, Nat.le_trans hb e2, e3⟩
theorem put7f {B0 X Y : Nat} {w : World} {ao : Option Addr} {s n : Nat} {c : Nat → Nat → Value} (h : FreshAt B0 w ao s n c) (hX : X < B0) (hY : Y < B0) (u0 u1 u2 u3 t0 t1 t2 : Value) :
    FreshAt B0 (((((((w.setCell ⟨X, 0, none⟩ u0).setCell ⟨X, 1, none⟩ u1).setCell ⟨X, 2, none⟩ u2).setCell ⟨X, 3, none⟩ u3).setCell ⟨Y, 0, none⟩ t0).setCell ⟨Y, 1, none⟩ t1).setCell ⟨Y, 2, none⟩ t2) ao s n c := by
  have hp : ∀ j, ∀ a, ao = some a → a.block ≠ (⟨Y, j, none⟩ : Addr).block := fun j a e q => by
    have h1 := (h.base a e).1
    have q : a.block = Y := q
    omega
  exact (((four_put h hX u0 u1 u2 u3).offs (p := ⟨Y, 0, none⟩) (hp 0) t0).offs (p := ⟨Y, 1, none⟩) (hp 1) t1).offs (p := ⟨Y, 2, none⟩) (hp 2) t2
theorem put7b {base X Y : Nat} {w : World} (hX : base ≤ X) (hY : base ≤ Y) (u0 u1 u2 u3 t0 t1 t2 : Value) :
    Below base w (((((((w.setCell ⟨X, 0, none⟩ u0).setCell ⟨X, 1, none⟩ u1).setCell ⟨X, 2, none⟩ u2).setCell ⟨X, 3, none⟩ u3).setCell ⟨Y, 0, none⟩ t0).setCell ⟨Y, 1, none⟩ t1).setCell ⟨Y, 2, none⟩ t2) :=
  Below.setCell (p := ⟨Y, 2, none⟩) (Below.setCell (p := ⟨Y, 1, none⟩) (Below.setCell (p := ⟨Y, 0, none⟩) (Below.setCell (p := ⟨X, 3, none⟩) (Below.setCell (p := ⟨X, 2, none⟩) (Below.setCell (p := ⟨X, 1, none⟩) (Below.setCell (p := ⟨X, 0, none⟩) (Below.refl _ _) hX u0) hX u1) hX u2) hX u3) hY t0) hY t1) hY t2
theorem off1 {z : World} {X j Y o : Nat} {u v : Value} (h : ¬ Y = X) (hc : z.cell? ⟨Y, o, none⟩ = some v) : (z.setCell ⟨X, j, none⟩ u).cell? ⟨Y, o, none⟩ = some v := (World.cell?_setCell_other _ _ _ _ (fun e => h (by injection e with e; exact e.symm))).trans hc
theorem keep4 {z : World} {X MB RB : Nat} {a b c d e f g : Value} (hM : ¬ MB = X) (hR : ¬ RB = X) (h : z.cell? ⟨MB, 0, none⟩ = some a ∧ z.cell? ⟨MB, 1, none⟩ = some b ∧ z.cell? ⟨MB, 2, none⟩ = some c ∧ z.cell? ⟨MB, 3, none⟩ = some d ∧ z.cell? ⟨RB, 0, none⟩ = some e ∧ z.cell? ⟨RB, 1, none⟩ = some f ∧ z.cell? ⟨RB, 2, none⟩ = some g) (u0 u1 u2 u3 : Value) : (((((z.setCell ⟨X, 0, none⟩ u0).setCell ⟨X, 1, none⟩ u1).setCell ⟨X, 2, none⟩ u2).setCell ⟨X, 3, none⟩ u3)).cell? ⟨MB, 0, none⟩ = some a ∧ (((((z.setCell ⟨X, 0, none⟩ u0).setCell ⟨X, 1, none⟩ u1).setCell ⟨X, 2, none⟩ u2).setCell ⟨X, 3, none⟩ u3)).cell? ⟨MB, 1, none⟩ = some b ∧ (((((z.setCell ⟨X, 0, none⟩ u0).setCell ⟨X, 1, none⟩ u1).setCell ⟨X, 2, none⟩ u2).setCell ⟨X, 3, none⟩ u3)).cell? ⟨MB, 2, none⟩ = some c ∧ (((((z.setCell ⟨X, 0, none⟩ u0).setCell ⟨X, 1, none⟩ u1).setCell ⟨X, 2, none⟩ u2).setCell ⟨X, 3, none⟩ u3)).cell? ⟨MB, 3, none⟩ = some d ∧ (((((z.setCell ⟨X, 0, none⟩ u0).setCell ⟨X, 1, none⟩ u1).setCell ⟨X, 2, none⟩ u2).setCell ⟨X, 3, none⟩ u3)).cell? ⟨RB, 0, none⟩ = some e ∧ (((((z.setCell ⟨X, 0, none⟩ u0).setCell ⟨X, 1, none⟩ u1).setCell ⟨X, 2, none⟩ u2).setCell ⟨X, 3, none⟩ u3)).cell? ⟨RB, 1, none⟩ = some f ∧ (((((z.setCell ⟨X, 0, none⟩ u0).setCell ⟨X, 1, none⟩ u1).setCell ⟨X, 2, none⟩ u2).setCell ⟨X, 3, none⟩ u3)).cell? ⟨RB, 2, none⟩ = some g :=
  ⟨off1 hM (off1 hM (off1 hM (off1 hM h.1))), off1 hM (off1 hM (off1 hM (off1 hM h.2.1))), off1 hM (off1 hM (off1 hM (off1 hM h.2.2.1))), off1 hM (off1 hM (off1 hM (off1 hM h.2.2.2.1))), off1 hR (off1 hR (off1 hR (off1 hR h.2.2.2.2.1))), off1 hR (off1 hR (off1 hR (off1 hR h.2.2.2.2.2.1))), off1 hR (off1 hR (off1 hR (off1 hR h.2.2.2.2.2.2)))⟩
theorem keepE {z z' : World} {MB RB : Nat} {a b c d e f g : Value} (hx : Ext z z') (h : z.cell? ⟨MB, 0, none⟩ = some a ∧ z.cell? ⟨MB, 1, none⟩ = some b ∧ z.cell? ⟨MB, 2, none⟩ = some c ∧ z.cell? ⟨MB, 3, none⟩ = some d ∧ z.cell? ⟨RB, 0, none⟩ = some e ∧ z.cell? ⟨RB, 1, none⟩ = some f ∧ z.cell? ⟨RB, 2, none⟩ = some g) : z'.cell? ⟨MB, 0, none⟩ = some a ∧ z'.cell? ⟨MB, 1, none⟩ = some b ∧ z'.cell? ⟨MB, 2, none⟩ = some c ∧ z'.cell? ⟨MB, 3, none⟩ = some d ∧ z'.cell? ⟨RB, 0, none⟩ = some e ∧ z'.cell? ⟨RB, 1, none⟩ = some f ∧ z'.cell? ⟨RB, 2, none⟩ = some g := ⟨hx.cells h.1, hx.cells h.2.1, hx.cells h.2.2.1, hx.cells h.2.2.2.1, hx.cells h.2.2.2.2.1, hx.cells h.2.2.2.2.2.1, hx.cells h.2.2.2.2.2.2⟩
theorem keep3 {z : World} {X MB RB : Nat} {a b c d e f g : Value} (hM : ¬ MB = X) (hR : ¬ RB = X) (h : z.cell? ⟨MB, 0, none⟩ = some a ∧ z.cell? ⟨MB, 1, none⟩ = some b ∧ z.cell? ⟨MB, 2, none⟩ = some c ∧ z.cell? ⟨MB, 3, none⟩ = some d ∧ z.cell? ⟨RB, 0, none⟩ = some e ∧ z.cell? ⟨RB, 1, none⟩ = some f ∧ z.cell? ⟨RB, 2, none⟩ = some g) (u0 u1 u2 : Value) : ((((z.setCell ⟨X, 0, none⟩ u0).setCell ⟨X, 1, none⟩ u1).setCell ⟨X, 2, none⟩ u2)).cell? ⟨MB, 0, none⟩ = some a ∧ ((((z.setCell ⟨X, 0, none⟩ u0).setCell ⟨X, 1, none⟩ u1).setCell ⟨X, 2, none⟩ u2)).cell? ⟨MB, 1, none⟩ = some b ∧ ((((z.setCell ⟨X, 0, none⟩ u0).setCell ⟨X, 1, none⟩ u1).setCell ⟨X, 2, none⟩ u2)).cell? ⟨MB, 2, none⟩ = some c ∧ ((((z.setCell ⟨X, 0, none⟩ u0).setCell ⟨X, 1, none⟩ u1).setCell ⟨X, 2, none⟩ u2)).cell? ⟨MB, 3, none⟩ = some d ∧ ((((z.setCell ⟨X, 0, none⟩ u0).setCell ⟨X, 1, none⟩ u1).setCell ⟨X, 2, none⟩ u2)).cell? ⟨RB, 0, none⟩ = some e ∧ ((((z.setCell ⟨X, 0, none⟩ u0).setCell ⟨X, 1, none⟩ u1).setCell ⟨X, 2, none⟩ u2)).cell? ⟨RB, 1, none⟩ = some f ∧ ((((z.setCell ⟨X, 0, none⟩ u0).setCell ⟨X, 1, none⟩ u1).setCell ⟨X, 2, none⟩ u2)).cell? ⟨RB, 2, none⟩ = some g :=
  ⟨off1 hM (off1 hM (off1 hM h.1)), off1 hM (off1 hM (off1 hM h.2.1)), off1 hM (off1 hM (off1 hM h.2.2.1)), off1 hM (off1 hM (off1 hM h.2.2.2.1)), off1 hR (off1 hR (off1 hR h.2.2.2.2.1)), off1 hR (off1 hR (off1 hR h.2.2.2.2.2.1)), off1 hR (off1 hR (off1 hR h.2.2.2.2.2.2))⟩
/-- what a draw hands back: a map, controls, a rule -/
structure DrawnR (w w' : World) (m : MapD) (ro : Option Addr) (rc : Nat) (qo : Option Addr) (tc : Nat) (xs : List Ctl) (co : Option Addr) (cap : Nat) (r : RuleD) (po : Option Addr) (pc : Nat) : Prop where
  dr : Drawn w w' m ro rc qo tc xs co cap
  l4 : r.pts.length ≤ 12
  f4 : FreshAt w.heap.size w' po 1 r.pts.length (ic r.pts)
  c4 : r.pts.length ≤ pc ∧ pc ≤ 9223372036854775807
  ext : Ext w w'
/-- a draw under way: results, boxes, rows, the cursor -/
structure DS (w y : World) (n MB RB : Nat) (m : MapD) (ro : Option Addr) (rc : Nat) (qo : Option Addr) (tc : Nat) (xs : List Ctl) (co : Option Addr) (cap : Nat) (r : RuleD) (po : Option Addr) (pc : Nat) : Prop where
  ext : Ext w y
  res : ResM y w.heap.size
  rer : ResR y (w.heap.size + 1)
  map : Box4 y MB (.int .i64 m.wid) (.int .i64 m.hei) (.slice ro m.rise.length rc) (.slice qo m.cost.length tc)
  b0 : y.cell? ⟨RB, 0, none⟩ = some (.slice po r.pts.length pc)
  b1 : y.cell? ⟨RB, 1, none⟩ = some (.int .i64 r.lim)
  b2 : y.cell? ⟨RB, 2, none⟩ = some (.int .i64 r.pen)
  f1 : FreshAt (w.heap.size + 1 + 1 + 1) y ro 1 m.rise.length (ic m.rise)
  f2 : FreshAt (w.heap.size + 1 + 1 + 1) y qo 1 m.cost.length (ic m.cost)
  f3 : FreshAt (w.heap.size + 1 + 1 + 1) y co 2 xs.length (fun k => (nth xs k).c)
  f4 : FreshAt (w.heap.size + 1 + 1 + 1) y po 1 r.pts.length (ic r.pts)
  cur : Cu y (w.heap.size + 1 + 1) n
  lM : w.heap.size + 1 + 1 + 1 ≤ MB
  lR : w.heap.size + 1 + 1 + 1 ≤ RB
  lens : m.rise.length ≤ 21 ∧ m.cost.length ≤ 20 ∧ xs.length ≤ 11 ∧ r.pts.length ≤ 12
  caps : (m.rise.length ≤ rc ∧ rc ≤ 9223372036854775807) ∧ (m.cost.length ≤ tc ∧ tc ≤ 9223372036854775807) ∧ (co = none → cap = 0) ∧ (xs.length ≤ cap ∧ cap ≤ 9223372036854775807) ∧ (r.pts.length ≤ pc ∧ pc ≤ 9223372036854775807)
section
variable {w y y' : World} {n n' MB RB : Nat} {m : MapD} {ro : Option Addr} {rc : Nat} {qo : Option Addr} {tc : Nat} {xs : List Ctl} {co : Option Addr} {cap : Nat} {r : RuleD} {po : Option Addr} {pc : Nat}
theorem DS.exts (h : DS w y n MB RB m ro rc qo tc xs co cap r po pc) (hx : Ext y y') : DS w y' n MB RB m ro rc qo tc xs co cap r po pc :=
  ⟨h.ext.trans hx, h.res.ext hx, h.rer.ext hx, h.map.ext hx, hx.cells h.b0, hx.cells h.b1, hx.cells h.b2, h.f1.ext hx, h.f2.ext hx, h.f3.ext hx, h.f4.ext hx, h.cur.ext hx, h.lM, h.lR, h.lens, h.caps⟩
theorem DS.curs (h : DS w y n MB RB m ro rc qo tc xs co cap r po pc) (hc : Cu y' (w.heap.size + 1 + 1) n') (ht : Touch y y' (Span (w.heap.size + 1 + 1) (w.heap.size + 1 + 1 + 1))) : DS w y' n' MB RB m ro rc qo tc xs co cap r po pc := by
  have hM := h.lM; have hR := h.lR
  have hlR := World.block_lt_of_cell? _ _ h.b0
  have nM : ¬ Span (w.heap.size + 1 + 1) (w.heap.size + 1 + 1 + 1) MB := fun hs => by have h2 := hs.2; omega
  have nR : ¬ Span (w.heap.size + 1 + 1) (w.heap.size + 1 + 1 + 1) RB := fun hs => by have h2 := hs.2; omega
  have k : ∀ o, y'.cell? ⟨MB, o, none⟩ = y.cell? ⟨MB, o, none⟩ := fun o => ht.cell h.map.lt nM
  have kr : ∀ o, y'.cell? ⟨RB, o, none⟩ = y.cell? ⟨RB, o, none⟩ := fun o => ht.cell hlR nR
  exact ⟨Touch.spanExt h.ext ht (by omega), h.res.touch ht (by omega), h.rer.touch ht (by omega), ⟨(k 0).trans h.map.c0, (k 1).trans h.map.c1, (k 2).trans h.map.c2, (k 3).trans h.map.c3⟩, (kr 0).trans h.b0, (kr 1).trans h.b1, (kr 2).trans h.b2, h.f1.curs ht (Nat.lt_succ_self _), h.f2.curs ht (Nat.lt_succ_self _), h.f3.curs ht (Nat.lt_succ_self _), h.f4.curs ht (Nat.lt_succ_self _), hc, h.lM, h.lR, h.lens, h.caps⟩
theorem fresh_below {w w' : World} {B0 base : Nat} {ao : Option Addr} {s n : Nat} {c : Nat → Nat → Value} (h : FreshAt B0 w ao s n c) (hb : Below base w w') (hlt : ∀ a, ao = some a → a.block < base) : FreshAt B0 w' ao s n c := by
  refine ⟨fun hn => ?_, fun a e => ⟨(h.base a e).1, Nat.lt_of_lt_of_le (h.base a e).2 hb.size⟩, fun b off e j => (hb.frozen (p := ⟨b, j, none⟩) (show b < base from hlt _ e)).trans (h.free b off e j)⟩
  obtain ⟨b, off, e, H⟩ := h.row hn
  exact ⟨b, off, e, fun k hk j hj => (hb.cell (p := ⟨b, off + k * s + j, none⟩) (show b < base from hlt _ e)).trans (H k hk j hj)⟩
/-- the blocks of a draw lie below a number -/
def LtsD (base MB RB : Nat) (ro qo co po : Option Addr) : Prop := MB < base ∧ RB < base ∧ (∀ a, ro = some a → a.block < base) ∧ (∀ a, qo = some a → a.block < base) ∧ (∀ a, co = some a → a.block < base) ∧ ∀ a, po = some a → a.block < base
theorem DS.lts (h : DS w y n MB RB m ro rc qo tc xs co cap r po pc) : LtsD y.heap.size MB RB ro qo co po := ⟨h.map.lt, World.block_lt_of_cell? _ _ h.b0, fun a e => (h.f1.base a e).2, fun a e => (h.f2.base a e).2, fun a e => (h.f3.base a e).2, fun a e => (h.f4.base a e).2⟩
theorem DS.belows (h : DS w y n MB RB m ro rc qo tc xs co cap r po pc) {base : Nat} (hl : LtsD base MB RB ro qo co po) (hb : Below base y y') (hB : w.heap.size + 1 + 1 + 1 ≤ base) : DS w y' n MB RB m ro rc qo tc xs co cap r po pc := by
  have k : ∀ b o, b < base → y'.cell? ⟨b, o, none⟩ = y.cell? ⟨b, o, none⟩ := fun b o hlt => hb.cell (p := ⟨b, o, none⟩) hlt
  exact ⟨Ext.below h.ext hb (by omega), h.res.below hb (by omega), ⟨(k _ _ (by omega)).trans h.rer.c0, (k _ _ (by omega)).trans h.rer.c1, (k _ _ (by omega)).trans h.rer.c2, fun j => (hb.frozen (p := ⟨w.heap.size + 1, j, none⟩) (by show w.heap.size + 1 < base; omega)).trans (h.rer.fz j)⟩, ⟨(k _ _ hl.1).trans h.map.c0, (k _ _ hl.1).trans h.map.c1, (k _ _ hl.1).trans h.map.c2, (k _ _ hl.1).trans h.map.c3⟩, (k _ _ hl.2.1).trans h.b0, (k _ _ hl.2.1).trans h.b1, (k _ _ hl.2.1).trans h.b2, fresh_below h.f1 hb hl.2.2.1, fresh_below h.f2 hb hl.2.2.2.1, fresh_below h.f3 hb hl.2.2.2.2.1, fresh_below h.f4 hb hl.2.2.2.2.2, h.cur.below hb (by omega), h.lM, h.lR, h.lens, h.caps⟩
theorem DS.openC (h : DS w y n MB RB m ro rc qo tc xs co cap r po pc) (hn : n ≤ 800000) : Calls Try.prog 91 #[.pointer (some ⟨w.heap.size + 1 + 1, 0, none⟩), .agg #[.int .i64 m.wid, .int .i64 m.hei, .slice ro m.rise.length rc, .slice qo m.cost.length tc]] y fun e w' => ∃ x : Int, e = .returned (.int .i64 x) ∧ DS w w' (n + 3) MB RB m ro rc qo tc xs co cap r po pc := by
  have hl := h.lens
  refine (cu_openCell (m := m) (ac := rc) (bc := tc) h.cur hn h.f1.row h.f2.row (by omega) (by omega) (fun a e q => by have := (h.f1.base a e).1; omega) (fun a e q => by have := (h.f2.base a e).1; omega)).mono ?_
  rintro e w' ⟨x, rfl, _, hc, ht⟩
  exact ⟨x, rfl, h.curs hc ht⟩
theorem DS.tourC (h : DS w y n MB RB m ro rc qo tc xs co cap r po pc) (hn : n ≤ 700000) : Calls Try.prog 79 #[.pointer (some ⟨w.heap.size + 1 + 1, 0, none⟩), .slice co xs.length cap] y fun e w' => ∃ (go : Option Addr) (gc : Nat) (L : List Int), e = .returned (.slice go L.length gc) ∧ L.length ≤ 5 ∧ Owns w' y.heap.size 3 1 icc (.slice go L.length gc) L ∧ w.heap.size + 1 + 1 + 1 ≤ y.heap.size ∧ DS w w' (n + 40) MB RB m ro rc qo tc xs co cap r po pc := by
  have hl := h.lens
  have hlt := h.cur.lt
  refine (cu_tour (cap := cap) h.cur hn h.f3.row (by omega) (fun a e q => by have := (h.f3.base a e).1; omega)).mono ?_
  rintro e w' ⟨go, gc, L, rfl, hL, hO, hc, ht⟩
  exact ⟨go, gc, L, rfl, hL, hO, hlt, h.curs hc ht⟩
theorem DS.tourS (h : DS w y n MB RB m ro rc qo tc xs co cap r po pc) (hn : n ≤ 700000) : Calls Try.prog 79 #[.pointer (some ⟨w.heap.size + 1 + 1, 0, none⟩), .slice co xs.length cap] y fun e w' => ∃ (go : Option Addr) (gc : Nat) (L : List Int), e = .returned (.slice go L.length gc) ∧ L.length ≤ 5 ∧ Owns w' y.heap.size 3 1 icc (.slice go L.length gc) L ∧ w.heap.size + 1 + 1 + 1 ≤ y.heap.size ∧ y.heap.size ≤ w'.heap.size ∧ DS w w' (n + 40) MB RB m ro rc qo tc xs co cap r po pc := by
  have hl := h.lens
  have hlt := h.cur.lt
  refine (cu_tour (cap := cap) h.cur hn h.f3.row (by omega) (fun a e q => by have := (h.f3.base a e).1; omega)).mono ?_
  rintro e w' ⟨go, gc, L, rfl, hL, hO, hc, ht⟩
  exact ⟨go, gc, L, rfl, hL, hO, hlt, ht.size, h.curs hc ht⟩
theorem DS.codeC (h : DS w y n MB RB m ro rc qo tc xs co cap r po pc) (hn : n ≤ 700000) : Calls Try.prog 92 #[.pointer (some ⟨w.heap.size + 1 + 1, 0, none⟩), .slice co xs.length cap] y fun e w' => ∃ x : Int, e = .returned (.int .i64 x) ∧ DS w w' (n + 3) MB RB m ro rc qo tc xs co cap r po pc := by
  have hl := h.lens
  refine (cu_codeOf (cap := cap) h.cur (by omega) h.f3.row (by omega) (fun a e q => by have := (h.f3.base a e).1; omega)).mono ?_
  rintro e w' ⟨x, rfl, hc, ht⟩
  exact ⟨x, rfl, h.curs hc ht⟩
theorem DS.fin (h : DS w y n MB RB m ro rc qo tc xs co cap r po pc) (u0 u1 u2 u3 t0 t1 t2 : Value) :
    DrawnR w (((((((y.setCell ⟨w.heap.size, 0, none⟩ u0).setCell ⟨w.heap.size, 1, none⟩ u1).setCell ⟨w.heap.size, 2, none⟩ u2).setCell ⟨w.heap.size, 3, none⟩ u3).setCell ⟨w.heap.size + 1, 0, none⟩ t0).setCell ⟨w.heap.size + 1, 1, none⟩ t1).setCell ⟨w.heap.size + 1, 2, none⟩ t2) m ro rc qo tc xs co cap r po pc := by
  have hl := h.lens; have hc := h.caps
  exact ⟨⟨hl.1, hl.2.1, hc.1, hc.2.1, (put7f h.f1 (by omega) (by omega) _ _ _ _ _ _ _).mono (by omega), (put7f h.f2 (by omega) (by omega) _ _ _ _ _ _ _).mono (by omega), hl.2.2.1, (put7f h.f3 (by omega) (by omega) _ _ _ _ _ _ _).mono (by omega), hc.2.2.1, hc.2.2.2.1⟩, hl.2.2.2, (put7f h.f4 (by omega) (by omega) _ _ _ _ _ _ _).mono (by omega), hc.2.2.2.2, Ext.below h.ext (put7b (base := w.heap.size) (Nat.le_refl _) (Nat.le_succ _) _ _ _ _ _ _ _) (Nat.le_refl _)⟩
end


set_option maxRecDepth 100000 in
set_option maxHeartbeats 4000000 in
theorem draw_break {w : World} {co0 : Option Addr} {m0 cc : Nat} {bs : Nat → Nat} (hr : RowAt w co0 1 m0 (by8 bs)) (hb : ∀ k, bs k < 256) (hm : m0 ≤ 9223372036854775807) :
    Calls Try.prog 42 #[.slice co0 m0 cc] w fun e w' => ∃ (m : MapD) (ro : Option Addr) (rc : Nat) (qo : Option Addr) (tc : Nat) (xs : List Ctl) (co : Option Addr) (cap : Nat) (r : RuleD) (po : Option Addr) (pc : Nat) (x : Int), e = .returned (.tuple #[m.val ro rc qo tc, .slice co xs.length cap, r.val po pc, .int .i64 x]) ∧ DrawnR w w' m ro rc qo tc xs co cap r po pc := by
  have hxa := ((Ext.refl w).alloc (.cells #[.int .i64 0, .int .i64 0, .slice none 0 0, .slice none 0 0] 30))
  have hxb := ((Ext.refl (w.alloc (.cells #[.int .i64 0, .int .i64 0, .slice none 0 0, .slice none 0 0] 30))).alloc (.cells #[.slice none 0 0, .int .i64 0, .int .i64 0] 43))
  have hx0 := hxa.trans hxb
  have h0 := fun T => cu_box (cc := cc) (T := T) (hr.ext hx0) hb hm
  have hs0 : ∀ o, (((w.alloc (.cells #[.int .i64 0, .int .i64 0, .slice none 0 0, .slice none 0 0] 30)).alloc (.cells #[.slice none 0 0, .int .i64 0, .int .i64 0] 43)).alloc o).heap.size = w.heap.size + 1 + 1 + 1 := fun o => by simp
  rw [World.size_alloc, World.size_alloc] at h0
  have HS := Lib.hid (fun T => cu_scored (most := 10) (h0 T) (by omega) (by decide))
  have HR0 := Lib.hid (fun o => ((ResM.of (w := w) (T := 30) (Ext.refl _)).ext hxb).ext ((Ext.refl _).alloc o))
  have hq0 := ResR.of (w := (w.alloc (.cells #[.int .i64 0, .int .i64 0, .slice none 0 0, .slice none 0 0] 30))) (T := 43) (Ext.refl _)
  rw [World.size_alloc] at hq0
  have HQ0 := Lib.hid (fun o => hq0.ext ((Ext.refl _).alloc o))
  have HX0 := Lib.hid (fun o => hx0.alloc o)
  have HSZ := Lib.hid hs0
  clear hr hb h0 hx0 hxa hxb hq0 hs0
  go_enter Try.func42, Try.ntmps42
  go_wp2_with fail
  refine (HS.out _).mono ?_; rintro e w1 ⟨m, ro, rc, qo, tc, xs, co, cap, r, po, pc, rfl, hD, hl4, hf4, hc4, hc, ht⟩
  obtain ⟨hl1, hl2, hc1, hc2, hf1, hf2, hl3, hf3, hn3, hc3⟩ := hD
  rw [HSZ.out] at hf1 hf2 hf3 hf4
  have hz := ht.size
  rw [HSZ.out] at hz
  have hx2 : ∀ T1 T2, Ext w1 ((w1.alloc (.cells #[.int .i64 m.wid, .int .i64 m.hei, .slice ro m.rise.length rc, .slice qo m.cost.length tc] T1)).alloc (.cells #[.slice po r.pts.length pc, .int .i64 r.lim, .int .i64 r.pen] T2)) := fun _ _ => ((Ext.refl _).alloc _).alloc _
  have hds : ∀ T1 T2, DS w ((w1.alloc (.cells #[.int .i64 m.wid, .int .i64 m.hei, .slice ro m.rise.length rc, .slice qo m.cost.length tc] T1)).alloc (.cells #[.slice po r.pts.length pc, .int .i64 r.lim, .int .i64 r.pen] T2)) 400 w1.heap.size (w1.heap.size + 1) m ro rc qo tc xs co cap r po pc := fun T1 T2 => by
    have hxx := hx2 T1 T2
    refine ⟨Touch.spanExt (HX0.out _) ((ht.trans (Touch.of_ext hxx))) (by omega), ((HR0.out _).touch ht (by omega)).ext hxx, ((HQ0.out _).touch ht (by omega)).ext hxx, ⟨by go_simp, by go_simp, by go_simp, by go_simp⟩, by go_simp, by go_simp, by go_simp, hf1.ext hxx, hf2.ext hxx, hf3.ext hxx, hf4.ext hxx, (hc.mono (by omega)).ext hxx, hz, by omega, ⟨hl1, hl2, hl3, hl4⟩, ⟨hc1, hc2, hn3, hc3, hc4⟩⟩
  have HDS := Lib.hid (hds 30 43)
  unfold MapD.val RuleD.val
  clear hx2 hds hz hl1 hl2 hl3 hl4 hc1 hc2 hc3 hc4 hn3 hf1 hf2 hf3 hf4 hc ht HS HR0 HQ0 HX0 HSZ
  go_upto_region 3 with fail
  generalize ((w1.alloc (.cells #[.int .i64 m.wid, .int .i64 m.hei, .slice ro m.rise.length rc, .slice qo m.cost.length tc] 30)).alloc (.cells #[.slice po r.pts.length pc, .int .i64 r.lim, .int .i64 r.pen] 43)) = w2 at *
  obtain ⟨MB, hMB⟩ : ∃ MB, MB = w1.heap.size := ⟨_, rfl⟩
  obtain ⟨RB, hRB⟩ : ∃ RB, RB = w1.heap.size + 1 := ⟨_, rfl⟩
  rw [← hRB, ← hMB] at HDS
  rw [← hRB, ← hMB]
  clear hMB hRB
  have q0 := HDS.out.map.c0
  have q1 := HDS.out.map.c1
  have q2 := HDS.out.map.c2
  have q3 := HDS.out.map.c3
  have b0 := HDS.out.b0
  have b1 := HDS.out.b1
  have b2 := HDS.out.b2
  have r0 := HDS.out.res.c0
  have r1 := HDS.out.res.c1
  have r2 := HDS.out.res.c2
  have r3 := HDS.out.res.c3
  have rf0 := HDS.out.res.fz 0
  have rf1 := HDS.out.res.fz 1
  have rf2 := HDS.out.res.fz 2
  have rf3 := HDS.out.res.fz 3
  have t0 := HDS.out.rer.c0
  have t1 := HDS.out.rer.c1
  have t2 := HDS.out.rer.c2
  have tf0 := HDS.out.rer.fz 0
  have tf1 := HDS.out.rer.fz 1
  have tf2 := HDS.out.rer.fz 2
  have zl0 := HDS.out.res.lt
  have zl1 := HDS.out.rer.lt
  have zl2 := HDS.out.map.lt
  have hn1 : ¬ w.heap.size = MB := by have := HDS.out.lM; omega
  have hn2 : ¬ w.heap.size + 1 = MB := by have := HDS.out.lM; omega
  have hn3 : ¬ w.heap.size = RB := by have := HDS.out.lR; omega
  have hn4 : ¬ w.heap.size + 1 = RB := by have := HDS.out.lR; omega
  have hn5 : ¬ MB = w.heap.size := by have := HDS.out.lM; omega
  have hn6 : ¬ MB = w.heap.size + 1 := by have := HDS.out.lM; omega
  have hn7 : ¬ RB = w.heap.size := by have := HDS.out.lR; omega
  have hn8 : ¬ RB = w.heap.size + 1 := by have := HDS.out.lR; omega
  go_region_held3 (fun z => z.cell? ⟨MB, 0, none⟩ = some (.int .i64 m.wid) ∧ z.cell? ⟨MB, 1, none⟩ = some (.int .i64 m.hei) ∧ z.cell? ⟨MB, 2, none⟩ = some (.slice ro m.rise.length rc) ∧ z.cell? ⟨MB, 3, none⟩ = some (.slice qo m.cost.length tc) ∧ z.cell? ⟨RB, 0, none⟩ = some (.slice po r.pts.length pc) ∧ z.cell? ⟨RB, 1, none⟩ = some (.int .i64 r.lim) ∧ z.cell? ⟨RB, 2, none⟩ = some (.int .i64 r.pen)) (first | with_reducible exact ⟨q0, q1, q2, q3, b0, b1, b2⟩ | (with_reducible refine keep4 hn5 hn7 ?_ _ _ _ _; assumption) | (with_reducible refine keep3 hn6 hn8 ?_ _ _ _; assumption) | with_reducible exact ⟨(Ext.refl _).drew.cells q0, (Ext.refl _).drew.cells q1, (Ext.refl _).drew.cells q2, (Ext.refl _).drew.cells q3, (Ext.refl _).drew.cells b0, (Ext.refl _).drew.cells b1, (Ext.refl _).drew.cells b2⟩)
    (first
      | (go_at_call 92; (first | (with_reducible refine Calls.mono (DS.codeC HDS.out (by omega)) ?_) | (with_reducible refine Calls.mono (DS.codeC (HDS.out.exts (Ext.refl _).drew) (by omega)) ?_)); rintro e wn ⟨x, rfl, hD⟩; (clear q0 q1 q2 q3 b0 b1 b2 r0 r1 r2 r3 rf0 rf1 rf2 rf3 t0 t1 t2 tf0 tf1 tf2 zl0 zl1 zl2; have HDS := Lib.hid hD; clear hD; have q0 := HDS.out.map.c0; have q1 := HDS.out.map.c1; have q2 := HDS.out.map.c2; have q3 := HDS.out.map.c3; have b0 := HDS.out.b0; have b1 := HDS.out.b1; have b2 := HDS.out.b2; have r0 := HDS.out.res.c0; have r1 := HDS.out.res.c1; have r2 := HDS.out.res.c2; have r3 := HDS.out.res.c3; have rf0 := HDS.out.res.fz 0; have rf1 := HDS.out.res.fz 1; have rf2 := HDS.out.res.fz 2; have rf3 := HDS.out.res.fz 3; have t0 := HDS.out.rer.c0; have t1 := HDS.out.rer.c1; have t2 := HDS.out.rer.c2; have tf0 := HDS.out.rer.fz 0; have tf1 := HDS.out.rer.fz 1; have tf2 := HDS.out.rer.fz 2; have zl0 := HDS.out.res.lt; have zl1 := HDS.out.rer.lt; have zl2 := HDS.out.map.lt)))
  all_goals
    go_wp2
    refine bodyPost_ret (v := .tuple #[.agg #[.int .i64 m.wid, .int .i64 m.hei, .slice ro m.rise.length rc, .slice qo m.cost.length tc], .slice co xs.length cap, .agg #[.slice po r.pts.length pc, .int .i64 r.lim, .int .i64 r.pen], .int .i64 x]) ?_ rfl ?_
    · simp [results, Try.results42, go_sem, cell_put, r0, r1, r2, r3, t0, t1, t2]
    · exact ⟨m, ro, rc, qo, tc, xs, co, cap, r, po, pc, x, rfl, HDS.out.fin _ _ _ _ _ _ _⟩


set_option maxRecDepth 100000 in
set_option maxHeartbeats 4000000 in
theorem draw_tscore {w : World} {co0 : Option Addr} {m0 cc : Nat} {bs : Nat → Nat} (hr : RowAt w co0 1 m0 (by8 bs)) (hb : ∀ k, bs k < 256) (hm : m0 ≤ 9223372036854775807) :
    Calls Try.prog 41 #[.slice co0 m0 cc] w fun e w' => ∃ (m : MapD) (ro : Option Addr) (rc : Nat) (qo : Option Addr) (tc : Nat) (xs : List Ctl) (co : Option Addr) (cap : Nat) (r : RuleD) (po : Option Addr) (pc : Nat) (x : Int) (L : List Int) (go : Option Addr) (gc : Nat), e = .returned (.tuple #[m.val ro rc qo tc, .slice co xs.length cap, r.val po pc, .int .i64 x, .slice go L.length gc]) ∧ DrawnR w w' m ro rc qo tc xs co cap r po pc ∧ L.length ≤ 5 ∧ FreshAt w.heap.size w' go 1 L.length (ic L) ∧ (L.length ≤ gc ∧ gc ≤ 9223372036854775807) := by
  have hxa := ((Ext.refl w).alloc (.cells #[.int .i64 0, .int .i64 0, .slice none 0 0, .slice none 0 0] 30))
  have hxb := ((Ext.refl (w.alloc (.cells #[.int .i64 0, .int .i64 0, .slice none 0 0, .slice none 0 0] 30))).alloc (.cells #[.slice none 0 0, .int .i64 0, .int .i64 0] 43))
  have hx0 := hxa.trans hxb
  have h0 := fun T => cu_box (cc := cc) (T := T) (hr.ext hx0) hb hm
  have hs0 : ∀ o, (((w.alloc (.cells #[.int .i64 0, .int .i64 0, .slice none 0 0, .slice none 0 0] 30)).alloc (.cells #[.slice none 0 0, .int .i64 0, .int .i64 0] 43)).alloc o).heap.size = w.heap.size + 1 + 1 + 1 := fun o => by simp
  rw [World.size_alloc, World.size_alloc] at h0
  have HS := Lib.hid (fun T => cu_scored (most := 10) (h0 T) (by omega) (by decide))
  have HR0 := Lib.hid (fun o => ((ResM.of (w := w) (T := 30) (Ext.refl _)).ext hxb).ext ((Ext.refl _).alloc o))
  have hq0 := ResR.of (w := (w.alloc (.cells #[.int .i64 0, .int .i64 0, .slice none 0 0, .slice none 0 0] 30))) (T := 43) (Ext.refl _)
  rw [World.size_alloc] at hq0
  have HQ0 := Lib.hid (fun o => hq0.ext ((Ext.refl _).alloc o))
  have HX0 := Lib.hid (fun o => hx0.alloc o)
  have HSZ := Lib.hid hs0
  clear hr hb h0 hx0 hxa hxb hq0 hs0
  go_enter Try.func41, Try.ntmps41
  go_wp2_with fail
  refine (HS.out _).mono ?_; rintro e w1 ⟨m, ro, rc, qo, tc, xs, co, cap, r, po, pc, rfl, hD, hl4, hf4, hc4, hc, ht⟩
  obtain ⟨hl1, hl2, hc1, hc2, hf1, hf2, hl3, hf3, hn3, hc3⟩ := hD
  rw [HSZ.out] at hf1 hf2 hf3 hf4
  have hz := ht.size
  rw [HSZ.out] at hz
  have hx2 : ∀ T1 T2, Ext w1 ((w1.alloc (.cells #[.int .i64 m.wid, .int .i64 m.hei, .slice ro m.rise.length rc, .slice qo m.cost.length tc] T1)).alloc (.cells #[.slice po r.pts.length pc, .int .i64 r.lim, .int .i64 r.pen] T2)) := fun _ _ => ((Ext.refl _).alloc _).alloc _
  have hds : ∀ T1 T2, DS w ((w1.alloc (.cells #[.int .i64 m.wid, .int .i64 m.hei, .slice ro m.rise.length rc, .slice qo m.cost.length tc] T1)).alloc (.cells #[.slice po r.pts.length pc, .int .i64 r.lim, .int .i64 r.pen] T2)) 400 w1.heap.size (w1.heap.size + 1) m ro rc qo tc xs co cap r po pc := fun T1 T2 => by
    have hxx := hx2 T1 T2
    refine ⟨Touch.spanExt (HX0.out _) ((ht.trans (Touch.of_ext hxx))) (by omega), ((HR0.out _).touch ht (by omega)).ext hxx, ((HQ0.out _).touch ht (by omega)).ext hxx, ⟨by go_simp, by go_simp, by go_simp, by go_simp⟩, by go_simp, by go_simp, by go_simp, hf1.ext hxx, hf2.ext hxx, hf3.ext hxx, hf4.ext hxx, (hc.mono (by omega)).ext hxx, hz, by omega, ⟨hl1, hl2, hl3, hl4⟩, ⟨hc1, hc2, hn3, hc3, hc4⟩⟩
  have HDS := Lib.hid (hds 30 43)
  unfold MapD.val RuleD.val
  clear hx2 hds hz hl1 hl2 hl3 hl4 hc1 hc2 hc3 hc4 hn3 hf1 hf2 hf3 hf4 hc ht HS HR0 HQ0 HX0 HSZ
  go_upto_region 3 with fail
  generalize ((w1.alloc (.cells #[.int .i64 m.wid, .int .i64 m.hei, .slice ro m.rise.length rc, .slice qo m.cost.length tc] 30)).alloc (.cells #[.slice po r.pts.length pc, .int .i64 r.lim, .int .i64 r.pen] 43)) = w2 at *
  obtain ⟨MB, hMB⟩ : ∃ MB, MB = w1.heap.size := ⟨_, rfl⟩
  obtain ⟨RB, hRB⟩ : ∃ RB, RB = w1.heap.size + 1 := ⟨_, rfl⟩
  rw [← hRB, ← hMB] at HDS
  rw [← hRB, ← hMB]
  clear hMB hRB
  have q0 := HDS.out.map.c0
  have q1 := HDS.out.map.c1
  have q2 := HDS.out.map.c2
  have q3 := HDS.out.map.c3
  have b0 := HDS.out.b0
  have b1 := HDS.out.b1
  have b2 := HDS.out.b2
  have r0 := HDS.out.res.c0
  have r1 := HDS.out.res.c1
  have r2 := HDS.out.res.c2
  have r3 := HDS.out.res.c3
  have rf0 := HDS.out.res.fz 0
  have rf1 := HDS.out.res.fz 1
  have rf2 := HDS.out.res.fz 2
  have rf3 := HDS.out.res.fz 3
  have t0 := HDS.out.rer.c0
  have t1 := HDS.out.rer.c1
  have t2 := HDS.out.rer.c2
  have tf0 := HDS.out.rer.fz 0
  have tf1 := HDS.out.rer.fz 1
  have tf2 := HDS.out.rer.fz 2
  have zl0 := HDS.out.res.lt
  have zl1 := HDS.out.rer.lt
  have zl2 := HDS.out.map.lt
  have hn1 : ¬ w.heap.size = MB := by have := HDS.out.lM; omega
  have hn2 : ¬ w.heap.size + 1 = MB := by have := HDS.out.lM; omega
  have hn3 : ¬ w.heap.size = RB := by have := HDS.out.lR; omega
  have hn4 : ¬ w.heap.size + 1 = RB := by have := HDS.out.lR; omega
  have hn5 : ¬ MB = w.heap.size := by have := HDS.out.lM; omega
  have hn6 : ¬ MB = w.heap.size + 1 := by have := HDS.out.lM; omega
  have hn7 : ¬ RB = w.heap.size := by have := HDS.out.lR; omega
  have hn8 : ¬ RB = w.heap.size + 1 := by have := HDS.out.lR; omega
  go_region_held3 (fun z => z.cell? ⟨MB, 0, none⟩ = some (.int .i64 m.wid) ∧ z.cell? ⟨MB, 1, none⟩ = some (.int .i64 m.hei) ∧ z.cell? ⟨MB, 2, none⟩ = some (.slice ro m.rise.length rc) ∧ z.cell? ⟨MB, 3, none⟩ = some (.slice qo m.cost.length tc) ∧ z.cell? ⟨RB, 0, none⟩ = some (.slice po r.pts.length pc) ∧ z.cell? ⟨RB, 1, none⟩ = some (.int .i64 r.lim) ∧ z.cell? ⟨RB, 2, none⟩ = some (.int .i64 r.pen)) (first | with_reducible exact ⟨q0, q1, q2, q3, b0, b1, b2⟩ | (with_reducible refine keep4 hn5 hn7 ?_ _ _ _ _; assumption) | (with_reducible refine keep3 hn6 hn8 ?_ _ _ _; assumption) | with_reducible exact ⟨(Ext.refl _).drew.cells q0, (Ext.refl _).drew.cells q1, (Ext.refl _).drew.cells q2, (Ext.refl _).drew.cells q3, (Ext.refl _).drew.cells b0, (Ext.refl _).drew.cells b1, (Ext.refl _).drew.cells b2⟩)
    (first
      | (go_at_call 91; (first | (with_reducible refine Calls.mono (DS.openC HDS.out (by omega)) ?_) | (with_reducible refine Calls.mono (DS.openC (HDS.out.exts (Ext.refl _).drew) (by omega)) ?_)); rintro e wn ⟨x, rfl, hD⟩; (clear q0 q1 q2 q3 b0 b1 b2 r0 r1 r2 r3 rf0 rf1 rf2 rf3 t0 t1 t2 tf0 tf1 tf2 zl0 zl1 zl2; have HDS := Lib.hid hD; clear hD; have q0 := HDS.out.map.c0; have q1 := HDS.out.map.c1; have q2 := HDS.out.map.c2; have q3 := HDS.out.map.c3; have b0 := HDS.out.b0; have b1 := HDS.out.b1; have b2 := HDS.out.b2; have r0 := HDS.out.res.c0; have r1 := HDS.out.res.c1; have r2 := HDS.out.res.c2; have r3 := HDS.out.res.c3; have rf0 := HDS.out.res.fz 0; have rf1 := HDS.out.res.fz 1; have rf2 := HDS.out.res.fz 2; have rf3 := HDS.out.res.fz 3; have t0 := HDS.out.rer.c0; have t1 := HDS.out.rer.c1; have t2 := HDS.out.rer.c2; have tf0 := HDS.out.rer.fz 0; have tf1 := HDS.out.rer.fz 1; have tf2 := HDS.out.rer.fz 2; have zl0 := HDS.out.res.lt; have zl1 := HDS.out.rer.lt; have zl2 := HDS.out.map.lt))
      | (go_at_call 79; (first | (with_reducible refine Calls.mono (DS.tourC HDS.out (by omega)) ?_) | (with_reducible refine Calls.mono (DS.tourC (HDS.out.exts (Ext.refl _).drew) (by omega)) ?_)); rintro e wn ⟨go, gc, L, rfl, hL, hO, hbl, hD⟩; (clear q0 q1 q2 q3 b0 b1 b2 r0 r1 r2 r3 rf0 rf1 rf2 rf3 t0 t1 t2 tf0 tf1 tf2 zl0 zl1 zl2; have HDS := Lib.hid hD; clear hD; have q0 := HDS.out.map.c0; have q1 := HDS.out.map.c1; have q2 := HDS.out.map.c2; have q3 := HDS.out.map.c3; have b0 := HDS.out.b0; have b1 := HDS.out.b1; have b2 := HDS.out.b2; have r0 := HDS.out.res.c0; have r1 := HDS.out.res.c1; have r2 := HDS.out.res.c2; have r3 := HDS.out.res.c3; have rf0 := HDS.out.res.fz 0; have rf1 := HDS.out.res.fz 1; have rf2 := HDS.out.res.fz 2; have rf3 := HDS.out.res.fz 3; have t0 := HDS.out.rer.c0; have t1 := HDS.out.rer.c1; have t2 := HDS.out.rer.c2; have tf0 := HDS.out.rer.fz 0; have tf1 := HDS.out.rer.fz 1; have tf2 := HDS.out.rer.fz 2; have zl0 := HDS.out.res.lt; have zl1 := HDS.out.rer.lt; have zl2 := HDS.out.map.lt; have HO := Lib.hid (hO.lowR hbl); clear hO)))
  all_goals
    go_wp2
    refine bodyPost_ret (v := .tuple #[.agg #[.int .i64 m.wid, .int .i64 m.hei, .slice ro m.rise.length rc, .slice qo m.cost.length tc], .slice co xs.length cap, .agg #[.slice po r.pts.length pc, .int .i64 r.lim, .int .i64 r.pen], .int .i64 x, .slice go L.length gc]) ?_ rfl ?_
    · simp [results, Try.results41, go_sem, cell_put, r0, r1, r2, r3, t0, t1, t2]
    · obtain ⟨ao, cap2, e0, hF, hnil, hcl, hcm⟩ := HO.out.fresh
      injection e0 with e1 _ e3
      subst e1 e3
      exact ⟨m, ro, rc, qo, tc, xs, co, cap, r, po, pc, x, L, go, gc, rfl, HDS.out.fin _ _ _ _ _ _ _, hL, (put7f hF (by omega) (by omega) _ _ _ _ _ _ _).mono (by omega), ⟨hcl, by unfold maxLen at hcm; omega⟩⟩


set_option maxRecDepth 100000 in
set_option maxHeartbeats 4000000 in
theorem draw_scoref {w : World} {co0 : Option Addr} {m0 cc : Nat} {bs : Nat → Nat} (hr : RowAt w co0 1 m0 (by8 bs)) (hb : ∀ k, bs k < 256) (hm : m0 ≤ 9223372036854775807) :
    Calls Try.prog 34 #[.slice co0 m0 cc] w fun e w' => ∃ (m : MapD) (ro : Option Addr) (rc : Nat) (qo : Option Addr) (tc : Nat) (xs : List Ctl) (co : Option Addr) (cap : Nat) (r : RuleD) (po : Option Addr) (pc : Nat) (L : List Int) (go : Option Addr) (gc : Nat) (x : Int), e = .returned (.tuple #[m.val ro rc qo tc, .slice co xs.length cap, r.val po pc, .slice go L.length gc, .int .i64 x]) ∧ DrawnR w w' m ro rc qo tc xs co cap r po pc ∧ L.length ≤ 6 ∧ FreshAt w.heap.size w' go 1 L.length (ic L) ∧ (L.length ≤ gc ∧ gc ≤ 9223372036854775807) ∧ (-1 ≤ x ∧ x ≤ 1001) := by
  obtain ⟨i0, hi, hz0, hz1, hz2⟩ := info_parts infoInt
  have HI := Lib.hid hi; have HZ0 := Lib.hid hz0; have HZ1 := Lib.hid hz1; have HZ2 := Lib.hid hz2
  clear hi hz0 hz1 hz2
  have hxa := ((Ext.refl w).alloc (.cells #[.int .i64 0, .int .i64 0, .slice none 0 0, .slice none 0 0] 30))
  have hxb := ((Ext.refl (w.alloc (.cells #[.int .i64 0, .int .i64 0, .slice none 0 0, .slice none 0 0] 30))).alloc (.cells #[.slice none 0 0, .int .i64 0, .int .i64 0] 43))
  have hx0 := hxa.trans hxb
  have h0 := fun T => cu_box (cc := cc) (T := T) (hr.ext hx0) hb hm
  have hs0 : ∀ o, (((w.alloc (.cells #[.int .i64 0, .int .i64 0, .slice none 0 0, .slice none 0 0] 30)).alloc (.cells #[.slice none 0 0, .int .i64 0, .int .i64 0] 43)).alloc o).heap.size = w.heap.size + 1 + 1 + 1 := fun o => by simp
  rw [World.size_alloc, World.size_alloc] at h0
  have HS := Lib.hid (fun T => cu_scored (most := 10) (h0 T) (by omega) (by decide))
  have HR0 := Lib.hid (fun o => ((ResM.of (w := w) (T := 30) (Ext.refl _)).ext hxb).ext ((Ext.refl _).alloc o))
  have hq0 := ResR.of (w := (w.alloc (.cells #[.int .i64 0, .int .i64 0, .slice none 0 0, .slice none 0 0] 30))) (T := 43) (Ext.refl _)
  rw [World.size_alloc] at hq0
  have HQ0 := Lib.hid (fun o => hq0.ext ((Ext.refl _).alloc o))
  have HX0 := Lib.hid (fun o => hx0.alloc o)
  have HSZ := Lib.hid hs0
  clear hr hb h0 hx0 hxa hxb hq0 hs0
  go_enter Try.func34, Try.ntmps34
  go_wp2_with fail
  refine (HS.out _).mono ?_; rintro e w1 ⟨m, ro, rc, qo, tc, xs, co, cap, r, po, pc, rfl, hD, hl4, hf4, hc4, hc, ht⟩
  obtain ⟨hl1, hl2, hc1, hc2, hf1, hf2, hl3, hf3, hn3, hc3⟩ := hD
  rw [HSZ.out] at hf1 hf2 hf3 hf4
  have hz := ht.size
  rw [HSZ.out] at hz
  have hx2 : ∀ T1 T2, Ext w1 ((w1.alloc (.cells #[.int .i64 m.wid, .int .i64 m.hei, .slice ro m.rise.length rc, .slice qo m.cost.length tc] T1)).alloc (.cells #[.slice po r.pts.length pc, .int .i64 r.lim, .int .i64 r.pen] T2)) := fun _ _ => ((Ext.refl _).alloc _).alloc _
  have hds : ∀ T1 T2, DS w ((w1.alloc (.cells #[.int .i64 m.wid, .int .i64 m.hei, .slice ro m.rise.length rc, .slice qo m.cost.length tc] T1)).alloc (.cells #[.slice po r.pts.length pc, .int .i64 r.lim, .int .i64 r.pen] T2)) 400 w1.heap.size (w1.heap.size + 1) m ro rc qo tc xs co cap r po pc := fun T1 T2 => by
    have hxx := hx2 T1 T2
    refine ⟨Touch.spanExt (HX0.out _) ((ht.trans (Touch.of_ext hxx))) (by omega), ((HR0.out _).touch ht (by omega)).ext hxx, ((HQ0.out _).touch ht (by omega)).ext hxx, ⟨by go_simp, by go_simp, by go_simp, by go_simp⟩, by go_simp, by go_simp, by go_simp, hf1.ext hxx, hf2.ext hxx, hf3.ext hxx, hf4.ext hxx, (hc.mono (by omega)).ext hxx, hz, by omega, ⟨hl1, hl2, hl3, hl4⟩, ⟨hc1, hc2, hn3, hc3, hc4⟩⟩
  have HDS := Lib.hid (hds 30 43)
  unfold MapD.val RuleD.val
  clear hx2 hds hz hl1 hl2 hl3 hl4 hc1 hc2 hc3 hc4 hn3 hf1 hf2 hf3 hf4 hc ht HS HR0 HQ0 HX0 HSZ
  go_upto_region 3 with fail
  generalize ((w1.alloc (.cells #[.int .i64 m.wid, .int .i64 m.hei, .slice ro m.rise.length rc, .slice qo m.cost.length tc] 30)).alloc (.cells #[.slice po r.pts.length pc, .int .i64 r.lim, .int .i64 r.pen] 43)) = w2 at *
  obtain ⟨MB, hMB⟩ : ∃ MB, MB = w1.heap.size := ⟨_, rfl⟩
  obtain ⟨RB, hRB⟩ : ∃ RB, RB = w1.heap.size + 1 := ⟨_, rfl⟩
  rw [← hRB, ← hMB] at HDS
  rw [← hRB, ← hMB]
  clear hMB hRB
  go_wp2_with fail
  refine (DS.tourS HDS.out (by omega)).mono ?_; rintro e w3 ⟨go, gc, L, rfl, hL, hO, hbl, hsz23, hD⟩
  have HD3 := Lib.hid hD; have HO3 := Lib.hid hO; have HLT := Lib.hid HDS.out.lts
  have hs3 : w2.heap.size ≤ w3.heap.size := hsz23
  clear hD hO HDS
  go_upto_region 4 with fail
  go_cut [30] (fun v wc => ∃ b, v = .bool b ∧ (b = true → 0 < L.length) ∧ DS w wc (400 + 40 + 1) MB RB m ro rc qo tc xs co cap r po pc ∧ w2.heap.size ≤ wc.heap.size ∧ Owns wc w2.heap.size 3 1 icc (.slice go L.length gc) L)
  case first =>
    by_cases hpos : 0 < L.length
    · have hpi : (0 : Int) < (L.length : Int) := by omega
      have HON := Lib.hid (cu_one (N := 3) HD3.out.cur (by omega) (by decide) (by decide))
      go_wp2_with fail
      refine HON.out.mono ?_; rintro e w4 ⟨b, rfl, hc, ht⟩
      have HD4 := Lib.hid (HD3.out.curs hc ht)
      have HO4 := Lib.hid (HO3.out.cur ht (by omega))
      have HSZ4 : Hid (w2.heap.size ≤ w4.heap.size) := Lib.hid (by have := ht.size; omega)
      clear hc ht HON
      go_wp2_with fail
      go_meet
      exact ⟨_, rfl, fun _ => hpos, HD4.out, HSZ4.out, HO4.out⟩
    · have hpi : ¬ (0 : Int) < (L.length : Int) := by omega
      go_wp2_with fail
      go_meet
      exact ⟨_, rfl, fun e => (by cases e), ⟨HD3.out.ext, HD3.out.res, HD3.out.rer, HD3.out.map, HD3.out.b0, HD3.out.b1, HD3.out.b2, HD3.out.f1, HD3.out.f2, HD3.out.f3, HD3.out.f4, HD3.out.cur.mono (by omega), HD3.out.lM, HD3.out.lR, HD3.out.lens, HD3.out.caps⟩, hs3, HO3.out⟩
  case rest =>
  obtain ⟨b, rfl, hbp, hD4, hs4, hO4⟩ := hcut
  rename World => w4
  have HD4 := Lib.hid hD4; have HO4 := Lib.hid hO4; have HBP := Lib.hid hbp; have HSZ4 := Lib.hid hs4
  clear hD4 hO4 HD3 HO3 hbp
  go_upto_if 30 with fail
  go_cut [11] (fun v wc => ∃ (go : Option Addr) (gc : Nat) (L : List Int), v = .slice go L.length gc ∧ L.length ≤ 6 ∧ DS w wc (400 + 40 + 1) MB RB m ro rc qo tc xs co cap r po pc ∧ w2.heap.size ≤ wc.heap.size ∧ Owns wc w2.heap.size 3 1 icc (.slice go L.length gc) L)
  case first =>
    cases b
    · go_wp2_with fail
      go_meet
      exact ⟨go, gc, L, rfl, by omega, HD4.out, HSZ4.out, HO4.out⟩
    · have hpos := HBP.out rfl
      obtain ⟨ao, cap2, e0, hF, _⟩ := HO4.out.fresh
      injection e0 with e1 _ e3
      subst e1 e3
      obtain ⟨gb, goff, rfl, H⟩ := hF.row hpos
      have d0 := H 0 hpos 0 (by decide)
      simp only [Nat.zero_mul, Nat.add_zero] at d0
      replace d0 : w4.cell? ⟨gb, goff, none⟩ = some (.int .i64 (nth L 0)) := d0
      have hpi : (0 : Int) < (L.length : Int) := by omega
      obtain ⟨y, hy⟩ : ∃ y, y = nth L 0 := ⟨_, rfl⟩
      rw [← hy] at d0
      obtain ⟨L2, hL2⟩ : ∃ L2, L2 = L ++ [y] := ⟨_, rfl⟩
      have HLL : Hid (L2.length = L.length + 1) := Lib.hid (by rw [hL2, List.length_append]; rfl)
      have HL2 := Lib.hid hL2
      have hs24 : w2.heap.size ≤ w4.heap.size := HSZ4.out
      have hrow2 := fun x => row_lit (w := x) (cs := #[.int .i64 y]) (T := 3) (s := 1) (cc := icc) (x := y) (by intro j hj; obtain rfl : j = 0 := (by omega); rfl)
      clear hy hL2 H hF
      go_wp2_with (at_builtin; refine wpList_append_bf rfl _ _ 22 rfl 3 i0 _ 1 8 Try.underlying22 HI.out HZ0.out HZ1.out HZ2.out rfl (by decide) icc icc_one w2.heap.size (Nat.le_trans hs24 (by simp)) (.slice (some ⟨gb, goff, none⟩) L.length gc) L [y] L2 HL2 rfl (HO4.out.ext' ((Ext.refl _).alloc _)) ⟨w4.heap.size, 0, none⟩ 1 1 rfl rfl (hrow2 _) (by simp; omega) (by simp; omega) ?_; intro go1 gc1 w5 ho5 hb5 _ _)
      go_meet
      have hx4 := (Ext.refl w4).alloc (.cells #[.int .i64 y] 3)
      exact ⟨go1, gc1, L2, rfl, by have := HLL.out; omega, DS.belows (HD4.out.exts hx4) HLT.out hb5 hbl, Nat.le_trans hs24 (Nat.le_trans hx4.size hb5.size), ho5⟩
  case rest =>
  obtain ⟨go, gc, L, rfl, hL, hD5, _, hO5⟩ := hcut
  rename World => w5
  have HDS := Lib.hid hD5; have HO := Lib.hid hO5
  clear hD5 hO5 HD4 HO4 HBP
  have HA := Lib.hid (fun T y hx => cu_litx (T := T) (x := y) (cs := #[.int .i64 0, .int .i64 5, .int .i64 12, .int .i64 30, .int .i64 210, .int .i64 1000, .int .i64 1001, .int .i64 (-1)]) [0, 5, 12, 30, 210, 1000, 1001, -1] (-1) 1001 HDS.out.cur (by omega) rfl (by decide) (by decide) (by decide) hx)
  go_upto_region 6 with fail
  have q0 := HDS.out.map.c0
  have q1 := HDS.out.map.c1
  have q2 := HDS.out.map.c2
  have q3 := HDS.out.map.c3
  have b0 := HDS.out.b0
  have b1 := HDS.out.b1
  have b2 := HDS.out.b2
  have r0 := HDS.out.res.c0
  have r1 := HDS.out.res.c1
  have r2 := HDS.out.res.c2
  have r3 := HDS.out.res.c3
  have rf0 := HDS.out.res.fz 0
  have rf1 := HDS.out.res.fz 1
  have rf2 := HDS.out.res.fz 2
  have rf3 := HDS.out.res.fz 3
  have t0 := HDS.out.rer.c0
  have t1 := HDS.out.rer.c1
  have t2 := HDS.out.rer.c2
  have tf0 := HDS.out.rer.fz 0
  have tf1 := HDS.out.rer.fz 1
  have tf2 := HDS.out.rer.fz 2
  have zl0 := HDS.out.res.lt
  have zl1 := HDS.out.rer.lt
  have zl2 := HDS.out.map.lt
  have hn1 : ¬ w.heap.size = MB := by have := HDS.out.lM; omega
  have hn2 : ¬ w.heap.size + 1 = MB := by have := HDS.out.lM; omega
  have hn3 : ¬ w.heap.size = RB := by have := HDS.out.lR; omega
  have hn4 : ¬ w.heap.size + 1 = RB := by have := HDS.out.lR; omega
  have hn5 : ¬ MB = w.heap.size := by have := HDS.out.lM; omega
  have hn6 : ¬ MB = w.heap.size + 1 := by have := HDS.out.lM; omega
  have hn7 : ¬ RB = w.heap.size := by have := HDS.out.lR; omega
  have hn8 : ¬ RB = w.heap.size + 1 := by have := HDS.out.lR; omega
  go_region_held3 (fun z => z.cell? ⟨MB, 0, none⟩ = some (.int .i64 m.wid) ∧ z.cell? ⟨MB, 1, none⟩ = some (.int .i64 m.hei) ∧ z.cell? ⟨MB, 2, none⟩ = some (.slice ro m.rise.length rc) ∧ z.cell? ⟨MB, 3, none⟩ = some (.slice qo m.cost.length tc) ∧ z.cell? ⟨RB, 0, none⟩ = some (.slice po r.pts.length pc) ∧ z.cell? ⟨RB, 1, none⟩ = some (.int .i64 r.lim) ∧ z.cell? ⟨RB, 2, none⟩ = some (.int .i64 r.pen)) (first | with_reducible exact ⟨q0, q1, q2, q3, b0, b1, b2⟩ | (with_reducible refine keep4 hn5 hn7 ?_ _ _ _ _; assumption) | (with_reducible refine keep3 hn6 hn8 ?_ _ _ _; assumption) | with_reducible exact keepE ((Ext.refl _).alloc _).drew ⟨q0, q1, q2, q3, b0, b1, b2⟩ | with_reducible exact ⟨(Ext.refl _).drew.cells q0, (Ext.refl _).drew.cells q1, (Ext.refl _).drew.cells q2, (Ext.refl _).drew.cells q3, (Ext.refl _).drew.cells b0, (Ext.refl _).drew.cells b1, (Ext.refl _).drew.cells b2⟩)
    (first
      | (go_at_call 81; with_reducible refine Calls.mono (HA.out _ _ (Ext.drew (Ext.refl _))) ?_; rintro e wn ⟨x, rfl, hx, hc, ht⟩; (clear q0 q1 q2 q3 b0 b1 b2 r0 r1 r2 r3 rf0 rf1 rf2 rf3 t0 t1 t2 tf0 tf1 tf2 zl0 zl1 zl2; have HDS := Lib.hid (HDS.out.curs hc ht); have HO := Lib.hid (HO.out.cur ht (by omega)); have HXB := Lib.hid hx; clear hc ht hx; have q0 := HDS.out.map.c0; have q1 := HDS.out.map.c1; have q2 := HDS.out.map.c2; have q3 := HDS.out.map.c3; have b0 := HDS.out.b0; have b1 := HDS.out.b1; have b2 := HDS.out.b2; have r0 := HDS.out.res.c0; have r1 := HDS.out.res.c1; have r2 := HDS.out.res.c2; have r3 := HDS.out.res.c3; have rf0 := HDS.out.res.fz 0; have rf1 := HDS.out.res.fz 1; have rf2 := HDS.out.res.fz 2; have rf3 := HDS.out.res.fz 3; have t0 := HDS.out.rer.c0; have t1 := HDS.out.rer.c1; have t2 := HDS.out.rer.c2; have tf0 := HDS.out.rer.fz 0; have tf1 := HDS.out.rer.fz 1; have tf2 := HDS.out.rer.fz 2; have zl0 := HDS.out.res.lt; have zl1 := HDS.out.rer.lt; have zl2 := HDS.out.map.lt)))
  all_goals
    go_wp2
    refine bodyPost_ret (v := .tuple #[.agg #[.int .i64 m.wid, .int .i64 m.hei, .slice ro m.rise.length rc, .slice qo m.cost.length tc], .slice co xs.length cap, .agg #[.slice po r.pts.length pc, .int .i64 r.lim, .int .i64 r.pen], .slice go L.length gc, .int .i64 x]) ?_ rfl ?_
    · simp [results, Try.results34, go_sem, cell_put, r0, r1, r2, r3, t0, t1, t2]
    · obtain ⟨ao, cap2, e0, hF, hnil, hcl, hcm⟩ := HO.out.fresh
      injection e0 with e1 _ e3
      subst e1 e3
      exact ⟨m, ro, rc, qo, tc, xs, co, cap, r, po, pc, L, go, gc, x, rfl, HDS.out.fin _ _ _ _ _ _ _, hL, (put7f hF (by omega) (by omega) _ _ _ _ _ _ _).mono (by omega), ⟨hcl, by unfold maxLen at hcm; omega⟩, HXB.out⟩


theorem DrawnR.site {w w' : World} {m : MapD} {ro : Option Addr} {rc : Nat} {qo : Option Addr} {tc : Nat} {xs : List Ctl} {co : Option Addr} {cap : Nat} {r : RuleD} {po : Option Addr} {pc : Nat} (h : DrawnR w w' m ro rc qo tc xs co cap r po pc) : Site w' m ro qo xs co cap := by
  have h1 := h.dr.l1; have h2 := h.dr.l2; have h3 := h.dr.l3
  exact ⟨h.dr.f1.row, h.dr.f2.row, h.dr.f3.row, by omega, by omega, by omega, h.dr.c3.1⟩
theorem late_mono {r : RuleD} (h : inB r.pen 0 50 = true) (t : Int) : lateI r t ≤ lateI r (t + 1) := by
  rw [inB_iff] at h
  unfold lateI
  refine Int.mul_le_mul_of_nonneg_left ?_ h.1
  split <;> split <;> omega
theorem score_later {m : MapD} {xs : List Ctl} {r : RuleD} (h : ruleB m xs r = true) (cs : List Int) (t : Int) : scoreI xs r cs (t + 1) ≤ scoreI xs r cs t := by
  have := late_mono (rule_len h).2.2.2.1 t
  unfold scoreI
  omega
theorem pick_sum {xs : List Ctl} {r : RuleD} {cs : List Int} {n : Nat} (h : ∀ k, k < n → inB (nth r.pts k) 0 100 = true) : ∀ k, k ≤ n → pickU xs r cs k ≤ sumU r.pts k := by
  intro k
  induction k with
  | zero => intro _; exact Int.le_refl _
  | succ k ih =>
    intro hk
    have h1 := ih (by omega)
    have h2 := h k (by omega)
    rw [inB_iff] at h2
    rw [pickU, sumU]
    split <;> omega
theorem score_total {m : MapD} {xs : List Ctl} {r : RuleD} (h : ruleB m xs r = true) (cs : List Int) {t : Int} (h0 : 0 ≤ t) (h1 : t ≤ 1000) : scoreI xs r cs t ≤ sumU r.pts r.pts.length := by
  have hl := rule_len h
  have h2 := pick_sum (xs := xs) (r := r) (cs := cs) hl.2.2.2.2 r.pts.length (Nat.le_refl _)
  have h3 := (late_bd (r := r) (t := t) hl.2.2.2.1 hl.2.2.1 h0 (by omega)).1
  rw [hl.1] at h2
  unfold scoreI
  rw [hl.1]
  omega
theorem sc_form (m : MapD) (xs : List Ctl) (r : RuleD) (cs : List Int) (t : Int) : ∃ b, b = (ruleB m xs r && ofB xs cs && decide (cs.length ≤ 20) && inB t 0 1000) ∧ gSc m xs r cs t = if b then .tuple #[.int .i64 (scoreI xs r cs t), .bool true] else .tuple #[.int .i64 0, .bool false] := ⟨_, rfl, rfl⟩
theorem even_form (m : MapD) (xs : List Ctl) (r : RuleD) (code : Int) : ∃ n b, gEven m xs r code = .tuple #[.int .i64 n, .bool b] := by
  unfold gEven
  split
  · unfold evenV
    split <;> exact ⟨_, _, rfl⟩
  · exact ⟨_, _, rfl⟩


end Go.Proofs.Ytidcfohlhamgmaa
