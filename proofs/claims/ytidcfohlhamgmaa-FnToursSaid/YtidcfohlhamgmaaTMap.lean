/-
  Proved here: maps and score rules: how they are read, copied, compared.
  Conditions: the lengths fit an int.
-/
import Derived.Test.YtidcfohlhamgmaaInts
import Derived.Test.YtidcfohlhamgmaaTIntS
namespace Go.Proofs.Ytidcfohlhamgmaa
open Go.ChangeShapes Go.WideShapes Go.ChangeAt Go.RowKit Go.Joins Go.Deep

structure MapD where
  wid : Int
  hei : Int
  rise : List Int
  cost : List Int
instance : Inhabited MapD := ⟨⟨0, 0, [], []⟩⟩
def MapD.val (m : MapD) (ao : Option Addr) (ac : Nat) (bo : Option Addr) (bc : Nat) : Value := .agg #[.int .i64 m.wid, .int .i64 m.hei, .slice ao m.rise.length ac, .slice bo m.cost.length bc]
def MapD.eqB (x y : MapD) : Bool := x.wid == y.wid && x.hei == y.hei && eqL eqI x.rise y.rise && eqL eqI x.cost y.cost
theorem MapD.eqB_iff (x y : MapD) : x.eqB y = true ↔ x = y := by
  cases x; cases y; simp [MapD.eqB, eqL_iff eqI_iff, and_assoc]

structure RuleD where
  pts : List Int
  lim : Int
  pen : Int
instance : Inhabited RuleD := ⟨⟨[], 0, 0⟩⟩
def RuleD.val (r : RuleD) (ao : Option Addr) (ac : Nat) : Value := .agg #[.slice ao r.pts.length ac, .int .i64 r.lim, .int .i64 r.pen]
def RuleD.eqB (x y : RuleD) : Bool := eqL eqI x.pts y.pts && x.lim == y.lim && x.pen == y.pen
theorem RuleD.eqB_iff (x y : RuleD) : x.eqB y = true ↔ x = y := by
  cases x; cases y; simp [RuleD.eqB, eqL_iff eqI_iff, and_assoc]

set_option maxHeartbeats 1000000 in
theorem laws_toMap {m : MapD} {ao bo : Option Addr} {ac bc : Nat} {w : World} (hr : RowAt w ao 1 m.rise.length (ic m.rise)) (ht : RowAt w bo 1 m.cost.length (ic m.cost)) (hn : m.rise.length ≤ 1048576) (hn' : m.cost.length ≤ 1048576) :
    Calls Try.prog 12 #[m.val ao ac bo bc] w fun e w' => ∃ A B, e = .returned (m.val (some ⟨A, 0, none⟩) m.rise.length (some ⟨B, 0, none⟩) m.cost.length) ∧ Ext w w' ∧ FreshAt w.heap.size w' (some ⟨A, 0, none⟩) 1 m.rise.length (ic m.rise) ∧ FreshAt w.heap.size w' (some ⟨B, 0, none⟩) 1 m.cost.length (ic m.cost) := by
  obtain ⟨wi, he, rs, ts⟩ := m
  dsimp only [MapD.val] at hr ht hn hn' ⊢
  go_enter Try.func12, Try.ntmps12
  go_wp2_with fail
  refine (laws_toIntS (hr.ext (by repeat (first | (with_reducible exact Ext.refl _) | (with_reducible assumption) | with_reducible refine Ext.drew ?_ | with_reducible refine Ext.alloc ?_ _ | with_reducible refine Ext.setCell ?_ (by first | (simp; done) | (simp; omega) | omega) _ | with_reducible refine Ext.trans ?_ (by with_reducible assumption)))) hn).mono ?_; rintro e w1 ⟨A, rfl, hx1, hF⟩
  have hc1 := Ext.cellr hx1
  have hf1 := Ext.frozenr hx1
  have hz1 := hx1.size
  simp at hz1
  have p3 : w1.cell? ⟨w.heap.size, 3, none⟩ = some (.slice bo ts.length bc) := hx1.cells (by go_simp)
  have r0 : w1.cell? ⟨w.heap.size + 1, 0, none⟩ = some (.int .i64 0) := hx1.cells (by go_simp)
  have r1 : w1.cell? ⟨w.heap.size + 1, 1, none⟩ = some (.int .i64 0) := hx1.cells (by go_simp)
  have r2 : w1.cell? ⟨w.heap.size + 1, 2, none⟩ = some (.slice none 0 0) := hx1.cells (by go_simp)
  have r3 : w1.cell? ⟨w.heap.size + 1, 3, none⟩ = some (.slice none 0 0) := hx1.cells (by go_simp)
  have q0 : w1.cell? ⟨w.heap.size + 1 + 1, 0, none⟩ = some (.int .i64 wi) := hx1.cells (by go_simp)
  have q1 : w1.cell? ⟨w.heap.size + 1 + 1, 1, none⟩ = some (.int .i64 he) := hx1.cells (by go_simp)
  have q2 : w1.cell? ⟨w.heap.size + 1 + 1, 2, none⟩ = some (.slice none 0 0) := hx1.cells (by go_simp)
  have q3 : w1.cell? ⟨w.heap.size + 1 + 1, 3, none⟩ = some (.slice none 0 0) := hx1.cells (by go_simp)
  have u0 : ∀ j, w1.frozen? ⟨w.heap.size + 1 + 1, j, none⟩ = false := fun j => (hx1.frozenr _ _ (by simp)).trans (by go_simp)
  have u1 : ∀ j, w1.frozen? ⟨w.heap.size + 1, j, none⟩ = false := fun j => (hx1.frozenr _ _ (by simp)).trans (by go_simp)
  have u2 := u0 2
  have hE1 : Ext w w1 := (by repeat (first | (with_reducible exact Ext.refl _) | (with_reducible assumption) | with_reducible refine Ext.drew ?_ | with_reducible refine Ext.alloc ?_ _ | with_reducible refine Ext.setCell ?_ (by first | (simp; done) | (simp; omega) | omega) _ | with_reducible refine Ext.trans ?_ (by with_reducible assumption)))
  have hA := hF.base _ rfl
  have hF1 := hF.mono (B1 := w.heap.size + 1 + 1 + 1) (by simp)
  have U0 := Lib.hid u0; clear u0
  have U1 := Lib.hid u1; clear u1
  clear hc1 hf1
  go_wp2_with fail
  refine (laws_toIntS (ht.ext (Ext.setCell hE1 (by simp only; omega) _)) hn').mono ?_; rintro e w2 ⟨B, rfl, hx2, hF2⟩
  have hs2 : (w1.setCell ⟨w.heap.size + 1 + 1, 2, none⟩ (.slice (some ⟨A, 0, none⟩) rs.length rs.length)).heap.size = w1.heap.size := by simp [World.setCell]
  have hse := hx2.size
  rw [hs2] at hF2 hse
  have s0 : w2.cell? ⟨w.heap.size + 1 + 1, 0, none⟩ = some (.int .i64 wi) := hx2.cells ((World.cell?_setCell_other _ _ _ _ (by simp)).trans q0)
  have s1 : w2.cell? ⟨w.heap.size + 1 + 1, 1, none⟩ = some (.int .i64 he) := hx2.cells ((World.cell?_setCell_other _ _ _ _ (by simp)).trans q1)
  have s2 : w2.cell? ⟨w.heap.size + 1 + 1, 2, none⟩ = some (.slice (some ⟨A, 0, none⟩) rs.length rs.length) := hx2.cells (World.cell?_setCell_same _ _ _ q2)
  have s3 : w2.cell? ⟨w.heap.size + 1 + 1, 3, none⟩ = some (.slice none 0 0) := hx2.cells ((World.cell?_setCell_other _ _ _ _ (by simp)).trans q3)
  have v0 : w2.cell? ⟨w.heap.size + 1, 0, none⟩ = some (.int .i64 0) := hx2.cells ((World.cell?_setCell_other _ _ _ _ (by simp)).trans r0)
  have v1 : w2.cell? ⟨w.heap.size + 1, 1, none⟩ = some (.int .i64 0) := hx2.cells ((World.cell?_setCell_other _ _ _ _ (by simp)).trans r1)
  have v2 : w2.cell? ⟨w.heap.size + 1, 2, none⟩ = some (.slice none 0 0) := hx2.cells ((World.cell?_setCell_other _ _ _ _ (by simp)).trans r2)
  have v3 : w2.cell? ⟨w.heap.size + 1, 3, none⟩ = some (.slice none 0 0) := hx2.cells ((World.cell?_setCell_other _ _ _ _ (by simp)).trans r3)
  have y3 : w2.frozen? ⟨w.heap.size + 1 + 1, 3, none⟩ = false := (hx2.frozenr _ _ (by rw [hs2]; omega)).trans (by rw [World.frozen?_setCell]; exact U0.out 3)
  have x0 : w2.frozen? ⟨w.heap.size + 1, 0, none⟩ = false := (hx2.frozenr _ _ (by rw [hs2]; omega)).trans (by rw [World.frozen?_setCell]; exact U1.out 0)
  have x1 : w2.frozen? ⟨w.heap.size + 1, 1, none⟩ = false := (hx2.frozenr _ _ (by rw [hs2]; omega)).trans (by rw [World.frozen?_setCell]; exact U1.out 1)
  have x2 : w2.frozen? ⟨w.heap.size + 1, 2, none⟩ = false := (hx2.frozenr _ _ (by rw [hs2]; omega)).trans (by rw [World.frozen?_setCell]; exact U1.out 2)
  have x3 : w2.frozen? ⟨w.heap.size + 1, 3, none⟩ = false := (hx2.frozenr _ _ (by rw [hs2]; omega)).trans (by rw [World.frozen?_setCell]; exact U1.out 3)
  have hl2 : w.heap.size + 1 + 1 < w2.heap.size := by omega
  have hF3 := (hF1.setCell (p := ⟨w.heap.size + 1 + 1, 2, none⟩) (by simp) (.slice (some ⟨A, 0, none⟩) rs.length rs.length)).ext hx2
  have hF4 := hF2.mono (B1 := w.heap.size + 1 + 1 + 1) (by omega)
  have hE : Ext w w2 := (Ext.setCell hE1 (by simp only; omega) _).trans hx2
  clear r0 r1 r2 r3 q0 q1 q2 q3 u2 U0 U1 hF hF1 hF2 hx1 hx2 hA hs2 hr ht p3
  go_wp2
  refine bodyPost_ret (v := .agg #[.int .i64 wi, .int .i64 he, .slice (some ⟨A, 0, none⟩) rs.length rs.length, .slice (some ⟨B, 0, none⟩) ts.length ts.length]) ?_ rfl ?_
  · simp [results, Try.results12, go_sem, cell_put, v0, v1, v2, v3]
  · refine ⟨A, B, rfl, (by repeat (first | (with_reducible exact Ext.refl _) | (with_reducible assumption) | with_reducible refine Ext.drew ?_ | with_reducible refine Ext.alloc ?_ _ | with_reducible refine Ext.setCell ?_ (by first | (simp; done) | (simp; omega) | omega) _ | with_reducible refine Ext.trans ?_ (by with_reducible assumption))), ?_, ?_⟩
    · exact (((((hF3.setCell (by simp) _).setCell (by simp) _).setCell (by simp) _).setCell (by simp) _).setCell (by simp) _).mono (by omega)
    · exact (((((hF4.setCell (by simp) _).setCell (by simp) _).setCell (by simp) _).setCell (by simp) _).setCell (by simp) _).mono (by omega)

set_option maxHeartbeats 1000000 in
theorem laws_toScoreRule {r : RuleD} {ao : Option Addr} {ac : Nat} {w : World} (h : RowAt w ao 1 r.pts.length (ic r.pts)) (hn : r.pts.length ≤ 1048576) :
    Calls Try.prog 21 #[r.val ao ac] w fun e w' => ∃ B, e = .returned (r.val (some ⟨B, 0, none⟩) r.pts.length) ∧ Ext w w' ∧ FreshAt w.heap.size w' (some ⟨B, 0, none⟩) 1 r.pts.length (ic r.pts) := by
  obtain ⟨ps, a, b⟩ := r
  dsimp only [RuleD.val] at h hn ⊢
  go_enter Try.func21, Try.ntmps21
  go_wp2_with fail
  refine (laws_toIntS (h.ext (by repeat (first | (with_reducible exact Ext.refl _) | (with_reducible assumption) | with_reducible refine Ext.drew ?_ | with_reducible refine Ext.alloc ?_ _ | with_reducible refine Ext.setCell ?_ (by first | (simp; done) | (simp; omega) | omega) _ | with_reducible refine Ext.trans ?_ (by with_reducible assumption)))) hn).mono ?_; rintro e w1 ⟨B, rfl, hx1, hF⟩
  have hc1 := Ext.cellr hx1
  have hf1 := Ext.frozenr hx1
  have hz1 : w.heap.size + 1 + 1 < w1.heap.size := Nat.lt_of_lt_of_le (by simp) hx1.size
  have hz2 : w.heap.size + 1 < w1.heap.size := by omega
  have hz3 : w.heap.size < w1.heap.size := by omega
  go_wp2
  have r0 : w1.cell? ⟨w.heap.size + 1, 0, none⟩ = some (.slice none 0 0) := hx1.cells (by go_simp)
  have r1 : w1.cell? ⟨w.heap.size + 1, 1, none⟩ = some (.int .i64 0) := hx1.cells (by go_simp)
  have r2 : w1.cell? ⟨w.heap.size + 1, 2, none⟩ = some (.int .i64 0) := hx1.cells (by go_simp)
  clear hc1 hf1
  refine bodyPost_ret (v := .agg #[.slice (some ⟨B, 0, none⟩) ps.length ps.length, .int .i64 a, .int .i64 b]) ?_ rfl ?_
  · simp [results, Try.results21, go_sem, cell_put, r0, r1, r2]
  · refine ⟨B, rfl, (by repeat (first | (with_reducible exact Ext.refl _) | (with_reducible assumption) | with_reducible refine Ext.drew ?_ | with_reducible refine Ext.alloc ?_ _ | with_reducible refine Ext.setCell ?_ (by first | (simp; done) | (simp; omega) | omega) _ | with_reducible refine Ext.trans ?_ (by with_reducible assumption))), ?_⟩
    have hF' := hF.mono (B1 := w.heap.size + 1 + 1 + 1) (by simp)
    exact ((((((hF'.setCell (by simp) _).setCell (by simp) _).setCell (by simp) _).setCell (by simp) _).setCell (by simp) _).setCell (by simp) _).mono (by omega)

set_option maxHeartbeats 1000000 in
theorem laws_eqMap {x y : MapD} {ao bo ao' bo' : Option Addr} {ac bc ac' bc' : Nat} {w : World} (h1 : RowAt w ao 1 x.rise.length (ic x.rise)) (h2 : RowAt w bo 1 x.cost.length (ic x.cost)) (h3 : RowAt w ao' 1 y.rise.length (ic y.rise)) (h4 : RowAt w bo' 1 y.cost.length (ic y.cost))
    (n1 : x.rise.length ≤ 9223372036854775807) (n2 : x.cost.length ≤ 9223372036854775807) (n3 : y.rise.length ≤ 9223372036854775807) (n4 : y.cost.length ≤ 9223372036854775807) :
    Calls Try.prog 16 #[x.val ao ac bo bc, y.val ao' ac' bo' bc'] w fun e w' => e = .returned (.bool (x.eqB y)) ∧ Ext w w' := by
  obtain ⟨a, b, rs, ts⟩ := x
  obtain ⟨a', b', rs', ts'⟩ := y
  dsimp only [MapD.val] at h1 h2 h3 h4 n1 n2 n3 n4 ⊢
  have hw0 : Ext w ((w.alloc (Obj.cells #[.int .i64 a, .int .i64 b, .slice ao rs.length ac, .slice bo ts.length bc] 30)).alloc (Obj.cells #[.int .i64 a', .int .i64 b', .slice ao' rs'.length ac', .slice bo' ts'.length bc'] 30)) := (by repeat (first | (with_reducible exact Ext.refl _) | (with_reducible assumption) | with_reducible refine Ext.drew ?_ | with_reducible refine Ext.alloc ?_ _ | with_reducible refine Ext.setCell ?_ (by first | (simp; done) | (simp; omega) | omega) _ | with_reducible refine Ext.trans ?_ (by with_reducible assumption)))
  have H1 := fun w' hx => laws_eqIntS (w := w') (cap := ac) (cap' := ac') (h1.ext hx) (h3.ext hx) n1 n3
  have H2 := fun w' hx => laws_eqIntS (w := w') (cap := bc) (cap' := bc') (h2.ext hx) (h4.ext hx) n2 n4
  cases hab : eqL eqI rs rs'
  · rw [hab] at H1
    go_enter Try.func16, Try.ntmps16
    go_wp2_with (go_at_call 18; refine (H1 _ hw0).mono ?_; rintro e w1 ⟨rfl, hx1⟩)
    all_goals go_ret
    all_goals refine ⟨ret_b (by simp_all [MapD.eqB]), (by repeat (first | (with_reducible exact Ext.refl _) | (with_reducible assumption) | with_reducible refine Ext.drew ?_ | with_reducible refine Ext.alloc ?_ _ | with_reducible refine Ext.setCell ?_ (by first | (simp; done) | (simp; omega) | omega) _ | with_reducible refine Ext.trans ?_ (by with_reducible assumption)))⟩
  · rw [hab] at H1
    by_cases hA : (a == a') = true
    · by_cases hB : (b == b') = true
      · have ha : a = a' := by simpa using hA
        have hb : b = b' := by simpa using hB
        subst ha hb
        have hfin : MapD.eqB ⟨a, b, rs, ts⟩ ⟨a, b, rs', ts'⟩ = eqL eqI ts ts' := by simp [MapD.eqB, hab]
        rw [hfin]
        clear hfin hA hB hab
        cases hE : eqL eqI ts ts'
        all_goals
          rw [hE] at H2
          clear hE
          go_enter Try.func16, Try.ntmps16
          go_wp2_with fail
          refine (H1 _ hw0).mono ?_; rintro e w1 ⟨rfl, hx1⟩
          have hc1 := hx1.cellr
          have hz : w.heap.size + 1 < w1.heap.size := Nat.lt_of_lt_of_le (by simp) hx1.size
          have hz2 : w.heap.size < w1.heap.size := by omega
          go_wp2_with fail
          refine (H2 _ (hw0.trans hx1)).mono ?_; rintro e w2 ⟨rfl, hx2⟩
          clear hc1
          go_wp2
          go_ret
          exact ⟨rfl, (by repeat (first | (with_reducible exact Ext.refl _) | (with_reducible assumption) | with_reducible refine Ext.drew ?_ | with_reducible refine Ext.alloc ?_ _ | with_reducible refine Ext.setCell ?_ (by first | (simp; done) | (simp; omega) | omega) _ | with_reducible refine Ext.trans ?_ (by with_reducible assumption)))⟩
      · have hB' : (b == b') = false := by simpa using hB
        have hfin : MapD.eqB ⟨a, b, rs, ts⟩ ⟨a', b', rs', ts'⟩ = false := by simp [MapD.eqB, hB']
        rw [hfin]
        clear hfin hab
        go_enter Try.func16, Try.ntmps16
        go_wp2
        go_ret
        exact ⟨rfl, (by repeat (first | (with_reducible exact Ext.refl _) | (with_reducible assumption) | with_reducible refine Ext.drew ?_ | with_reducible refine Ext.alloc ?_ _ | with_reducible refine Ext.setCell ?_ (by first | (simp; done) | (simp; omega) | omega) _ | with_reducible refine Ext.trans ?_ (by with_reducible assumption)))⟩
    · have hA' : (a == a') = false := by simpa using hA
      have hfin : MapD.eqB ⟨a, b, rs, ts⟩ ⟨a', b', rs', ts'⟩ = false := by simp [MapD.eqB, hA']
      rw [hfin]
      clear hfin hab
      go_enter Try.func16, Try.ntmps16
      go_wp2
      go_ret
      exact ⟨rfl, (by repeat (first | (with_reducible exact Ext.refl _) | (with_reducible assumption) | with_reducible refine Ext.drew ?_ | with_reducible refine Ext.alloc ?_ _ | with_reducible refine Ext.setCell ?_ (by first | (simp; done) | (simp; omega) | omega) _ | with_reducible refine Ext.trans ?_ (by with_reducible assumption)))⟩

set_option maxHeartbeats 1000000 in
theorem laws_eqScoreRule {x y : RuleD} {ao ao' : Option Addr} {ac ac' : Nat} {w : World} (h1 : RowAt w ao 1 x.pts.length (ic x.pts)) (h3 : RowAt w ao' 1 y.pts.length (ic y.pts)) (n1 : x.pts.length ≤ 9223372036854775807) (n3 : y.pts.length ≤ 9223372036854775807) :
    Calls Try.prog 23 #[x.val ao ac, y.val ao' ac'] w fun e w' => e = .returned (.bool (x.eqB y)) ∧ Ext w w' := by
  obtain ⟨ps, a, b⟩ := x
  obtain ⟨ps', a', b'⟩ := y
  dsimp only [RuleD.val] at h1 h3 n1 n3 ⊢
  have hw0 : Ext w ((w.alloc (Obj.cells #[.slice ao ps.length ac, .int .i64 a, .int .i64 b] 43)).alloc (Obj.cells #[.slice ao' ps'.length ac', .int .i64 a', .int .i64 b'] 43)) := (by repeat (first | (with_reducible exact Ext.refl _) | (with_reducible assumption) | with_reducible refine Ext.drew ?_ | with_reducible refine Ext.alloc ?_ _ | with_reducible refine Ext.setCell ?_ (by first | (simp; done) | (simp; omega) | omega) _ | with_reducible refine Ext.trans ?_ (by with_reducible assumption)))
  go_enter Try.func23, Try.ntmps23
  go_wp2_with fail
  refine (laws_eqIntS (h1.ext hw0) (h3.ext hw0) n1 n3).mono ?_; rintro e w1 ⟨rfl, hx1⟩
  have hc1 := hx1.cellr
  have hz : w.heap.size + 1 < w1.heap.size := Nat.lt_of_lt_of_le (by simp) hx1.size
  have hz2 : w.heap.size < w1.heap.size := by omega
  cases hab : eqL eqI ps ps'
  · go_wp2
    go_ret
    exact ⟨ret_b (by simp [RuleD.eqB, hab]), (by repeat (first | (with_reducible exact Ext.refl _) | (with_reducible assumption) | with_reducible refine Ext.drew ?_ | with_reducible refine Ext.alloc ?_ _ | with_reducible refine Ext.setCell ?_ (by first | (simp; done) | (simp; omega) | omega) _ | with_reducible refine Ext.trans ?_ (by with_reducible assumption)))⟩
  · go_wp2
    all_goals go_ret
    all_goals exact ⟨ret_b (by simp_all [RuleD.eqB]), (by repeat (first | (with_reducible exact Ext.refl _) | (with_reducible assumption) | with_reducible refine Ext.drew ?_ | with_reducible refine Ext.alloc ?_ _ | with_reducible refine Ext.setCell ?_ (by first | (simp; done) | (simp; omega) | omega) _ | with_reducible refine Ext.trans ?_ (by with_reducible assumption)))⟩

theorem laws_szMap {m : MapD} {ao bo : Option Addr} {ac bc : Nat} {x : Int} {w : World} (n1 : m.rise.length ≤ 9223372036854775807) (n2 : m.cost.length ≤ 9223372036854775807) (h0 : 0 ≤ x) (h1 : x ≤ 1048576) :
    Calls Try.prog 9 #[m.val ao ac bo bc, .int .i64 x] w fun e w' => e = .returned (.int .i64 (if (m.rise.length : Int) + m.cost.length ≤ x then x - m.rise.length - m.cost.length else -1)) ∧ Ext w w' := by
  obtain ⟨wi, he, rs, ts⟩ := m
  dsimp only [MapD.val] at n1 n2 ⊢
  by_cases c1 : (rs.length : Int) ≤ x
  · by_cases c2 : (rs.length : Int) + ts.length ≤ x
    · rw [if_pos c2]
      go_enter Try.func9, Try.ntmps9
      go_wp2_with fail
      refine (laws_szIntS n1 h0 h1).mono ?_; rintro e w1 ⟨rfl, rfl⟩
      rw [show szI rs.length x = x - (rs.length : Int) by simp [szI, c1]]
      go_wp2_with fail
      refine (laws_szIntS n2 (by omega) (by omega)).mono ?_; rintro e w1 ⟨rfl, rfl⟩
      rw [show szI ts.length (x - (rs.length : Int)) = x - (rs.length : Int) - (ts.length : Int) by simp [szI]; omega]
      go_wp2
      go_ret
      exact ⟨rfl, (by repeat (first | (with_reducible exact Ext.refl _) | (with_reducible assumption) | with_reducible refine Ext.drew ?_ | with_reducible refine Ext.alloc ?_ _ | with_reducible refine Ext.setCell ?_ (by first | (simp; done) | (simp; omega) | omega) _ | with_reducible refine Ext.trans ?_ (by with_reducible assumption)))⟩
    · rw [if_neg c2]
      go_enter Try.func9, Try.ntmps9
      go_wp2_with fail
      refine (laws_szIntS n1 h0 h1).mono ?_; rintro e w1 ⟨rfl, rfl⟩
      rw [show szI rs.length x = x - (rs.length : Int) by simp [szI, c1]]
      go_wp2_with fail
      refine (laws_szIntS n2 (by omega) (by omega)).mono ?_; rintro e w1 ⟨rfl, rfl⟩
      rw [show szI ts.length (x - (rs.length : Int)) = -1 by simp [szI]; omega]
      go_wp2
      go_ret
      exact ⟨rfl, (by repeat (first | (with_reducible exact Ext.refl _) | (with_reducible assumption) | with_reducible refine Ext.drew ?_ | with_reducible refine Ext.alloc ?_ _ | with_reducible refine Ext.setCell ?_ (by first | (simp; done) | (simp; omega) | omega) _ | with_reducible refine Ext.trans ?_ (by with_reducible assumption)))⟩
  · rw [if_neg (by omega)]
    go_enter Try.func9, Try.ntmps9
    go_wp2_with fail
    refine (laws_szIntS n1 h0 h1).mono ?_; rintro e w1 ⟨rfl, rfl⟩
    rw [show szI rs.length x = -1 by simp [szI]; omega]
    go_wp2
    go_ret
    exact ⟨rfl, (by repeat (first | (with_reducible exact Ext.refl _) | (with_reducible assumption) | with_reducible refine Ext.drew ?_ | with_reducible refine Ext.alloc ?_ _ | with_reducible refine Ext.setCell ?_ (by first | (simp; done) | (simp; omega) | omega) _ | with_reducible refine Ext.trans ?_ (by with_reducible assumption)))⟩

theorem laws_szScoreRule {r : RuleD} {ao : Option Addr} {ac : Nat} {x : Int} {w : World} (hn : r.pts.length ≤ 9223372036854775807) (h0 : 0 ≤ x) (h1 : x ≤ 1048576) :
    Calls Try.prog 19 #[r.val ao ac, .int .i64 x] w fun e w' => e = .returned (.int .i64 (szI r.pts.length x)) ∧ Ext w w' := by
  obtain ⟨ps, a, b⟩ := r
  dsimp only [RuleD.val] at hn ⊢
  by_cases h : (ps.length : Int) ≤ x
  · go_enter Try.func19, Try.ntmps19
    go_wp2_with fail
    refine (laws_szIntS hn h0 h1).mono ?_; rintro e w1 ⟨rfl, rfl⟩
    rw [show szI ps.length x = x - (ps.length : Int) by simp [szI, h]]
    go_wp2
    go_ret
    exact ⟨ret_i (by simp [szI]; omega), (by repeat (first | (with_reducible exact Ext.refl _) | (with_reducible assumption) | with_reducible refine Ext.drew ?_ | with_reducible refine Ext.alloc ?_ _ | with_reducible refine Ext.setCell ?_ (by first | (simp; done) | (simp; omega) | omega) _ | with_reducible refine Ext.trans ?_ (by with_reducible assumption)))⟩
  · go_enter Try.func19, Try.ntmps19
    go_wp2_with fail
    refine (laws_szIntS hn h0 h1).mono ?_; rintro e w1 ⟨rfl, rfl⟩
    rw [show szI ps.length x = -1 by simp [szI]; omega]
    go_wp2
    go_ret
    exact ⟨ret_i (by simp [szI]; omega), (by repeat (first | (with_reducible exact Ext.refl _) | (with_reducible assumption) | with_reducible refine Ext.drew ?_ | with_reducible refine Ext.alloc ?_ _ | with_reducible refine Ext.setCell ?_ (by first | (simp; done) | (simp; omega) | omega) _ | with_reducible refine Ext.trans ?_ (by with_reducible assumption)))⟩

set_option maxRecDepth 100000 in
/-- An argument that is a map, opened. -/
theorem open_Map {H : Type} {enc : TypeId × Value → H} {w : World} {base : Nat} {v : Value} {d : DataW H} {p : List MemPlace} (hv : Value.okWide Try.prog w .any base 24 v) (h : DataW.Trod enc Try.prog w 0 (fun _ => true) true 24 v d p) :
    ∃ (m : MapD) (ao : Option Addr) (ac : Nat) (bo : Option Addr) (bc : Nat), v = m.val ao ac bo bc ∧ RowAt w ao 1 m.rise.length (ic m.rise) ∧ RowAt w bo 1 m.cost.length (ic m.cost) ∧ m.rise.length ≤ 9223372036854775807 ∧ m.cost.length ≤ 9223372036854775807 ∧ I64 m.wid ∧ I64 m.hei ∧ (∀ k, k < m.rise.length → I64 (nth m.rise k)) ∧ (∀ k, k < m.cost.length → I64 (nth m.cost k)) := by
  obtain ⟨v0, v1, v2, v3, y0, y1, y2, y3, n, rfl, _, _, t0, t1, t2, t3⟩ := open_agg4 Try.underlying24 (by kernel_rfl) (by kernel_rfl) hv h
  obtain ⟨x0, ex0, _, wx0⟩ := DataW.trod_int Try.underlying3 t0
  obtain rfl : v0 = _ := List.singleton_inj.1 ex0
  obtain ⟨x1, ex1, _, wx1⟩ := DataW.trod_int Try.underlying3 t1
  obtain rfl : v1 = _ := List.singleton_inj.1 ex1
  obtain ⟨ao, ac, rs, rfl, hl, hr, hw, _⟩ := trod_IntS t2
  obtain ⟨bo, bc, ts, rfl, hl', hr', hw', _⟩ := trod_IntS t3
  exact ⟨⟨x0, x1, rs, ts⟩, ao, ac, bo, bc, rfl, hr, hr', hl, hl', I64.of_wf wx0, I64.of_wf wx1, hw, hw'⟩

set_option maxRecDepth 100000 in
/-- An argument that is a score rule, opened. -/
theorem open_ScoreRule {H : Type} {enc : TypeId × Value → H} {w : World} {base : Nat} {v : Value} {d : DataW H} {p : List MemPlace} (hv : Value.okWide Try.prog w .any base 40 v) (h : DataW.Trod enc Try.prog w 0 (fun _ => true) true 40 v d p) :
    ∃ (r : RuleD) (ao : Option Addr) (ac : Nat), v = r.val ao ac ∧ RowAt w ao 1 r.pts.length (ic r.pts) ∧ r.pts.length ≤ 9223372036854775807 ∧ I64 r.lim ∧ I64 r.pen ∧ (∀ k, k < r.pts.length → I64 (nth r.pts k)) := by
  obtain ⟨v0, v1, v2, y0, y1, y2, n, rfl, _, _, t0, t1, t2⟩ := open_agg3 Try.underlying40 (by kernel_rfl) (by kernel_rfl) hv h
  obtain ⟨ao, ac, rs, rfl, hl, hr, hw, _⟩ := trod_IntS t0
  obtain ⟨x1, ex1, _, wx1⟩ := DataW.trod_int Try.underlying3 t1
  obtain rfl : v1 = _ := List.singleton_inj.1 ex1
  obtain ⟨x2, ex2, _, wx2⟩ := DataW.trod_int Try.underlying3 t2
  obtain rfl : v2 = _ := List.singleton_inj.1 ex2
  exact ⟨⟨rs, x1, x2⟩, ao, ac, rfl, hr, hl, I64.of_wf wx1, I64.of_wf wx2, hw⟩

end Go.Proofs.Ytidcfohlhamgmaa
