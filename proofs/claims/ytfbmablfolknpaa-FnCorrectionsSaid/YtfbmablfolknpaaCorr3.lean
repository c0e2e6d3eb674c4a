/-
  Proved here: what CorrectCard and its reference return.
  Conditions: the lengths fit.
-/
import Derived.Test.YtfbmablfolknpaaCorr2
namespace Go.Proofs.Ytfbmablfolknpaa
open Go.RowKit

def corC (c : CardD) (code : Int) (ms : List Mark) : CardD := ⟨c.number, c.start, c.finish, corL c code ms c.ps.length⟩
def ccB (c : CardD) (code : Int) (ms : List Mark) : Bool := corA c code ms && cardB (corC c code ms)
def ccC (c : CardD) (code : Int) (ms : List Mark) : CardD := if ccB c code ms then corC c code ms else ⟨0, 0, 0, []⟩
theorem ccC_len (c : CardD) (code : Int) (ms : List Mark) : (ccC c code ms).ps.length ≤ 12 := by
  unfold ccC
  split
  · rename_i h
    simp only [ccB, Bool.and_eq_true] at h
    exact card_len h.2
  · simp
theorem cor_ok {c : CardD} {code : Int} {ms : List Mark} (h : cardB (corC c code ms) = true) : corOk c code ms c.ps.length = true := by
  have key : ∀ k, k ≤ c.ps.length → corOk c code ms k = true := by
    intro k
    induction k with
    | zero => intro _; rfl
    | succ k ih =>
      intro hk
      rw [corOk]
      split
      · rename_i hcd
        rw [ih (by omega)]
        have hl : k < (corC c code ms).ps.length := by show k < (corL c code ms c.ps.length).length; rw [corL_len]; omega
        have := card_punch h hl
        have e : nth (corC c code ms).ps k = corP ms code (nth c.ps k) := corL_nth c code ms (by omega)
        rw [e, corP, if_pos hcd] at this
        simp only [Bool.true_and, inB_iff]
        exact this
      · exact ih (by omega)
  exact key _ (Nat.le_refl _)

set_option maxRecDepth 100000 in
set_option maxHeartbeats 4000000 in
theorem impl_CorrectCard {c : CardD} {ad : Addr} {cap : Nat} {code : Int} {ms : List Mark} {mo : Option Addr} {mcap : Nat} {w : World} (h : RowAt w (some ad) 2 c.ps.length (fun k => (nth c.ps k).c)) (hn : c.ps.length ≤ cap ∧ cap ≤ 9223372036854775807)
    (h' : RowAt w mo 2 ms.length (fun k => (nth ms k).c)) (hn' : ms.length ≤ 1048576) :
    Calls Try.prog 19 #[c.val (some ad) cap, .int .i64 code, .slice mo ms.length mcap] w fun e w' => ∃ go gc, e = .returned (.tuple #[(ccC c code ms).val go gc, .bool (ccB c code ms)]) ∧ Ext w w' ∧ FreshAt w.heap.size w' go 2 (ccC c code ms).ps.length (fun k => (nth (ccC c code ms).ps k).c) := by
  have H := fun x hx => impl_IsCard (w := x) (ao := some ad) (cap := cap) (h.ext hx) (by omega)
  have HM := fun x hx => impl_AreClockMarks (w := x) (ao := mo) (cap := mcap) (h'.ext hx) (by omega)
  have zero : corA c code ms = false → ccB c code ms = false ∧ ccC c code ms = ⟨0, 0, 0, []⟩ := fun hA => by
    have : ccB c code ms = false := by simp [ccB, hA]
    exact ⟨this, by simp [ccC, this]⟩
  cases hb : cardB c
  · obtain ⟨e1, e2⟩ := zero (by simp [corA, hb])
    rw [e1, e2]
    rw [hb] at H
    clear e1 e2 zero hb
    unfold CardD.val at H ⊢
    dsimp only
    go_enter Try.func19, Try.ntmps19
    go_wp2_with fail
    refine (H _ (by repeat (first | (with_reducible exact Ext.refl _) | (with_reducible assumption) | with_reducible refine Ext.drew ?_ | with_reducible refine Ext.alloc ?_ _ | with_reducible refine Ext.setCell ?_ (by first | (simp; done) | (simp; omega) | omega) _ | with_reducible refine Ext.trans ?_ (by with_reducible assumption)))).mono ?_; rintro e w1 ⟨rfl, hx1⟩
    have hxa : Ext (w.alloc (Obj.cells #[.int .i64 c.number, .int .i64 c.start, .int .i64 c.finish, .slice (some ad) c.ps.length cap] 41)) w1 := (by repeat (first | (with_reducible exact Ext.refl _) | (with_reducible assumption) | with_reducible refine Ext.drew ?_ | with_reducible refine Ext.alloc ?_ _ | with_reducible refine Ext.setCell ?_ (by first | (simp; done) | (simp; omega) | omega) _ | with_reducible refine Ext.trans ?_ (by with_reducible assumption)))
    have hres : Res4 w1 (w.heap.size + 1) := by
      have := Res4.of hx1
      rwa [World.size_alloc] at this
    have hx01 : Ext w w1 := (by repeat (first | (with_reducible exact Ext.refl _) | (with_reducible assumption) | with_reducible refine Ext.drew ?_ | with_reducible refine Ext.alloc ?_ _ | with_reducible refine Ext.setCell ?_ (by first | (simp; done) | (simp; omega) | omega) _ | with_reducible refine Ext.trans ?_ (by with_reducible assumption)))
    obtain ⟨q0, q1, q2, q3⟩ := Box4.of hxa
    have zq : w.heap.size < w1.heap.size := World.block_lt_of_cell? _ _ q0
    clear hx1 hxa
    obtain ⟨r0, r1, r2, r3, rz⟩ := hres
    have f0 := rz 0
    have f1 := rz 1
    have f2 := rz 2
    have f3 := rz 3
    have rl : w.heap.size + 1 < w1.heap.size := World.block_lt_of_cell? _ _ r0
    clear rz
    go_wp2
    refine bodyPost_ret (v := .tuple #[.agg #[.int .i64 0, .int .i64 0, .int .i64 0, .slice none 0 0], .bool false]) ?_ rfl ?_
    · simp [results, Try.results19, go_sem, cell_put, r0, r1, r2, r3]
    · first
        | exact ⟨none, 0, rfl, (by repeat (first | (with_reducible exact Ext.refl _) | (with_reducible assumption) | with_reducible refine Ext.drew ?_ | with_reducible refine Ext.alloc ?_ _ | with_reducible refine Ext.setCell ?_ (by first | (simp; done) | (simp; omega) | omega) _ | with_reducible refine Ext.trans ?_ (by with_reducible assumption))), fresh_nil⟩
        | exact ⟨none, ⟨0, rfl⟩, (by repeat (first | (with_reducible exact Ext.refl _) | (with_reducible assumption) | with_reducible refine Ext.drew ?_ | with_reducible refine Ext.alloc ?_ _ | with_reducible refine Ext.setCell ?_ (by first | (simp; done) | (simp; omega) | omega) _ | with_reducible refine Ext.trans ?_ (by with_reducible assumption))), fresh_nil⟩
  · rw [hb] at H
    cases hcd : inB code 31 99
    · obtain ⟨e1, e2⟩ := zero (by simp [corA, hcd])
      rw [e1, e2]
      clear e1 e2 zero hb
      unfold CardD.val at H ⊢
      dsimp only
      go_enter Try.func19, Try.ntmps19
      go_wp2_with fail
      refine (H _ (by repeat (first | (with_reducible exact Ext.refl _) | (with_reducible assumption) | with_reducible refine Ext.drew ?_ | with_reducible refine Ext.alloc ?_ _ | with_reducible refine Ext.setCell ?_ (by first | (simp; done) | (simp; omega) | omega) _ | with_reducible refine Ext.trans ?_ (by with_reducible assumption)))).mono ?_; rintro e w1 ⟨rfl, hx1⟩
      have hxa : Ext (w.alloc (Obj.cells #[.int .i64 c.number, .int .i64 c.start, .int .i64 c.finish, .slice (some ad) c.ps.length cap] 41)) w1 := (by repeat (first | (with_reducible exact Ext.refl _) | (with_reducible assumption) | with_reducible refine Ext.drew ?_ | with_reducible refine Ext.alloc ?_ _ | with_reducible refine Ext.setCell ?_ (by first | (simp; done) | (simp; omega) | omega) _ | with_reducible refine Ext.trans ?_ (by with_reducible assumption)))
      have hres : Res4 w1 (w.heap.size + 1) := by
        have := Res4.of hx1
        rwa [World.size_alloc] at this
      have hx01 : Ext w w1 := (by repeat (first | (with_reducible exact Ext.refl _) | (with_reducible assumption) | with_reducible refine Ext.drew ?_ | with_reducible refine Ext.alloc ?_ _ | with_reducible refine Ext.setCell ?_ (by first | (simp; done) | (simp; omega) | omega) _ | with_reducible refine Ext.trans ?_ (by with_reducible assumption)))
      obtain ⟨q0, q1, q2, q3⟩ := Box4.of hxa
      have zq : w.heap.size < w1.heap.size := World.block_lt_of_cell? _ _ q0
      clear hx1 hxa
      go_wp2_with fail
      refine impl_isCode.mono ?_; rintro e w2 ⟨rfl, rfl⟩
      rw [hcd]
      clear hcd
      obtain ⟨r0, r1, r2, r3, rz⟩ := hres
      have f0 := rz 0
      have f1 := rz 1
      have f2 := rz 2
      have f3 := rz 3
      have rl : w.heap.size + 1 < w1.heap.size := World.block_lt_of_cell? _ _ r0
      clear rz
      go_wp2
      refine bodyPost_ret (v := .tuple #[.agg #[.int .i64 0, .int .i64 0, .int .i64 0, .slice none 0 0], .bool false]) ?_ rfl ?_
      · simp [results, Try.results19, go_sem, cell_put, r0, r1, r2, r3]
      · first
          | exact ⟨none, 0, rfl, (by repeat (first | (with_reducible exact Ext.refl _) | (with_reducible assumption) | with_reducible refine Ext.drew ?_ | with_reducible refine Ext.alloc ?_ _ | with_reducible refine Ext.setCell ?_ (by first | (simp; done) | (simp; omega) | omega) _ | with_reducible refine Ext.trans ?_ (by with_reducible assumption))), fresh_nil⟩
          | exact ⟨none, ⟨0, rfl⟩, (by repeat (first | (with_reducible exact Ext.refl _) | (with_reducible assumption) | with_reducible refine Ext.drew ?_ | with_reducible refine Ext.alloc ?_ _ | with_reducible refine Ext.setCell ?_ (by first | (simp; done) | (simp; omega) | omega) _ | with_reducible refine Ext.trans ?_ (by with_reducible assumption))), fresh_nil⟩
    · cases hm : marksB ms
      · obtain ⟨e1, e2⟩ := zero (by simp [corA, hm])
        rw [e1, e2]
        rw [hm] at HM
        clear e1 e2 zero hb hm
        unfold CardD.val at H ⊢
        dsimp only
        go_enter Try.func19, Try.ntmps19
        go_wp2_with fail
        refine (H _ (by repeat (first | (with_reducible exact Ext.refl _) | (with_reducible assumption) | with_reducible refine Ext.drew ?_ | with_reducible refine Ext.alloc ?_ _ | with_reducible refine Ext.setCell ?_ (by first | (simp; done) | (simp; omega) | omega) _ | with_reducible refine Ext.trans ?_ (by with_reducible assumption)))).mono ?_; rintro e w1 ⟨rfl, hx1⟩
        have hxa : Ext (w.alloc (Obj.cells #[.int .i64 c.number, .int .i64 c.start, .int .i64 c.finish, .slice (some ad) c.ps.length cap] 41)) w1 := (by repeat (first | (with_reducible exact Ext.refl _) | (with_reducible assumption) | with_reducible refine Ext.drew ?_ | with_reducible refine Ext.alloc ?_ _ | with_reducible refine Ext.setCell ?_ (by first | (simp; done) | (simp; omega) | omega) _ | with_reducible refine Ext.trans ?_ (by with_reducible assumption)))
        have hres : Res4 w1 (w.heap.size + 1) := by
          have := Res4.of hx1
          rwa [World.size_alloc] at this
        have hx01 : Ext w w1 := (by repeat (first | (with_reducible exact Ext.refl _) | (with_reducible assumption) | with_reducible refine Ext.drew ?_ | with_reducible refine Ext.alloc ?_ _ | with_reducible refine Ext.setCell ?_ (by first | (simp; done) | (simp; omega) | omega) _ | with_reducible refine Ext.trans ?_ (by with_reducible assumption)))
        obtain ⟨q0, q1, q2, q3⟩ := Box4.of hxa
        have zq : w.heap.size < w1.heap.size := World.block_lt_of_cell? _ _ q0
        clear hx1 hxa
        go_wp2_with fail
        refine impl_isCode.mono ?_; rintro e w2 ⟨rfl, rfl⟩
        rw [hcd]
        clear hcd
        go_wp2_with fail
        refine (HM _ hx01).mono ?_; rintro e w3 ⟨rfl, hx3⟩
        replace hres := hres.ext hx3
        replace hx01 := hx01.trans hx3
        clear hx3 q0 q1 q2 q3
        obtain ⟨r0, r1, r2, r3, rz⟩ := hres
        have f0 := rz 0
        have f1 := rz 1
        have f2 := rz 2
        have f3 := rz 3
        have rl : w.heap.size + 1 < w3.heap.size := World.block_lt_of_cell? _ _ r0
        clear rz
        go_wp2
        refine bodyPost_ret (v := .tuple #[.agg #[.int .i64 0, .int .i64 0, .int .i64 0, .slice none 0 0], .bool false]) ?_ rfl ?_
        · simp [results, Try.results19, go_sem, cell_put, r0, r1, r2, r3]
        · first
            | exact ⟨none, 0, rfl, (by repeat (first | (with_reducible exact Ext.refl _) | (with_reducible assumption) | with_reducible refine Ext.drew ?_ | with_reducible refine Ext.alloc ?_ _ | with_reducible refine Ext.setCell ?_ (by first | (simp; done) | (simp; omega) | omega) _ | with_reducible refine Ext.trans ?_ (by with_reducible assumption))), fresh_nil⟩
            | exact ⟨none, ⟨0, rfl⟩, (by repeat (first | (with_reducible exact Ext.refl _) | (with_reducible assumption) | with_reducible refine Ext.drew ?_ | with_reducible refine Ext.alloc ?_ _ | with_reducible refine Ext.setCell ?_ (by first | (simp; done) | (simp; omega) | omega) _ | with_reducible refine Ext.trans ?_ (by with_reducible assumption))), fresh_nil⟩
      · have hA : corA c code ms = true := by simp [corA, hb, hcd, hm]
        have hcn := hm
        have HC := fun x hx => impl_corrected (w := x) (ao := some ad) (cap := cap) (code := code) (mo := mo) (mcap := mcap) (h.ext hx) hb (h'.ext hx) hm
        rw [hm] at HM
        clear zero
        cases hok : corOk c code ms c.ps.length
        · have hcb : cardB (corC c code ms) = false := by
            cases e : cardB (corC c code ms)
            · rfl
            · rw [cor_ok e] at hok; cases hok
          have e1 : ccB c code ms = false := by simp [ccB, hcb]
          have e2 : ccC c code ms = ⟨0, 0, 0, []⟩ := by simp [ccC, e1]
          rw [e1, e2]
          rw [hok] at HC
          clear e1 e2 hcb hok hA hcn hm hb
          unfold CardD.val at H HC ⊢
          dsimp only
          go_enter Try.func19, Try.ntmps19
          go_wp2_with fail
          refine (H _ (by repeat (first | (with_reducible exact Ext.refl _) | (with_reducible assumption) | with_reducible refine Ext.drew ?_ | with_reducible refine Ext.alloc ?_ _ | with_reducible refine Ext.setCell ?_ (by first | (simp; done) | (simp; omega) | omega) _ | with_reducible refine Ext.trans ?_ (by with_reducible assumption)))).mono ?_; rintro e w1 ⟨rfl, hx1⟩
          have hxa : Ext (w.alloc (Obj.cells #[.int .i64 c.number, .int .i64 c.start, .int .i64 c.finish, .slice (some ad) c.ps.length cap] 41)) w1 := (by repeat (first | (with_reducible exact Ext.refl _) | (with_reducible assumption) | with_reducible refine Ext.drew ?_ | with_reducible refine Ext.alloc ?_ _ | with_reducible refine Ext.setCell ?_ (by first | (simp; done) | (simp; omega) | omega) _ | with_reducible refine Ext.trans ?_ (by with_reducible assumption)))
          have hres : Res4 w1 (w.heap.size + 1) := by
            have := Res4.of hx1
            rwa [World.size_alloc] at this
          have hx01 : Ext w w1 := (by repeat (first | (with_reducible exact Ext.refl _) | (with_reducible assumption) | with_reducible refine Ext.drew ?_ | with_reducible refine Ext.alloc ?_ _ | with_reducible refine Ext.setCell ?_ (by first | (simp; done) | (simp; omega) | omega) _ | with_reducible refine Ext.trans ?_ (by with_reducible assumption)))
          obtain ⟨q0, q1, q2, q3⟩ := Box4.of hxa
          have zq : w.heap.size < w1.heap.size := World.block_lt_of_cell? _ _ q0
          clear hx1 hxa
          go_wp2_with fail
          refine impl_isCode.mono ?_; rintro e w2 ⟨rfl, rfl⟩
          rw [hcd]
          clear hcd
          go_wp2_with fail
          refine (HM _ hx01).mono ?_; rintro e w3 ⟨rfl, hx3⟩
          replace hres := hres.ext hx3
          replace hx01 := hx01.trans hx3
          obtain ⟨q0, q1, q2, q3⟩ := Box4.ext ⟨q0, q1, q2, q3⟩ hx3
          have zq : w.heap.size < w3.heap.size := World.block_lt_of_cell? _ _ q0
          clear hx3
          go_wp2_with fail
          refine (HC _ (hx01.alloc _)).mono ?_; rintro e w4 ⟨go, gc, rfl, hx4, hF⟩
          have o0 : w4.cell? ⟨w3.heap.size, 0, none⟩ = some (.int .i64 c.number) := hx4.cells (by go_simp)
          have o1 : w4.cell? ⟨w3.heap.size, 1, none⟩ = some (.int .i64 c.start) := hx4.cells (by go_simp)
          have o2 : w4.cell? ⟨w3.heap.size, 2, none⟩ = some (.int .i64 c.finish) := hx4.cells (by go_simp)
          have o3 : w4.cell? ⟨w3.heap.size, 3, none⟩ = some (.slice (some ad) c.ps.length cap) := hx4.cells (by go_simp)
          have oz : w4.frozen? ⟨w3.heap.size, 3, none⟩ = false := (hx4.frozenr _ _ (by simp)).trans (by go_simp)
          have ol := World.block_lt_of_cell? _ _ o0
          have hx34 : Ext w3 w4 := (by repeat (first | (with_reducible exact Ext.refl _) | (with_reducible assumption) | with_reducible refine Ext.drew ?_ | with_reducible refine Ext.alloc ?_ _ | with_reducible refine Ext.setCell ?_ (by first | (simp; done) | (simp; omega) | omega) _ | with_reducible refine Ext.trans ?_ (by with_reducible assumption)))
          have hres0 := hres
          replace hres := hres.ext hx34
          have rl3 : w.heap.size + 1 < w3.heap.size + 1 := by have := hx01.size; have := zq; omega
          replace hx01 := hx01.trans hx34
          have hws := hx01.size
          rw [World.size_alloc] at hF
          clear hx4 hx34 q0 q1 q2 q3
          have hbo : w3.heap.size ≠ w.heap.size + 1 := by have := hres0.lt; omega
          have hres2 := hres.put (p := ⟨w3.heap.size, 3, none⟩) hbo (.slice go (corL c code ms c.ps.length).length gc)
          clear hres
          have hres := hres2
          clear hres2
          have hx02 : Ext w (w4.setCell ⟨w3.heap.size, 3, none⟩ (.slice go (corL c code ms c.ps.length).length gc)) := Ext.setCell hx01 (by simp only; omega) _
          clear hx01
          obtain ⟨r0, r1, r2, r3, rz⟩ := hres
          have f0 := rz 0
          have f1 := rz 1
          have f2 := rz 2
          have f3 := rz 3
          have rl : w.heap.size + 1 < (w4.setCell ⟨w3.heap.size, 3, none⟩ (.slice go (corL c code ms c.ps.length).length gc)).heap.size := World.block_lt_of_cell? _ _ r0
          clear rz
          go_wp2
          refine bodyPost_ret (v := .tuple #[.agg #[.int .i64 0, .int .i64 0, .int .i64 0, .slice none 0 0], .bool false]) ?_ rfl ?_
          · simp [results, Try.results19, go_sem, cell_put, r0, r1, r2, r3]
          · first
              | exact ⟨none, 0, rfl, (by repeat (first | (with_reducible exact Ext.refl _) | (with_reducible assumption) | with_reducible refine Ext.drew ?_ | with_reducible refine Ext.alloc ?_ _ | with_reducible refine Ext.setCell ?_ (by first | (simp; done) | (simp; omega) | omega) _ | with_reducible refine Ext.trans ?_ (by with_reducible assumption))), fresh_nil⟩
              | exact ⟨none, ⟨0, rfl⟩, (by repeat (first | (with_reducible exact Ext.refl _) | (with_reducible assumption) | with_reducible refine Ext.drew ?_ | with_reducible refine Ext.alloc ?_ _ | with_reducible refine Ext.setCell ?_ (by first | (simp; done) | (simp; omega) | omega) _ | with_reducible refine Ext.trans ?_ (by with_reducible assumption))), fresh_nil⟩
        · rw [hok] at HC
          have HI2 := fun x go gc hx => impl_IsCard (w := x) (c := corC c code ms) (ao := go) (cap := gc) hx (by show (corL c code ms c.ps.length).length ≤ _; rw [corL_len]; omega)
          cases hcb : cardB (corC c code ms)
          · have e1 : ccB c code ms = false := by simp [ccB, hcb]
            have e2 : ccC c code ms = ⟨0, 0, 0, []⟩ := by simp [ccC, e1]
            rw [e1, e2]
            rw [hcb] at HI2
            clear e1 e2 hcb hok hA hcn hm hb
            unfold CardD.val at H HC HI2 ⊢
            dsimp only [corC] at HI2 ⊢
            go_enter Try.func19, Try.ntmps19
            go_wp2_with fail
            refine (H _ (by repeat (first | (with_reducible exact Ext.refl _) | (with_reducible assumption) | with_reducible refine Ext.drew ?_ | with_reducible refine Ext.alloc ?_ _ | with_reducible refine Ext.setCell ?_ (by first | (simp; done) | (simp; omega) | omega) _ | with_reducible refine Ext.trans ?_ (by with_reducible assumption)))).mono ?_; rintro e w1 ⟨rfl, hx1⟩
            have hxa : Ext (w.alloc (Obj.cells #[.int .i64 c.number, .int .i64 c.start, .int .i64 c.finish, .slice (some ad) c.ps.length cap] 41)) w1 := (by repeat (first | (with_reducible exact Ext.refl _) | (with_reducible assumption) | with_reducible refine Ext.drew ?_ | with_reducible refine Ext.alloc ?_ _ | with_reducible refine Ext.setCell ?_ (by first | (simp; done) | (simp; omega) | omega) _ | with_reducible refine Ext.trans ?_ (by with_reducible assumption)))
            have hres : Res4 w1 (w.heap.size + 1) := by
              have := Res4.of hx1
              rwa [World.size_alloc] at this
            have hx01 : Ext w w1 := (by repeat (first | (with_reducible exact Ext.refl _) | (with_reducible assumption) | with_reducible refine Ext.drew ?_ | with_reducible refine Ext.alloc ?_ _ | with_reducible refine Ext.setCell ?_ (by first | (simp; done) | (simp; omega) | omega) _ | with_reducible refine Ext.trans ?_ (by with_reducible assumption)))
            obtain ⟨q0, q1, q2, q3⟩ := Box4.of hxa
            have zq : w.heap.size < w1.heap.size := World.block_lt_of_cell? _ _ q0
            clear hx1 hxa
            go_wp2_with fail
            refine impl_isCode.mono ?_; rintro e w2 ⟨rfl, rfl⟩
            rw [hcd]
            clear hcd
            go_wp2_with fail
            refine (HM _ hx01).mono ?_; rintro e w3 ⟨rfl, hx3⟩
            replace hres := hres.ext hx3
            replace hx01 := hx01.trans hx3
            obtain ⟨q0, q1, q2, q3⟩ := Box4.ext ⟨q0, q1, q2, q3⟩ hx3
            have zq : w.heap.size < w3.heap.size := World.block_lt_of_cell? _ _ q0
            clear hx3
            go_wp2_with fail
            refine (HC _ (hx01.alloc _)).mono ?_; rintro e w4 ⟨go, gc, rfl, hx4, hF⟩
            have o0 : w4.cell? ⟨w3.heap.size, 0, none⟩ = some (.int .i64 c.number) := hx4.cells (by go_simp)
            have o1 : w4.cell? ⟨w3.heap.size, 1, none⟩ = some (.int .i64 c.start) := hx4.cells (by go_simp)
            have o2 : w4.cell? ⟨w3.heap.size, 2, none⟩ = some (.int .i64 c.finish) := hx4.cells (by go_simp)
            have o3 : w4.cell? ⟨w3.heap.size, 3, none⟩ = some (.slice (some ad) c.ps.length cap) := hx4.cells (by go_simp)
            have oz : w4.frozen? ⟨w3.heap.size, 3, none⟩ = false := (hx4.frozenr _ _ (by simp)).trans (by go_simp)
            have ol := World.block_lt_of_cell? _ _ o0
            have hx34 : Ext w3 w4 := (by repeat (first | (with_reducible exact Ext.refl _) | (with_reducible assumption) | with_reducible refine Ext.drew ?_ | with_reducible refine Ext.alloc ?_ _ | with_reducible refine Ext.setCell ?_ (by first | (simp; done) | (simp; omega) | omega) _ | with_reducible refine Ext.trans ?_ (by with_reducible assumption)))
            have hres0 := hres
            replace hres := hres.ext hx34
            have rl3 : w.heap.size + 1 < w3.heap.size + 1 := by have := hx01.size; have := zq; omega
            replace hx01 := hx01.trans hx34
            have hws := hx01.size
            rw [World.size_alloc] at hF
            clear hx4 hx34 q0 q1 q2 q3
            have hbo : w3.heap.size ≠ w.heap.size + 1 := by have := hres0.lt; omega
            have hres2 := hres.put (p := ⟨w3.heap.size, 3, none⟩) hbo (.slice go (corL c code ms c.ps.length).length gc)
            have hx02 : Ext w (w4.setCell ⟨w3.heap.size, 3, none⟩ (.slice go (corL c code ms c.ps.length).length gc)) := Ext.setCell hx01 (by simp only; omega) _
            have hF2 := hF.setCell (p := ⟨w3.heap.size, 3, none⟩) (by simp only; omega) (.slice go (corL c code ms c.ps.length).length gc)
            clear hx01 hres hF
            go_wp2_with fail
            refine (HI2 _ _ _ hF2.row).mono ?_; rintro e w5 ⟨rfl, hx5⟩
            have hres := hres2.ext hx5
            replace hx02 := hx02.trans hx5
            clear hres2 hx5 hF2
            obtain ⟨r0, r1, r2, r3, rz⟩ := hres
            have f0 := rz 0
            have f1 := rz 1
            have f2 := rz 2
            have f3 := rz 3
            have rl : w.heap.size + 1 < w5.heap.size := World.block_lt_of_cell? _ _ r0
            clear rz
            go_wp2
            refine bodyPost_ret (v := .tuple #[.agg #[.int .i64 0, .int .i64 0, .int .i64 0, .slice none 0 0], .bool false]) ?_ rfl ?_
            · simp [results, Try.results19, go_sem, cell_put, r0, r1, r2, r3]
            · first
                | exact ⟨none, 0, rfl, (by repeat (first | (with_reducible exact Ext.refl _) | (with_reducible assumption) | with_reducible refine Ext.drew ?_ | with_reducible refine Ext.alloc ?_ _ | with_reducible refine Ext.setCell ?_ (by first | (simp; done) | (simp; omega) | omega) _ | with_reducible refine Ext.trans ?_ (by with_reducible assumption))), fresh_nil⟩
                | exact ⟨none, ⟨0, rfl⟩, (by repeat (first | (with_reducible exact Ext.refl _) | (with_reducible assumption) | with_reducible refine Ext.drew ?_ | with_reducible refine Ext.alloc ?_ _ | with_reducible refine Ext.setCell ?_ (by first | (simp; done) | (simp; omega) | omega) _ | with_reducible refine Ext.trans ?_ (by with_reducible assumption))), fresh_nil⟩
          · have e1 : ccB c code ms = true := by simp [ccB, hcb, hA]
            have e2 : ccC c code ms = corC c code ms := by simp [ccC, e1]
            rw [e1, e2]
            rw [hcb] at HI2
            clear e1 e2 hcb hok hA hcn hm hb
            unfold CardD.val at H HC HI2 ⊢
            dsimp only [corC] at HI2 ⊢
            go_enter Try.func19, Try.ntmps19
            go_wp2_with fail
            refine (H _ (by repeat (first | (with_reducible exact Ext.refl _) | (with_reducible assumption) | with_reducible refine Ext.drew ?_ | with_reducible refine Ext.alloc ?_ _ | with_reducible refine Ext.setCell ?_ (by first | (simp; done) | (simp; omega) | omega) _ | with_reducible refine Ext.trans ?_ (by with_reducible assumption)))).mono ?_; rintro e w1 ⟨rfl, hx1⟩
            have hxa : Ext (w.alloc (Obj.cells #[.int .i64 c.number, .int .i64 c.start, .int .i64 c.finish, .slice (some ad) c.ps.length cap] 41)) w1 := (by repeat (first | (with_reducible exact Ext.refl _) | (with_reducible assumption) | with_reducible refine Ext.drew ?_ | with_reducible refine Ext.alloc ?_ _ | with_reducible refine Ext.setCell ?_ (by first | (simp; done) | (simp; omega) | omega) _ | with_reducible refine Ext.trans ?_ (by with_reducible assumption)))
            have hres : Res4 w1 (w.heap.size + 1) := by
              have := Res4.of hx1
              rwa [World.size_alloc] at this
            have hx01 : Ext w w1 := (by repeat (first | (with_reducible exact Ext.refl _) | (with_reducible assumption) | with_reducible refine Ext.drew ?_ | with_reducible refine Ext.alloc ?_ _ | with_reducible refine Ext.setCell ?_ (by first | (simp; done) | (simp; omega) | omega) _ | with_reducible refine Ext.trans ?_ (by with_reducible assumption)))
            obtain ⟨q0, q1, q2, q3⟩ := Box4.of hxa
            have zq : w.heap.size < w1.heap.size := World.block_lt_of_cell? _ _ q0
            clear hx1 hxa
            go_wp2_with fail
            refine impl_isCode.mono ?_; rintro e w2 ⟨rfl, rfl⟩
            rw [hcd]
            clear hcd
            go_wp2_with fail
            refine (HM _ hx01).mono ?_; rintro e w3 ⟨rfl, hx3⟩
            replace hres := hres.ext hx3
            replace hx01 := hx01.trans hx3
            obtain ⟨q0, q1, q2, q3⟩ := Box4.ext ⟨q0, q1, q2, q3⟩ hx3
            have zq : w.heap.size < w3.heap.size := World.block_lt_of_cell? _ _ q0
            clear hx3
            go_wp2_with fail
            refine (HC _ (hx01.alloc _)).mono ?_; rintro e w4 ⟨go, gc, rfl, hx4, hF⟩
            have o0 : w4.cell? ⟨w3.heap.size, 0, none⟩ = some (.int .i64 c.number) := hx4.cells (by go_simp)
            have o1 : w4.cell? ⟨w3.heap.size, 1, none⟩ = some (.int .i64 c.start) := hx4.cells (by go_simp)
            have o2 : w4.cell? ⟨w3.heap.size, 2, none⟩ = some (.int .i64 c.finish) := hx4.cells (by go_simp)
            have o3 : w4.cell? ⟨w3.heap.size, 3, none⟩ = some (.slice (some ad) c.ps.length cap) := hx4.cells (by go_simp)
            have oz : w4.frozen? ⟨w3.heap.size, 3, none⟩ = false := (hx4.frozenr _ _ (by simp)).trans (by go_simp)
            have ol := World.block_lt_of_cell? _ _ o0
            have hx34 : Ext w3 w4 := (by repeat (first | (with_reducible exact Ext.refl _) | (with_reducible assumption) | with_reducible refine Ext.drew ?_ | with_reducible refine Ext.alloc ?_ _ | with_reducible refine Ext.setCell ?_ (by first | (simp; done) | (simp; omega) | omega) _ | with_reducible refine Ext.trans ?_ (by with_reducible assumption)))
            have hres0 := hres
            replace hres := hres.ext hx34
            have rl3 : w.heap.size + 1 < w3.heap.size + 1 := by have := hx01.size; have := zq; omega
            replace hx01 := hx01.trans hx34
            have hws := hx01.size
            rw [World.size_alloc] at hF
            clear hx4 hx34 q0 q1 q2 q3
            have hbo : w3.heap.size ≠ w.heap.size + 1 := by have := hres0.lt; omega
            have hres2 := hres.put (p := ⟨w3.heap.size, 3, none⟩) hbo (.slice go (corL c code ms c.ps.length).length gc)
            have hx02 : Ext w (w4.setCell ⟨w3.heap.size, 3, none⟩ (.slice go (corL c code ms c.ps.length).length gc)) := Ext.setCell hx01 (by simp only; omega) _
            have hF2 := hF.setCell (p := ⟨w3.heap.size, 3, none⟩) (by simp only; omega) (.slice go (corL c code ms c.ps.length).length gc)
            clear hx01
            go_wp2_with fail
            refine (HI2 _ _ _ hF2.row).mono ?_; rintro e w5 ⟨rfl, hx5⟩
            obtain ⟨r0, r1, r2, r3, rz⟩ := hres2.ext hx5
            have hbx := (Box4.put3 ⟨o0, o1, o2, o3⟩ (.slice go (corL c code ms c.ps.length).length gc)).ext hx5
            obtain ⟨b0, b1, b2, b3⟩ := hbx
            have hF5 := hF2.ext hx5
            replace hx02 := hx02.trans hx5
            have f0 := rz 0
            have f1 := rz 1
            have f2 := rz 2
            have f3 := rz 3
            have rl : w.heap.size + 1 < w5.heap.size := World.block_lt_of_cell? _ _ r0
            have bl : w3.heap.size < w5.heap.size := World.block_lt_of_cell? _ _ b0
            clear rz hres hres2 hx5 hF hF2 o0 o1 o2 o3 oz
            go_wp2
            refine bodyPost_ret (v := .tuple #[.agg #[.int .i64 c.number, .int .i64 c.start, .int .i64 c.finish, .slice go (corL c code ms c.ps.length).length gc], .bool true]) ?_ rfl ?_
            · simp [results, Try.results19, go_sem, cell_put, r0, r1, r2, r3]
            · have hE : Ext w ((((w5.setCell ⟨w.heap.size + 1, 0, none⟩ (.int .i64 c.number)).setCell ⟨w.heap.size + 1, 1, none⟩ (.int .i64 c.start)).setCell ⟨w.heap.size + 1, 2, none⟩ (.int .i64 c.finish)).setCell ⟨w.heap.size + 1, 3, none⟩ (.slice go (corL c code ms c.ps.length).length gc)) := Ext.setCell (Ext.setCell (Ext.setCell (Ext.setCell hx02 (by simp) _) (by simp) _) (by simp) _) (by simp) _
              have hF' := (((hF5.setCell (p := ⟨w.heap.size + 1, 0, none⟩) rl3 (.int .i64 c.number)).setCell (p := ⟨w.heap.size + 1, 1, none⟩) rl3 (.int .i64 c.start)).setCell (p := ⟨w.heap.size + 1, 2, none⟩) rl3 (.int .i64 c.finish)).setCell (p := ⟨w.heap.size + 1, 3, none⟩) rl3 (.slice go (corL c code ms c.ps.length).length gc)
              first
                | exact ⟨go, gc, rfl, hE, hF'.mono (by omega)⟩
                | exact ⟨go, ⟨gc, rfl⟩, hE, hF'.mono (by omega)⟩

set_option maxRecDepth 100000 in
set_option maxHeartbeats 4000000 in
theorem spec_CorrectCard {c : CardD} {ad : Addr} {cap : Nat} {code : Int} {ms : List Mark} {mo : Option Addr} {mcap : Nat} {w : World} (h : RowAt w (some ad) 2 c.ps.length (fun k => (nth c.ps k).c)) (hn : c.ps.length ≤ cap ∧ cap ≤ 9223372036854775807)
    (h' : RowAt w mo 2 ms.length (fun k => (nth ms k).c)) (hn' : ms.length ≤ 1048576) :
    Calls Try.prog 17 #[c.val (some ad) cap, .int .i64 code, .slice mo ms.length mcap] w fun e w' => ∃ go gc, e = .returned (.tuple #[(ccC c code ms).val go gc, .bool (ccB c code ms)]) ∧ Ext w w' ∧ FreshAt w.heap.size w' go 2 (ccC c code ms).ps.length (fun k => (nth (ccC c code ms).ps k).c) := by
  have H := fun x hx => spec_l13Card (w := x) (ad := ad) (cap := cap) (code := code) (mo := mo) (mcap := mcap) (h.ext hx) (by omega) (h'.ext hx) (by omega)
  cases hA : corA c code ms
  · have e1 : ccB c code ms = false := by simp [ccB, hA]
    have e2 : ccC c code ms = ⟨0, 0, 0, []⟩ := by simp [ccC, e1]
    rw [e1, e2]
    rw [hA] at H
    clear e1 e2 hA
    unfold CardD.val at H ⊢
    dsimp only
    go_enter Try.func17, Try.ntmps17
    go_wp2_with fail
    refine (H _ (by repeat (first | (with_reducible exact Ext.refl _) | (with_reducible assumption) | with_reducible refine Ext.drew ?_ | with_reducible refine Ext.alloc ?_ _ | with_reducible refine Ext.setCell ?_ (by first | (simp; done) | (simp; omega) | omega) _ | with_reducible refine Ext.trans ?_ (by with_reducible assumption)))).mono ?_; rintro e w1 ⟨rfl, hx1⟩
    have hxa : Ext (w.alloc (Obj.cells #[.int .i64 c.number, .int .i64 c.start, .int .i64 c.finish, .slice (some ad) c.ps.length cap] 41)) w1 := (by repeat (first | (with_reducible exact Ext.refl _) | (with_reducible assumption) | with_reducible refine Ext.drew ?_ | with_reducible refine Ext.alloc ?_ _ | with_reducible refine Ext.setCell ?_ (by first | (simp; done) | (simp; omega) | omega) _ | with_reducible refine Ext.trans ?_ (by with_reducible assumption)))
    have hres : Res4 w1 (w.heap.size + 1) := by
      have := Res4.of hx1
      rwa [World.size_alloc] at this
    have hx01 : Ext w w1 := (by repeat (first | (with_reducible exact Ext.refl _) | (with_reducible assumption) | with_reducible refine Ext.drew ?_ | with_reducible refine Ext.alloc ?_ _ | with_reducible refine Ext.setCell ?_ (by first | (simp; done) | (simp; omega) | omega) _ | with_reducible refine Ext.trans ?_ (by with_reducible assumption)))
    obtain ⟨q0, q1, q2, q3⟩ := Box4.of hxa
    have zq : w.heap.size < w1.heap.size := World.block_lt_of_cell? _ _ q0
    clear hx1 hxa
    obtain ⟨r0, r1, r2, r3, rz⟩ := hres
    have f0 := rz 0
    have f1 := rz 1
    have f2 := rz 2
    have f3 := rz 3
    have rl : w.heap.size + 1 < w1.heap.size := World.block_lt_of_cell? _ _ r0
    clear rz
    go_wp2
    refine bodyPost_ret (v := .tuple #[.agg #[.int .i64 0, .int .i64 0, .int .i64 0, .slice none 0 0], .bool false]) ?_ rfl ?_
    · simp [results, Try.results17, go_sem, cell_put, r0, r1, r2, r3]
    · first
        | exact ⟨none, 0, rfl, (by repeat (first | (with_reducible exact Ext.refl _) | (with_reducible assumption) | with_reducible refine Ext.drew ?_ | with_reducible refine Ext.alloc ?_ _ | with_reducible refine Ext.setCell ?_ (by first | (simp; done) | (simp; omega) | omega) _ | with_reducible refine Ext.trans ?_ (by with_reducible assumption))), fresh_nil⟩
        | exact ⟨none, ⟨0, rfl⟩, (by repeat (first | (with_reducible exact Ext.refl _) | (with_reducible assumption) | with_reducible refine Ext.drew ?_ | with_reducible refine Ext.alloc ?_ _ | with_reducible refine Ext.setCell ?_ (by first | (simp; done) | (simp; omega) | omega) _ | with_reducible refine Ext.trans ?_ (by with_reducible assumption))), fresh_nil⟩
  · rw [hA] at H
    have hA2 := hA
    simp only [corA, Bool.and_eq_true] at hA2
    have HC := fun x hx => spec_l13Correct (w := x) (ad := ad) (cap := cap) (code := code) (mo := mo) (mcap := mcap) (h.ext hx) hA2.1.1 hn.1 (h'.ext hx) hA2.2
    have HI2 := fun x go gc hx => spec_l12Card (w := x) (c := corC c code ms) (ao := go) (cap := gc) hx (by show (corL c code ms c.ps.length).length ≤ _; rw [corL_len]; omega)
    cases hcb : cardB (corC c code ms)
    · have e1 : ccB c code ms = false := by simp [ccB, hcb]
      have e2 : ccC c code ms = ⟨0, 0, 0, []⟩ := by simp [ccC, e1]
      rw [e1, e2]
      rw [hcb] at HI2
      clear e1 e2 hcb hA hA2
      unfold CardD.val at H HC HI2 ⊢
      dsimp only [corC] at HI2 ⊢
      go_enter Try.func17, Try.ntmps17
      go_wp2_with fail
      refine (H _ (by repeat (first | (with_reducible exact Ext.refl _) | (with_reducible assumption) | with_reducible refine Ext.drew ?_ | with_reducible refine Ext.alloc ?_ _ | with_reducible refine Ext.setCell ?_ (by first | (simp; done) | (simp; omega) | omega) _ | with_reducible refine Ext.trans ?_ (by with_reducible assumption)))).mono ?_; rintro e w1 ⟨rfl, hx1⟩
      have hxa : Ext (w.alloc (Obj.cells #[.int .i64 c.number, .int .i64 c.start, .int .i64 c.finish, .slice (some ad) c.ps.length cap] 41)) w1 := (by repeat (first | (with_reducible exact Ext.refl _) | (with_reducible assumption) | with_reducible refine Ext.drew ?_ | with_reducible refine Ext.alloc ?_ _ | with_reducible refine Ext.setCell ?_ (by first | (simp; done) | (simp; omega) | omega) _ | with_reducible refine Ext.trans ?_ (by with_reducible assumption)))
      have hres : Res4 w1 (w.heap.size + 1) := by
        have := Res4.of hx1
        rwa [World.size_alloc] at this
      have hx01 : Ext w w1 := (by repeat (first | (with_reducible exact Ext.refl _) | (with_reducible assumption) | with_reducible refine Ext.drew ?_ | with_reducible refine Ext.alloc ?_ _ | with_reducible refine Ext.setCell ?_ (by first | (simp; done) | (simp; omega) | omega) _ | with_reducible refine Ext.trans ?_ (by with_reducible assumption)))
      obtain ⟨q0, q1, q2, q3⟩ := Box4.of hxa
      have zq : w.heap.size < w1.heap.size := World.block_lt_of_cell? _ _ q0
      clear hx1 hxa
      go_wp2_with fail
      refine (HC _ hx01).mono ?_; rintro e w2 ⟨go, gc, rfl, hx2, hF⟩
      go_wp2_with fail
      refine (HI2 _ _ _ hF.row).mono ?_; rintro e w3 ⟨rfl, hx3⟩
      replace hres := (hres.ext hx2).ext hx3
      replace hx01 := (hx01.trans hx2).trans hx3
      clear hF hx2 hx3 q0 q1 q2 q3
      obtain ⟨r0, r1, r2, r3, rz⟩ := hres
      have f0 := rz 0
      have f1 := rz 1
      have f2 := rz 2
      have f3 := rz 3
      have rl : w.heap.size + 1 < w3.heap.size := World.block_lt_of_cell? _ _ r0
      clear rz
      go_wp2
      refine bodyPost_ret (v := .tuple #[.agg #[.int .i64 0, .int .i64 0, .int .i64 0, .slice none 0 0], .bool false]) ?_ rfl ?_
      · simp [results, Try.results17, go_sem, cell_put, r0, r1, r2, r3]
      · first
          | exact ⟨none, 0, rfl, (by repeat (first | (with_reducible exact Ext.refl _) | (with_reducible assumption) | with_reducible refine Ext.drew ?_ | with_reducible refine Ext.alloc ?_ _ | with_reducible refine Ext.setCell ?_ (by first | (simp; done) | (simp; omega) | omega) _ | with_reducible refine Ext.trans ?_ (by with_reducible assumption))), fresh_nil⟩
          | exact ⟨none, ⟨0, rfl⟩, (by repeat (first | (with_reducible exact Ext.refl _) | (with_reducible assumption) | with_reducible refine Ext.drew ?_ | with_reducible refine Ext.alloc ?_ _ | with_reducible refine Ext.setCell ?_ (by first | (simp; done) | (simp; omega) | omega) _ | with_reducible refine Ext.trans ?_ (by with_reducible assumption))), fresh_nil⟩
    · have e1 : ccB c code ms = true := by simp [ccB, hcb, hA]
      have e2 : ccC c code ms = corC c code ms := by simp [ccC, e1]
      rw [e1, e2]
      rw [hcb] at HI2
      clear e1 e2 hcb hA hA2
      unfold CardD.val at H HC HI2 ⊢
      dsimp only [corC] at HI2 ⊢
      go_enter Try.func17, Try.ntmps17
      go_wp2_with fail
      refine (H _ (by repeat (first | (with_reducible exact Ext.refl _) | (with_reducible assumption) | with_reducible refine Ext.drew ?_ | with_reducible refine Ext.alloc ?_ _ | with_reducible refine Ext.setCell ?_ (by first | (simp; done) | (simp; omega) | omega) _ | with_reducible refine Ext.trans ?_ (by with_reducible assumption)))).mono ?_; rintro e w1 ⟨rfl, hx1⟩
      have hxa : Ext (w.alloc (Obj.cells #[.int .i64 c.number, .int .i64 c.start, .int .i64 c.finish, .slice (some ad) c.ps.length cap] 41)) w1 := (by repeat (first | (with_reducible exact Ext.refl _) | (with_reducible assumption) | with_reducible refine Ext.drew ?_ | with_reducible refine Ext.alloc ?_ _ | with_reducible refine Ext.setCell ?_ (by first | (simp; done) | (simp; omega) | omega) _ | with_reducible refine Ext.trans ?_ (by with_reducible assumption)))
      have hres : Res4 w1 (w.heap.size + 1) := by
        have := Res4.of hx1
        rwa [World.size_alloc] at this
      have hx01 : Ext w w1 := (by repeat (first | (with_reducible exact Ext.refl _) | (with_reducible assumption) | with_reducible refine Ext.drew ?_ | with_reducible refine Ext.alloc ?_ _ | with_reducible refine Ext.setCell ?_ (by first | (simp; done) | (simp; omega) | omega) _ | with_reducible refine Ext.trans ?_ (by with_reducible assumption)))
      obtain ⟨q0, q1, q2, q3⟩ := Box4.of hxa
      have zq : w.heap.size < w1.heap.size := World.block_lt_of_cell? _ _ q0
      clear hx1 hxa
      go_wp2_with fail
      refine (HC _ hx01).mono ?_; rintro e w2 ⟨go2, gc2, rfl, hx2, hF⟩
      go_wp2_with fail
      refine (HI2 _ _ _ hF.row).mono ?_; rintro e w3 ⟨rfl, hx3⟩
      have hx13 := hx2.trans hx3
      replace hres := hres.ext hx13
      replace hx01 := hx01.trans hx13
      obtain ⟨q0, q1, q2, q3⟩ := Box4.ext ⟨q0, q1, q2, q3⟩ hx13
      have zq : w.heap.size < w3.heap.size := World.block_lt_of_cell? _ _ q0
      clear hF hx2 hx3 hx13
      go_wp2_with fail
      refine (HC _ hx01).mono ?_; rintro e w4 ⟨go, gc, rfl, hx4, hF⟩
      obtain ⟨r0, r1, r2, r3, rz⟩ := hres.ext hx4
      have rl3 := hres.lt
      have hws := hx01.size
      replace hx01 := hx01.trans hx4
      have f0 := rz 0
      have f1 := rz 1
      have f2 := rz 2
      have f3 := rz 3
      have rl : w.heap.size + 1 < w4.heap.size := World.block_lt_of_cell? _ _ r0
      clear rz hres hx4 q0 q1 q2 q3
      go_wp2
      refine bodyPost_ret (v := .tuple #[.agg #[.int .i64 c.number, .int .i64 c.start, .int .i64 c.finish, .slice go (corL c code ms c.ps.length).length gc], .bool true]) ?_ rfl ?_
      · simp [results, Try.results17, go_sem, cell_put, r0, r1, r2, r3]
      · have hE : Ext w ((((w4.setCell ⟨w.heap.size + 1, 0, none⟩ (.int .i64 c.number)).setCell ⟨w.heap.size + 1, 1, none⟩ (.int .i64 c.start)).setCell ⟨w.heap.size + 1, 2, none⟩ (.int .i64 c.finish)).setCell ⟨w.heap.size + 1, 3, none⟩ (.slice go (corL c code ms c.ps.length).length gc)) := Ext.setCell (Ext.setCell (Ext.setCell (Ext.setCell hx01 (by simp) _) (by simp) _) (by simp) _) (by simp) _
        have hF' := (((hF.setCell (p := ⟨w.heap.size + 1, 0, none⟩) rl3 (.int .i64 c.number)).setCell (p := ⟨w.heap.size + 1, 1, none⟩) rl3 (.int .i64 c.start)).setCell (p := ⟨w.heap.size + 1, 2, none⟩) rl3 (.int .i64 c.finish)).setCell (p := ⟨w.heap.size + 1, 3, none⟩) rl3 (.slice go (corL c code ms c.ps.length).length gc)
        first
          | exact ⟨go, gc, rfl, hE, hF'.mono (by omega)⟩
          | exact ⟨go, ⟨gc, rfl⟩, hE, hF'.mono (by omega)⟩

end Go.Proofs.Ytfbmablfolknpaa
