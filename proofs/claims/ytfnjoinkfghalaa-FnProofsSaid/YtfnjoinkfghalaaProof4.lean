/-
  Proved here: the greatest weights by kind (the program's way).
  Conditions: the proofs are valid ones.
-/
import Derived.Test.YtfnjoinkfghalaaProof3
namespace Go.Proofs.Ytfnjoinkfghalaa
open Go.RowKit

/-- the array of the greatest weights -/
def wArr (xs : List Prf) (r c : Int) (ag : Bool) (k : Nat) : Value := .agg #[.int .i64 (bestW xs r c 0 ag k), .int .i64 (bestW xs r c 1 ag k), .int .i64 (bestW xs r c 2 ag k), .int .i64 (bestW xs r c 3 ag k)]
structure WRel (xs : List Prf) (r c : Int) (ag : Bool) (w wr : World) (k : Nat) : Prop where
  ext : Ext w wr
  size : w.heap.size + 1 < wr.heap.size
  c0 : wr.cell? ⟨w.heap.size + 1, 0, none⟩ = some (.int .i64 (bestW xs r c 0 ag k))
  c1 : wr.cell? ⟨w.heap.size + 1, 1, none⟩ = some (.int .i64 (bestW xs r c 1 ag k))
  c2 : wr.cell? ⟨w.heap.size + 1, 2, none⟩ = some (.int .i64 (bestW xs r c 2 ag k))
  c3 : wr.cell? ⟨w.heap.size + 1, 3, none⟩ = some (.int .i64 (bestW xs r c 3 ag k))
  f : ∀ j, wr.frozen? ⟨w.heap.size + 1, j, none⟩ = false
  r0 : ∀ j, j < 4 → ∃ u, wr.cell? ⟨w.heap.size, j, none⟩ = some u
  rf : ∀ j, wr.frozen? ⟨w.heap.size, j, none⟩ = false

theorem WRel.kept {xs : List Prf} {r c : Int} {ag : Bool} {w wr w' : World} {k : Nat} (h : WRel xs r c ag w wr k) (hx : Ext wr w') : WRel xs r c ag w w' k :=
  have hs := h.size
  have hs' := hx.size
  ⟨h.ext.trans hx, by omega, hx.cells h.c0, hx.cells h.c1, hx.cells h.c2, hx.cells h.c3, fun j => (hx.frozenr _ _ hs).trans (h.f j), fun j hj => let ⟨u, hu⟩ := h.r0 j hj; ⟨u, hx.cells hu⟩, fun j => (hx.frozenr _ _ (by omega)).trans (h.rf j)⟩
theorem bestW_miss {xs : List Prf} {r c kd : Int} {ag : Bool} {k : Nat} (h : cnt (nth xs k) r c kd ag = false) : bestW xs r c kd ag (k + 1) = bestW xs r c kd ag k := by
  rw [bestW, if_neg (by simp [h])]
theorem WRel.miss {xs : List Prf} {r c : Int} {ag : Bool} {w wr : World} {k : Nat} (h : WRel xs r c ag w wr k) (hc : ((nth xs k).runner == r && (nth xs k).code == c && (nth xs k).against == ag) = false) : WRel xs r c ag w wr (k + 1) := by
  have hm : ∀ kd, bestW xs r c kd ag (k + 1) = bestW xs r c kd ag k := fun kd => bestW_miss (by
    cases e : cnt (nth xs k) r c kd ag
    · rfl
    · simp only [cnt, Bool.and_eq_true] at e
      simp [e] at hc)
  exact ⟨h.ext, h.size, by rw [hm]; exact h.c0, by rw [hm]; exact h.c1, by rw [hm]; exact h.c2, by rw [hm]; exact h.c3, h.f, h.r0, h.rf⟩
theorem WRel.hit {xs : List Prf} {r c : Int} {ag : Bool} {w wr : World} {k : Nat} (h : WRel xs r c ag w wr k) (hc : ((nth xs k).runner == r && (nth xs k).code == c && (nth xs k).against == ag) = true) {q : Nat} (_hq : q < 4) (hkd : (nth xs k).kind = (q : Int)) :
    WRel xs r c ag w (wr.setCell ⟨w.heap.size + 1, q, none⟩ (.int .i64 (if bestW xs r c q ag k < (nth xs k).weight then (nth xs k).weight else bestW xs r c q ag k))) (k + 1) := by
  simp only [Bool.and_eq_true] at hc
  have hcnt : ∀ kd : Int, cnt (nth xs k) r c kd ag = ((q : Int) == kd) := fun kd => by simp [cnt, hc, hkd]
  have hyes : bestW xs r c q ag (k + 1) = if bestW xs r c q ag k < (nth xs k).weight then (nth xs k).weight else bestW xs r c q ag k := by
    rw [bestW, if_pos (by rw [hcnt]; simp)]
    split <;> omega
  have hno : ∀ kd : Int, (q : Int) ≠ kd → bestW xs r c kd ag (k + 1) = bestW xs r c kd ag k := fun kd hne => bestW_miss (by rw [hcnt]; simpa using hne)
  have hcell : ∀ j : Nat, wr.cell? ⟨w.heap.size + 1, j, none⟩ = some (.int .i64 (bestW xs r c j ag k)) → (wr.setCell ⟨w.heap.size + 1, q, none⟩ (.int .i64 (if bestW xs r c q ag k < (nth xs k).weight then (nth xs k).weight else bestW xs r c q ag k))).cell? ⟨w.heap.size + 1, j, none⟩ = some (.int .i64 (bestW xs r c j ag (k + 1))) := fun j hj => by
    by_cases e : q = j
    · subst e
      rw [World.cell?_setCell_same _ _ _ hj, hyes]
    · rw [World.cell?_setCell_other _ _ _ _ (fun e' => e (by injection e')), hj, hno j (by omega)]
  refine ⟨h.ext.setCell (by simp) _, by simpa [World.setCell] using h.size, hcell 0 h.c0, hcell 1 h.c1, hcell 2 h.c2, hcell 3 h.c3, fun j => by rw [World.frozen?_setCell]; exact h.f j, fun j hj => ?_, fun j => by rw [World.frozen?_setCell]; exact h.rf j⟩
  obtain ⟨u, hu⟩ := h.r0 j hj
  exact ⟨u, (World.cell?_setCell_other _ _ _ _ (fun e' => by injection e' with e1; omega)).trans hu⟩

set_option maxRecDepth 100000 in
set_option maxHeartbeats 1000000 in
theorem impl_weightsOf {ao : Option Addr} {cap : Nat} {xs : List Prf} {r c : Int} {ag : Bool} {w : World} (h : RowAt w ao 5 xs.length (fun k => (nth xs k).c)) (hn : xs.length ≤ 9223372036854775807) (hok : okPrfs xs) :
    Calls Try.prog 46 #[.slice ao xs.length cap, .int .i64 r, .int .i64 c, .bool ag] w fun e w' => e = .returned (wArr xs r c ag xs.length) ∧ Ext w w' := by
  go_enter Try.func46, Try.ntmps46
  go_wp2
  go_loopw [15] (fun i wr => ∃ k : Nat, k ≤ xs.length ∧ i = .int .i64 k ∧ WRel xs r c ag w wr k) (fun i _ => xs.length - (intOf i).toNat)
  case atStart => exact ⟨0, Nat.zero_le _, rfl, ⟨(by repeat (first | (with_reducible exact Ext.refl _) | (with_reducible assumption) | with_reducible refine Ext.drew ?_ | with_reducible refine Ext.alloc ?_ _ | with_reducible refine Ext.setCell ?_ (by first | (simp; done) | (simp; omega) | omega) _ | with_reducible refine Ext.trans ?_ (by with_reducible assumption))), by simp, by go_simp; rfl, by go_simp; rfl, by go_simp; rfl, by go_simp; rfl, fun j => by go_simp, fun j hj => (by match j, hj with | 0, _ => exact ⟨.int .i64 0, by go_simp⟩ | 1, _ => exact ⟨.int .i64 0, by go_simp⟩ | 2, _ => exact ⟨.int .i64 0, by go_simp⟩ | 3, _ => exact ⟨.int .i64 0, by go_simp⟩), fun j => by go_simp⟩⟩
  case round =>
    obtain ⟨k, hk, rfl, hR⟩ := hrel
    by_cases hlt : k < xs.length
    · obtain ⟨b, off, rfl, hcell⟩ := h (by omega)
      have d0 := hR.ext.cells (hcell k hlt 0 (by decide))
      have d1 := hR.ext.cells (hcell k hlt 1 (by decide))
      have d2 := hR.ext.cells (hcell k hlt 2 (by decide))
      have d3 := hR.ext.cells (hcell k hlt 3 (by decide))
      have d4 := hR.ext.cells (hcell k hlt 4 (by decide))
      simp only [Prf.c0, Prf.c1, Prf.c2, Prf.c3, Prf.c4, Nat.add_zero] at d0 d1 d2 d3 d4
      have hkk := hok k hlt
      clear hcell h hok
      by_cases hc : (nth xs k).runner == r && (nth xs k).code == c && (nth xs k).against == ag
      · have hkd : (nth xs k).kind = 0 ∨ (nth xs k).kind = 1 ∨ (nth xs k).kind = 2 ∨ (nth xs k).kind = 3 := by omega
        rcases hkd with hkd | hkd | hkd | hkd
        · rw [hkd] at d2
          have e1 := hR.c0
          have f1 := hR.f 0
          have hs := hR.size
          have R : WRel xs r c ag w (wr.setCell ⟨w.heap.size + 1, 0, none⟩ (.int .i64 (if bestW xs r c 0 ag k < (nth xs k).weight then (nth xs k).weight else bestW xs r c 0 ag k))) (k + 1) := hR.hit hc (q := 0) (by decide) hkd
          have HR := Lib.hid R; clear hR R
          have HKD := Lib.hid hkd; clear hkd
          simp only [Bool.and_eq_true] at hc
          obtain ⟨⟨hc1, hc2⟩, hc3⟩ := hc
          go_wp2
          go_region
          go_wp2
          go_roundw
          case rel => exact ⟨k + 1, by omega, by go_num, HR.out.kept (by repeat (first | (with_reducible exact Ext.refl _) | (with_reducible assumption) | with_reducible refine Ext.drew ?_ | with_reducible refine Ext.alloc ?_ _ | with_reducible refine Ext.setCell ?_ (by first | (simp; done) | (simp; omega) | omega) _ | with_reducible refine Ext.trans ?_ (by with_reducible assumption)))⟩
          case measure => simp [intOf]; omega
        · rw [hkd] at d2
          have e1 := hR.c1
          have f1 := hR.f 1
          have hs := hR.size
          have R : WRel xs r c ag w (wr.setCell ⟨w.heap.size + 1, 1, none⟩ (.int .i64 (if bestW xs r c 1 ag k < (nth xs k).weight then (nth xs k).weight else bestW xs r c 1 ag k))) (k + 1) := hR.hit hc (q := 1) (by decide) hkd
          have HR := Lib.hid R; clear hR R
          have HKD := Lib.hid hkd; clear hkd
          simp only [Bool.and_eq_true] at hc
          obtain ⟨⟨hc1, hc2⟩, hc3⟩ := hc
          go_wp2
          go_region
          go_wp2
          go_roundw
          case rel => exact ⟨k + 1, by omega, by go_num, HR.out.kept (by repeat (first | (with_reducible exact Ext.refl _) | (with_reducible assumption) | with_reducible refine Ext.drew ?_ | with_reducible refine Ext.alloc ?_ _ | with_reducible refine Ext.setCell ?_ (by first | (simp; done) | (simp; omega) | omega) _ | with_reducible refine Ext.trans ?_ (by with_reducible assumption)))⟩
          case measure => simp [intOf]; omega
        · rw [hkd] at d2
          have e1 := hR.c2
          have f1 := hR.f 2
          have hs := hR.size
          have R : WRel xs r c ag w (wr.setCell ⟨w.heap.size + 1, 2, none⟩ (.int .i64 (if bestW xs r c 2 ag k < (nth xs k).weight then (nth xs k).weight else bestW xs r c 2 ag k))) (k + 1) := hR.hit hc (q := 2) (by decide) hkd
          have HR := Lib.hid R; clear hR R
          have HKD := Lib.hid hkd; clear hkd
          simp only [Bool.and_eq_true] at hc
          obtain ⟨⟨hc1, hc2⟩, hc3⟩ := hc
          go_wp2
          go_region
          go_wp2
          go_roundw
          case rel => exact ⟨k + 1, by omega, by go_num, HR.out.kept (by repeat (first | (with_reducible exact Ext.refl _) | (with_reducible assumption) | with_reducible refine Ext.drew ?_ | with_reducible refine Ext.alloc ?_ _ | with_reducible refine Ext.setCell ?_ (by first | (simp; done) | (simp; omega) | omega) _ | with_reducible refine Ext.trans ?_ (by with_reducible assumption)))⟩
          case measure => simp [intOf]; omega
        · rw [hkd] at d2
          have e1 := hR.c3
          have f1 := hR.f 3
          have hs := hR.size
          have R : WRel xs r c ag w (wr.setCell ⟨w.heap.size + 1, 3, none⟩ (.int .i64 (if bestW xs r c 3 ag k < (nth xs k).weight then (nth xs k).weight else bestW xs r c 3 ag k))) (k + 1) := hR.hit hc (q := 3) (by decide) hkd
          have HR := Lib.hid R; clear hR R
          have HKD := Lib.hid hkd; clear hkd
          simp only [Bool.and_eq_true] at hc
          obtain ⟨⟨hc1, hc2⟩, hc3⟩ := hc
          go_wp2
          go_region
          go_wp2
          go_roundw
          case rel => exact ⟨k + 1, by omega, by go_num, HR.out.kept (by repeat (first | (with_reducible exact Ext.refl _) | (with_reducible assumption) | with_reducible refine Ext.drew ?_ | with_reducible refine Ext.alloc ?_ _ | with_reducible refine Ext.setCell ?_ (by first | (simp; done) | (simp; omega) | omega) _ | with_reducible refine Ext.trans ?_ (by with_reducible assumption)))⟩
          case measure => simp [intOf]; omega
      · have hcf : ((nth xs k).runner == r && (nth xs k).code == c && (nth xs k).against == ag) = false := by simpa using hc
        have hs := hR.size
        have R := hR.miss hcf
        have HR := Lib.hid R; clear hR R
        have HC := Lib.hid hcf; clear hcf hc
        go_wp2
        all_goals first
          | (go_roundw
             case rel => exact ⟨k + 1, by omega, by go_num, HR.out.kept (by repeat (first | (with_reducible exact Ext.refl _) | (with_reducible assumption) | with_reducible refine Ext.drew ?_ | with_reducible refine Ext.alloc ?_ _ | with_reducible refine Ext.setCell ?_ (by first | (simp; done) | (simp; omega) | omega) _ | with_reducible refine Ext.trans ?_ (by with_reducible assumption)))⟩
             case measure => simp [intOf]; omega)
          | (exfalso
             have hc := HC.out
             simp [*] at hc
             done)
    · have hkn : k = xs.length := by omega
      subst hkn
      have e0 := hR.c0
      have e1 := hR.c1
      have e2 := hR.c2
      have e3 := hR.c3
      obtain ⟨u0, r0⟩ := hR.r0 0 (by decide)
      obtain ⟨u1, r1⟩ := hR.r0 1 (by decide)
      obtain ⟨u2, r2⟩ := hR.r0 2 (by decide)
      obtain ⟨u3, r3⟩ := hR.r0 3 (by decide)
      have f0 := hR.rf 0
      have f1 := hR.rf 1
      have f2 := hR.rf 2
      have f3 := hR.rf 3
      have hE := hR.ext
      clear hR
      go_wp2
      refine bodyPost_ret (v := wArr xs r c ag xs.length) ?_ rfl ⟨rfl, (by repeat (first | (with_reducible exact Ext.refl _) | (with_reducible assumption) | with_reducible refine Ext.drew ?_ | with_reducible refine Ext.alloc ?_ _ | with_reducible refine Ext.setCell ?_ (by first | (simp; done) | (simp; omega) | omega) _ | with_reducible refine Ext.trans ?_ (by with_reducible assumption)))⟩
      simp [results, Try.results46, go_sem, cell_put, r0, r1, r2, r3, wArr]

end Go.Proofs.Ytfnjoinkfghalaa
