/-
  Proved here: slices of pairs of ints: how they are compared, marked, held.
  Conditions: none beyond those in each statement.
-/
import Derived.Test.YtaplegdconmkiaaRel9
namespace Go.Proofs.Ytaplegdconmkiaa
open Go.RowKit

def Par.eqB (x y : Par) : Bool := x.a == y.a && x.b == y.b
theorem Par.eqB_iff (x y : Par) : x.eqB y = true ↔ x = y := by
  cases x; cases y; simp [Par.eqB]
theorem Par.c0 (x : Par) : x.c 0 = .int .i64 x.a := rfl
theorem Par.c1 (x : Par) : x.c 1 = .int .i64 x.b := rfl

set_option maxHeartbeats 1000000 in
theorem laws_eqIntA2 {a b c d : Int} {w : World} :
    Calls Try.prog 75 #[.agg #[.int .i64 a, .int .i64 b], .agg #[.int .i64 c, .int .i64 d]] w fun e w' => e = .returned (.bool (Par.eqB ⟨a, b⟩ ⟨c, d⟩)) ∧ Ext w w' := by
  have hfin : Par.eqB ⟨a, b⟩ ⟨c, d⟩ = (a == c && b == d) := rfl
  have HF := Lib.hid hfin; clear hfin
  have hw0 : Ext w ((w.alloc (Obj.cells #[.int .i64 a, .int .i64 b] 59)).alloc (Obj.cells #[.int .i64 c, .int .i64 d] 59)) := (by repeat (first | (with_reducible exact Ext.refl _) | (with_reducible assumption) | with_reducible refine Ext.drew ?_ | with_reducible refine Ext.alloc ?_ _ | with_reducible refine Ext.setCell ?_ (by first | (simp; done) | (simp; omega) | omega) _ | with_reducible refine Ext.trans ?_ (by with_reducible assumption)))
  go_enter Try.func75, Try.ntmps75
  go_wp2
  go_loopw [5] (fun i wr => ∃ k : Nat, k ≤ 2 ∧ i = .int .i64 k ∧ Ext ((w.alloc (Obj.cells #[.int .i64 a, .int .i64 b] 59)).alloc (Obj.cells #[.int .i64 c, .int .i64 d] 59)) wr ∧ (0 < k → (a == c) = true) ∧ (1 < k → (b == d) = true)) (fun i _ => 2 - (intOf i).toNat)
  case atStart => exact ⟨0, by omega, rfl, Ext.refl _, fun h => by omega, fun h => by omega⟩
  case round =>
    obtain ⟨k, hk, rfl, hx, h0, h1⟩ := hrel
    have g0 : ∀ x : Grow wr, x.w.cell? ⟨w.heap.size, 0, none⟩ = some (.int .i64 a) := Grow.cells (hx.cells (by go_simp))
    have g1 : ∀ x : Grow wr, x.w.cell? ⟨w.heap.size, 1, none⟩ = some (.int .i64 b) := Grow.cells (hx.cells (by go_simp))
    have g2 : ∀ x : Grow wr, x.w.cell? ⟨w.heap.size + 1, 0, none⟩ = some (.int .i64 c) := Grow.cells (hx.cells (by go_simp))
    have g3 : ∀ x : Grow wr, x.w.cell? ⟨w.heap.size + 1, 1, none⟩ = some (.int .i64 d) := Grow.cells (hx.cells (by go_simp))
    by_cases hlt : k < 2
    · have hk2 : k = 0 ∨ k = 1 := by omega
      rcases hk2 with rfl | rfl
      · cases hq : (a == c)
        all_goals
          have hne : (a != c) = !(a == c) := rfl
          rw [hq] at hne
          have HQ := Lib.hid hq; clear hq h0 h1
          go_wp2
          refine wp_region_ext (by kernel_rfl) (by kernel_rfl) ?_
          repeat (go_big_quiet_step (fail))
          refine wpQuiet_nil ?_
          rintro _ ⟨⟨w1, hx1⟩, rfl⟩
          clear g0 g1 g2 g3
          go_wp2
        · go_ret
          exact ⟨ret_b (by rw [HF.out, HQ.out]; rfl), (by repeat (first | (with_reducible exact Ext.refl _) | (with_reducible assumption) | with_reducible refine Ext.drew ?_ | with_reducible refine Ext.alloc ?_ _ | with_reducible refine Ext.setCell ?_ (by first | (simp; done) | (simp; omega) | omega) _ | with_reducible refine Ext.trans ?_ (by with_reducible assumption)))⟩
        · go_roundw
          case rel => exact ⟨1, by omega, by go_num, (by repeat (first | (with_reducible exact Ext.refl _) | (with_reducible assumption) | with_reducible refine Ext.drew ?_ | with_reducible refine Ext.alloc ?_ _ | with_reducible refine Ext.setCell ?_ (by first | (simp; done) | (simp; omega) | omega) _ | with_reducible refine Ext.trans ?_ (by with_reducible assumption))), fun _ => by simp, fun h => by omega⟩
          case measure => simp [intOf]
      · have H0 := Lib.hid (h0 (by omega))
        cases hq : (b == d)
        all_goals
          have hne : (b != d) = !(b == d) := rfl
          rw [hq] at hne
          have HQ := Lib.hid hq; clear hq h0 h1
          go_wp2
          refine wp_region_ext (by kernel_rfl) (by kernel_rfl) ?_
          repeat (go_big_quiet_step (fail))
          refine wpQuiet_nil ?_
          rintro _ ⟨⟨w1, hx1⟩, rfl⟩
          clear g0 g1 g2 g3
          go_wp2
        · go_ret
          exact ⟨ret_b (by rw [HF.out, HQ.out]; simp), (by repeat (first | (with_reducible exact Ext.refl _) | (with_reducible assumption) | with_reducible refine Ext.drew ?_ | with_reducible refine Ext.alloc ?_ _ | with_reducible refine Ext.setCell ?_ (by first | (simp; done) | (simp; omega) | omega) _ | with_reducible refine Ext.trans ?_ (by with_reducible assumption)))⟩
        · go_roundw
          case rel => exact ⟨2, by omega, by go_num, (by repeat (first | (with_reducible exact Ext.refl _) | (with_reducible assumption) | with_reducible refine Ext.drew ?_ | with_reducible refine Ext.alloc ?_ _ | with_reducible refine Ext.setCell ?_ (by first | (simp; done) | (simp; omega) | omega) _ | with_reducible refine Ext.trans ?_ (by with_reducible assumption))), fun _ => H0.out, fun _ => by simp⟩
          case measure => simp [intOf]
    · obtain rfl : k = 2 := by omega
      have H0 := Lib.hid (h0 (by omega))
      have H1 := Lib.hid (h1 (by omega))
      clear h0 h1 g0 g1 g2 g3
      go_wp2
      go_ret
      exact ⟨ret_b (by rw [HF.out, H0.out, H1.out]; rfl), (by repeat (first | (with_reducible exact Ext.refl _) | (with_reducible assumption) | with_reducible refine Ext.drew ?_ | with_reducible refine Ext.alloc ?_ _ | with_reducible refine Ext.setCell ?_ (by first | (simp; done) | (simp; omega) | omega) _ | with_reducible refine Ext.trans ?_ (by with_reducible assumption)))⟩

set_option maxHeartbeats 1000000 in
theorem laws_eqIntA2S {ao bo : Option Addr} {cap cap' : Nat} {xs ys : List Par} {w : World} (h : RowAt w ao 2 xs.length (fun k => (nth xs k).c)) (h' : RowAt w bo 2 ys.length (fun k => (nth ys k).c)) (hn : xs.length ≤ 9223372036854775807) (hn' : ys.length ≤ 9223372036854775807) :
    Calls Try.prog 35 #[.slice ao xs.length cap, .slice bo ys.length cap'] w fun e w' => e = .returned (.bool (eqL Par.eqB xs ys)) ∧ Ext w w' := by
  obtain ⟨n, hN⟩ : ∃ n, n = xs.length := ⟨_, rfl⟩
  obtain ⟨m, hM⟩ : ∃ m, m = ys.length := ⟨_, rfl⟩
  have hfin : eqL Par.eqB xs ys = (decide (n = m) && upto (fun k => (nth xs k).eqB (nth ys k)) n) := by rw [hN, hM]; rfl
  have HF := Lib.hid hfin; clear hfin
  rw [← hN] at hn h ⊢
  rw [← hM] at hn' h' ⊢
  clear hN hM
  by_cases hnm : n = m
  · subst hnm
    go_enter Try.func35, Try.ntmps35
    go_wp2
    go_loopw [5] (fun i wr => ∃ k : Nat, k ≤ n ∧ i = .int .i64 k ∧ Ext w wr ∧ upto (fun k => (nth xs k).eqB (nth ys k)) k = true) (fun i _ => n - (intOf i).toNat)
    case atStart => exact ⟨0, Nat.zero_le _, rfl, Ext.refl _, rfl⟩
    case round =>
      obtain ⟨k, hk, rfl, hx, hu⟩ := hrel
      have HU := Lib.hid hu; clear hu
      by_cases hlt : k < n
      · obtain ⟨b, off, rfl, hcell⟩ := h (by omega)
        obtain ⟨b', off', rfl, hcell'⟩ := h' (by omega)
        have d0 := Grow.cells (show wr.cell? ⟨b, off + k * 2, none⟩ = some (.int .i64 (nth xs k).a) from hx.cells (hcell k hlt 0 (by decide)))
        have d1 := Grow.cells (show wr.cell? ⟨b, off + k * 2 + 1, none⟩ = some (.int .i64 (nth xs k).b) from hx.cells (hcell k hlt 1 (by decide)))
        have p0 := Grow.cells (show wr.cell? ⟨b', off' + k * 2, none⟩ = some (.int .i64 (nth ys k).a) from hx.cells (hcell' k hlt 0 (by decide)))
        have p1 := Grow.cells (show wr.cell? ⟨b', off' + k * 2 + 1, none⟩ = some (.int .i64 (nth ys k).b) from hx.cells (hcell' k hlt 1 (by decide)))
        clear hcell hcell' h h'
        go_wp2
        refine wp_region_ext (by kernel_rfl) (by kernel_rfl) ?_
        repeat (go_big_quiet_step ((go_at_call 75; exact Calls.ext_of (laws_eqIntA2))))
        refine wpQuiet_nil ?_
        rintro _ ⟨⟨w1, hx1⟩, rfl⟩
        clear d0 d1 p0 p1
        go_wp2
        · go_ret
          have ht : (!((nth xs k).eqB (nth ys k))) = true := by assumption
          exact ⟨ret_b (by rw [HF.out, upto_false hlt (by simpa using ht)]; simp), (by repeat (first | (with_reducible exact Ext.refl _) | (with_reducible assumption) | with_reducible refine Ext.drew ?_ | with_reducible refine Ext.alloc ?_ _ | with_reducible refine Ext.setCell ?_ (by first | (simp; done) | (simp; omega) | omega) _ | with_reducible refine Ext.trans ?_ (by with_reducible assumption)))⟩
        · go_roundw
          have ht : (!((nth xs k).eqB (nth ys k))) = false := by assumption
          case rel => exact ⟨k + 1, by omega, by go_num, (by repeat (first | (with_reducible exact Ext.refl _) | (with_reducible assumption) | with_reducible refine Ext.drew ?_ | with_reducible refine Ext.alloc ?_ _ | with_reducible refine Ext.setCell ?_ (by first | (simp; done) | (simp; omega) | omega) _ | with_reducible refine Ext.trans ?_ (by with_reducible assumption))), upto_succ HU.out (by simpa using ht)⟩
          case measure => simp [intOf]; omega
      · obtain rfl : k = n := by omega
        go_wp2
        go_ret
        exact ⟨ret_b (by rw [HF.out, HU.out]; simp), (by repeat (first | (with_reducible exact Ext.refl _) | (with_reducible assumption) | with_reducible refine Ext.drew ?_ | with_reducible refine Ext.alloc ?_ _ | with_reducible refine Ext.setCell ?_ (by first | (simp; done) | (simp; omega) | omega) _ | with_reducible refine Ext.trans ?_ (by with_reducible assumption)))⟩
  · go_enter Try.func35, Try.ntmps35
    go_wp2
    go_ret
    exact ⟨ret_b (by rw [HF.out]; simp [hnm]), Ext.refl _⟩

def Par.mark (k : Int) : Par := ⟨k, k + 1⟩
def mkPar (k0 : Int) : Nat → Nat → Value := fun i => (Par.mark (k0 + 2 * i)).c

set_option maxHeartbeats 1000000 in
theorem laws_markIntA2S {B0 : Nat} {ao : Option Addr} {cap n : Nat} {c : Nat → Nat → Value} {k0 : Int} {w : World} (h : FreshAt B0 w ao 2 n c) (hn : n ≤ 1099511627776) (h0 : 0 ≤ k0) (h1 : k0 ≤ 1099511627776) :
    Calls Try.prog 36 #[.slice ao n cap, .int .i64 k0] w fun e w' => e = .returned (.int .i64 (k0 + 2 * n)) ∧ w.grownBy w' (blk ao) ∧ FreshAt B0 w' ao 2 n (mkPar k0) := by
  by_cases hz : n = 0
  · subst hz
    have hlt0 : ¬ ((0 : Nat) : Int) < ((0 : Nat) : Int) := by omega
    go_enter Try.func36, Try.ntmps36
    go_wp2
    go_loopw [1, 5] (fun q i wr => q = .int .i64 k0 ∧ i = .int .i64 0 ∧ wr = w) (fun _ _ _ => 0)
    case atStart => exact ⟨rfl, rfl, rfl⟩
    case round =>
      obtain ⟨rfl, rfl, rfl⟩ := hrel
      go_wp2
      go_ret
      exact ⟨ret_i (by simp), grown_refl _ _, ⟨fun hn => absurd hn (by omega), h.base, h.free⟩⟩
  · obtain ⟨b, off, rfl, _⟩ := h.row (by omega)
    have hst : Over w w b off 2 n 0 (mkPar k0) := Over.start h (by omega) (by decide)
    have hbase := (h.base _ rfl).1
    clear h
    go_enter Try.func36, Try.ntmps36
    go_wp2
    go_loopw [1, 5] (fun q i wr => ∃ k : Nat, k ≤ n ∧ i = .int .i64 k ∧ q = .int .i64 (k0 + 2 * k) ∧ Over w wr b off 2 n (k * 2) (mkPar k0)) (fun _ i _ => n - (intOf i).toNat)
    case atStart => exact ⟨0, Nat.zero_le _, rfl, by simp, by simpa using hst⟩
    case round =>
      clear hst
      obtain ⟨k, hk, rfl, rfl, hO⟩ := hrel
      by_cases hlt : k < n
      · have HO := Lib.hid hO; clear hO
        go_wp2
        go_loopw [1, 6] (fun q i wr => ∃ j : Nat, j ≤ 2 ∧ i = .int .i64 j ∧ q = .int .i64 (k0 + 2 * k + j) ∧ Over w wr b off 2 n (k * 2 + j) (mkPar k0)) (fun _ i _ => 2 - (intOf i).toNat)
        case atStart => exact ⟨0, by omega, rfl, by simp, HO.out⟩
        case round =>
          clear HO
          obtain ⟨j, hj, rfl, rfl, hO⟩ := hrel
          by_cases hjl : j < 2
          · have hj2 : j = 0 ∨ j = 1 := by omega
            rcases hj2 with rfl | rfl
            · obtain ⟨u0, e0⟩ := hO.cell (k * 2) (by omega)
              have f0 := hO.free (off + k * 2)
              go_wp2
              have R := Over.put (i := k) (j := 0) hO (by decide) (by omega) hlt
              go_roundw
              case rel => exact ⟨1, by omega, by go_num, by go_num, by simpa [mkPar, Par.mark, Par.c0] using R⟩
              case measure => simp [intOf]
            · obtain ⟨u0, e0⟩ := hO.cell (k * 2 + 1) (by omega)
              rw [← Nat.add_assoc] at e0
              have f0 := hO.free (off + k * 2 + 1)
              go_wp2
              have R := Over.put (i := k) (j := 1) hO (by decide) (by omega) hlt
              go_roundw
              case rel => exact ⟨2, by omega, by go_num, by go_num, R⟩
              case measure => simp [intOf]
          · obtain rfl : j = 2 := by omega
            go_wp2
            go_roundw
            case rel => exact ⟨k + 1, by omega, by go_num, by go_num, by rw [show (k + 1) * 2 = k * 2 + 2 by omega]; exact hO⟩
            case measure => simp [intOf]; omega
      · have hkn : k = n := by omega
        subst hkn
        go_wp2
        go_ret
        exact ⟨rfl, hO.grown, hO.fresh rfl hbase⟩

set_option maxHeartbeats 1000000 in
theorem laws_heldIntA2S {ao : Option Addr} {cap n : Nat} {k0 : Int} {w : World} (h : RowAt w ao 2 n (mkPar k0)) (hn : n ≤ 1099511627776) (h0 : 0 ≤ k0) (h1 : k0 ≤ 1099511627776) :
    Calls Try.prog 37 #[.slice ao n cap, .int .i64 k0] w fun e w' => e = .returned (.int .i64 (k0 + 2 * n)) ∧ Ext w w' := by
  go_enter Try.func37, Try.ntmps37
  go_wp2
  go_loopw [1, 5] (fun q i wr => ∃ k : Nat, k ≤ n ∧ i = .int .i64 k ∧ q = .int .i64 (k0 + 2 * k) ∧ Ext w wr) (fun _ i _ => n - (intOf i).toNat)
  case atStart => exact ⟨0, Nat.zero_le _, rfl, by simp, Ext.refl _⟩
  case round =>
    obtain ⟨k, hk, rfl, rfl, hx⟩ := hrel
    by_cases hlt : k < n
    · obtain ⟨b, off, rfl, hcell⟩ := h (by omega)
      have d0 := hcell k hlt 0 (by decide)
      have d1 := hcell k hlt 1 (by decide)
      simp only [mkPar, Par.mark, Par.c0, Par.c1, Nat.add_zero] at d0 d1
      clear hcell h
      go_wp2
      go_loopw [1, 6] (fun q i wr => ∃ j : Nat, j ≤ 2 ∧ i = .int .i64 j ∧ q = .int .i64 (k0 + 2 * k + j) ∧ Ext w wr) (fun _ i _ => 2 - (intOf i).toNat)
      case atStart => exact ⟨0, by omega, rfl, by simp, hx⟩
      case round =>
        clear hx
        obtain ⟨j, hj, rfl, rfl, hx⟩ := hrel
        by_cases hjl : j < 2
        · have hj2 : j = 0 ∨ j = 1 := by omega
          rcases hj2 with rfl | rfl
          · have e0 := hx.cells d0
            go_wp2
            go_roundw
            case rel => exact ⟨1, by omega, by go_num, by go_num, (by repeat (first | (with_reducible exact Ext.refl _) | (with_reducible assumption) | with_reducible refine Ext.drew ?_ | with_reducible refine Ext.alloc ?_ _ | with_reducible refine Ext.setCell ?_ (by first | (simp; done) | (simp; omega) | omega) _ | with_reducible refine Ext.trans ?_ (by with_reducible assumption)))⟩
            case measure => simp [intOf]
          · have e1 := hx.cells d1
            go_wp2
            go_roundw
            case rel => exact ⟨2, by omega, by go_num, by go_num, (by repeat (first | (with_reducible exact Ext.refl _) | (with_reducible assumption) | with_reducible refine Ext.drew ?_ | with_reducible refine Ext.alloc ?_ _ | with_reducible refine Ext.setCell ?_ (by first | (simp; done) | (simp; omega) | omega) _ | with_reducible refine Ext.trans ?_ (by with_reducible assumption)))⟩
            case measure => simp [intOf]
        · obtain rfl : j = 2 := by omega
          go_wp2
          go_roundw
          case rel => exact ⟨k + 1, by omega, by go_num, by go_num, (by repeat (first | (with_reducible exact Ext.refl _) | (with_reducible assumption) | with_reducible refine Ext.drew ?_ | with_reducible refine Ext.alloc ?_ _ | with_reducible refine Ext.setCell ?_ (by first | (simp; done) | (simp; omega) | omega) _ | with_reducible refine Ext.trans ?_ (by with_reducible assumption)))⟩
          case measure => simp [intOf]; omega
    · have hkn : k = n := by omega
      subst hkn
      go_wp2
      go_ret
      exact ⟨rfl, (by repeat (first | (with_reducible exact Ext.refl _) | (with_reducible assumption) | with_reducible refine Ext.drew ?_ | with_reducible refine Ext.alloc ?_ _ | with_reducible refine Ext.setCell ?_ (by first | (simp; done) | (simp; omega) | omega) _ | with_reducible refine Ext.trans ?_ (by with_reducible assumption)))⟩

end Go.Proofs.Ytaplegdconmkiaa
