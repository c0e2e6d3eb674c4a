/-
  Proved here: slices of ints: how they are read, copied, compared, summed.
  Conditions: none beyond those in each statement.
-/
import Derived.Test.YtidcfohlhamgmaaSmall
import Derived.Test.YtidcfohlhamgmaaLaw
namespace Go.Proofs.Ytidcfohlhamgmaa
open Go.ChangeShapes Go.WideShapes Go.ChangeAt Go.RowKit Go.Joins Go.Deep

/-- the cell of an int -/
def ic (xs : List Int) : Nat → Nat → Value := fun k _ => .int .i64 (nth xs k)
theorem ints_at' {w : World} {ao : Option Addr} {xs : List Int} (h : RowAt w ao 1 xs.length (ic xs)) (hn : 0 < xs.length) : ∃ b off, ao = some ⟨b, off, none⟩ ∧ ∀ k, k < xs.length → w.cell? ⟨b, off + k, none⟩ = some (.int .i64 (nth xs k)) := by
  obtain ⟨b, off, e, H⟩ := h hn
  exact ⟨b, off, e, fun k hk => by simpa [ic] using H k hk 0 (by decide)⟩
/-- sum of the first k -/
def sumU (xs : List Int) : Nat → Int
  | 0 => 0
  | k + 1 => sumU xs k + nth xs k
def eqI (a b : Int) : Bool := a == b
theorem eqI_iff (a b : Int) : eqI a b = true ↔ a = b := by simp [eqI]

theorem infoInt : (Try.prog.info? 3).map (fun i => (i.zero, i.size, i.bytes)) = some (some (.int .i64 0), 1, 8) := by kernel_rfl

theorem impl_sumInts {ao : Option Addr} {cap : Nat} {xs : List Int} {w : World} (h : RowAt w ao 1 xs.length (ic xs)) (hn : xs.length ≤ 9223372036854775807) (hs : ∀ k, k ≤ xs.length → I64 (sumU xs k)) :
    Calls Try.prog 89 #[.slice ao xs.length cap] w fun e w' => e = .returned (.int .i64 (sumU xs xs.length)) ∧ Ext w w' := by
  go_enter Try.func89, Try.ntmps89
  go_wp2
  go_loopw [3, 8] (fun s i wr => ∃ k : Nat, k ≤ xs.length ∧ i = .int .i64 k ∧ s = .int .i64 (sumU xs k) ∧ Ext w wr) (fun _ i _ => xs.length - (intOf i).toNat)
  case atStart => exact ⟨0, Nat.zero_le _, rfl, rfl, Ext.refl _⟩
  case round =>
    obtain ⟨k, hk, rfl, rfl, hx⟩ := hrel
    by_cases hlt : k < xs.length
    · obtain ⟨b, off, rfl, hcell⟩ := ints_at' h (by omega)
      have d0 := hx.cells (hcell k hlt)
      have hb := hs (k + 1) (by omega)
      simp only [sumU, I64] at hb
      clear hcell h hs
      go_wp2
      go_roundw
      case rel => exact ⟨k + 1, by omega, by go_num, rfl, (by repeat (first | (with_reducible exact Ext.refl _) | (with_reducible assumption) | with_reducible refine Ext.drew ?_ | with_reducible refine Ext.alloc ?_ _ | with_reducible refine Ext.setCell ?_ (by first | (simp; done) | (simp; omega) | omega) _ | with_reducible refine Ext.trans ?_ (by with_reducible assumption)))⟩
      case measure => simp [intOf]; omega
    · have hkn : k = xs.length := by omega
      subst hkn
      go_wp2
      go_ret
      exact ⟨rfl, (by repeat (first | (with_reducible exact Ext.refl _) | (with_reducible assumption) | with_reducible refine Ext.drew ?_ | with_reducible refine Ext.alloc ?_ _ | with_reducible refine Ext.setCell ?_ (by first | (simp; done) | (simp; omega) | omega) _ | with_reducible refine Ext.trans ?_ (by with_reducible assumption)))⟩

set_option maxHeartbeats 400000 in
theorem laws_toIntS {ao : Option Addr} {cap : Nat} {xs : List Int} {w : World} (h : RowAt w ao 1 xs.length (ic xs)) (hn : xs.length ≤ 1048576) :
    Calls Try.prog 14 #[.slice ao xs.length cap] w fun e w' => ∃ B, e = .returned (.slice (some ⟨B, 0, none⟩) xs.length xs.length) ∧ Ext w w' ∧ FreshAt w.heap.size w' (some ⟨B, 0, none⟩) 1 xs.length (ic xs) := by
  obtain ⟨i0, hi, hz0, hz1, hz2⟩ := info_parts infoInt
  obtain ⟨n, hN⟩ : ∃ n, n = xs.length := ⟨_, rfl⟩
  have hget := ints_at' h
  rw [← hN] at hn hget ⊢
  clear hN h
  go_enter Try.func14, Try.ntmps14
  go_wp2_with (refine wpList_make_full _ rfl _ _ _ rfl (w.heap.size) 3 i0 _ 1 Try.underlying22 hi hz0 hz1 .i64 .i64 n n n rfl rfl rfl rfl (by rw [hz2]; omega) (by unfold maxLen; omega) (by simp) ?_; intro w1 hown hgrow)
  have hF := Fill.start (c := ic xs) hown hgrow
  clear hown hgrow hi hz0 hz1 hz2
  go_loopw [4] (fun i wr => ∃ k : Nat, k ≤ n ∧ i = .int .i64 k ∧ Fill w wr w.heap.size 1 n k (ic xs)) (fun i _ => n - (intOf i).toNat)
  case atStart => exact ⟨0, Nat.zero_le _, rfl, hF⟩
  case round =>
    clear hF
    obtain ⟨k, hk, rfl, hF⟩ := hrel
    by_cases hlt : k < n
    · obtain ⟨b, off, rfl, hcell⟩ := hget (by omega)
      have d0 := hF.ext.cells (hcell k hlt)
      obtain ⟨u0, e0⟩ := hF.cell k (by omega)
      have f0 := hF.free k
      have hsz := hF.size
      clear hcell hget
      go_wp2
      have R := hF.put (i := k) (j := 0) (by decide) (by omega) hlt
      go_roundw
      case rel => exact ⟨k + 1, by omega, by go_num, R⟩
      case measure => simp [intOf]; omega
    · have hkn : k = n := by omega
      subst hkn
      go_wp2
      go_ret
      exact ⟨_, rfl, hF.ext, hF.fresh (by omega)⟩

set_option maxHeartbeats 400000 in
theorem laws_eqIntS {ao bo : Option Addr} {cap cap' : Nat} {xs ys : List Int} {w : World} (h : RowAt w ao 1 xs.length (ic xs)) (h' : RowAt w bo 1 ys.length (ic ys)) (hn : xs.length ≤ 9223372036854775807) (hn' : ys.length ≤ 9223372036854775807) :
    Calls Try.prog 18 #[.slice ao xs.length cap, .slice bo ys.length cap'] w fun e w' => e = .returned (.bool (eqL eqI xs ys)) ∧ Ext w w' := by
  obtain ⟨n, hN⟩ : ∃ n, n = xs.length := ⟨_, rfl⟩
  obtain ⟨m, hM⟩ : ∃ m, m = ys.length := ⟨_, rfl⟩
  have hfin : eqL eqI xs ys = (decide (n = m) && upto (fun k => eqI (nth xs k) (nth ys k)) n) := by rw [hN, hM]; rfl
  have HF := Lib.hid hfin; clear hfin
  have hget := ints_at' h
  have hget' := ints_at' h'
  rw [← hN] at hn hget ⊢
  rw [← hM] at hn' hget' ⊢
  clear hN hM h h'
  by_cases hnm : n = m
  · subst hnm
    go_enter Try.func18, Try.ntmps18
    go_wp2
    go_loopw [5] (fun i wr => ∃ k : Nat, k ≤ n ∧ i = .int .i64 k ∧ Ext w wr ∧ upto (fun k => eqI (nth xs k) (nth ys k)) k = true) (fun i _ => n - (intOf i).toNat)
    case atStart => exact ⟨0, Nat.zero_le _, rfl, Ext.refl _, rfl⟩
    case round =>
      obtain ⟨k, hk, rfl, hx, hu⟩ := hrel
      have HU := Lib.hid hu; clear hu
      by_cases hlt : k < n
      · obtain ⟨b, off, rfl, hcell⟩ := hget (by omega)
        obtain ⟨b', off', rfl, hcell'⟩ := hget' (by omega)
        have g0 := Grow.cells (hx.cells (hcell k hlt))
        have g1 := Grow.cells (hx.cells (hcell' k hlt))
        clear hcell hcell' hget hget'
        by_cases hab : nth xs k = nth ys k
        · have hne : (nth xs k != nth ys k) = false := by simp [hab]
          have HAB := Lib.hid hab; clear hab
          go_wp2
          refine wp_region_ext (by kernel_rfl) (by kernel_rfl) ?_
          repeat (go_big_quiet_step (fail))
          refine wpQuiet_nil ?_
          rintro _ ⟨⟨w1, hx1⟩, rfl⟩
          clear g0 g1
          go_wp2
          go_roundw
          case rel => exact ⟨k + 1, by omega, by go_num, (by repeat (first | (with_reducible exact Ext.refl _) | (with_reducible assumption) | with_reducible refine Ext.drew ?_ | with_reducible refine Ext.alloc ?_ _ | with_reducible refine Ext.setCell ?_ (by first | (simp; done) | (simp; omega) | omega) _ | with_reducible refine Ext.trans ?_ (by with_reducible assumption))), upto_succ HU.out ((eqI_iff _ _).2 HAB.out)⟩
          case measure => simp [intOf]; omega
        · have hne : (nth xs k != nth ys k) = true := by simpa using hab
          have hff : eqI (nth xs k) (nth ys k) = false := by simpa [eqI] using hab
          go_wp2
          refine wp_region_ext (by kernel_rfl) (by kernel_rfl) ?_
          repeat (go_big_quiet_step (fail))
          refine wpQuiet_nil ?_
          rintro _ ⟨⟨w1, hx1⟩, rfl⟩
          clear g0 g1
          go_wp2
          go_ret
          exact ⟨ret_b (by rw [HF.out, upto_false hlt hff]; simp), (by repeat (first | (with_reducible exact Ext.refl _) | (with_reducible assumption) | with_reducible refine Ext.drew ?_ | with_reducible refine Ext.alloc ?_ _ | with_reducible refine Ext.setCell ?_ (by first | (simp; done) | (simp; omega) | omega) _ | with_reducible refine Ext.trans ?_ (by with_reducible assumption)))⟩
      · have hkn : k = n := by omega
        subst hkn
        go_wp2
        go_ret
        exact ⟨ret_b (by rw [HF.out, HU.out]; simp), (by repeat (first | (with_reducible exact Ext.refl _) | (with_reducible assumption) | with_reducible refine Ext.drew ?_ | with_reducible refine Ext.alloc ?_ _ | with_reducible refine Ext.setCell ?_ (by first | (simp; done) | (simp; omega) | omega) _ | with_reducible refine Ext.trans ?_ (by with_reducible assumption)))⟩
  · go_enter Try.func18, Try.ntmps18
    go_wp2
    go_ret
    exact ⟨ret_b (by rw [HF.out]; simp [hnm]), Ext.refl _⟩

theorem laws_szIntS {ao : Option Addr} {cap n : Nat} {x : Int} {w : World} (hn : n ≤ 9223372036854775807) (h0 : 0 ≤ x) (h1 : x ≤ 1048576) :
    Calls Try.prog 49 #[.slice ao n cap, .int .i64 x] w fun e w' => e = .returned (.int .i64 (szI n x)) ∧ w = w' := by
  by_cases h : (n : Int) ≤ x
  · go_enter Try.func49, Try.ntmps49
    go_wp2
    go_ret
    exact ⟨ret_i (by simp [szI]; omega), rfl⟩
  · go_enter Try.func49, Try.ntmps49
    go_wp2
    go_ret
    exact ⟨ret_i (by simp [szI]; omega), rfl⟩

end Go.Proofs.Ytidcfohlhamgmaa
