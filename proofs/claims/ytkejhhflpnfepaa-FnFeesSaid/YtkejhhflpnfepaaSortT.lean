/-
  Proved here: what slices.Sort leaves of a short row of texts.
  Conditions: no more than 12 texts.
-/
import Derived.Test.YtkejhhflpnfepaaStrO
import Derived.BigQuiet
import Derived.Deep.DeepCutAuto
namespace Go.Proofs.Ytkejhhflpnfepaa
open Go.RowKit

set_option maxRecDepth 100000 in
set_option maxHeartbeats 4000000 in
theorem insSort_T {g cap : Nat} {xs : List ByteArray} {w : World} (hn : xs.length ≤ 1000) (hH : HoldsA w w g xs.length Value.string xs) :
    Calls Try.prog 93 #[.slice (some ⟨g, 0, none⟩) xs.length cap, .int .i64 0, .int .i64 xs.length] w fun e w' => e = .returned (.tuple #[]) ∧ ∃ d : List ByteArray, d.Perm xs ∧ SortedTo coS d xs.length ∧ HoldsA w w' g xs.length Value.string d := by
  have HH := Lib.hid hH
  obtain ⟨n, hN⟩ : ∃ n, n = xs.length := ⟨_, rfl⟩
  rw [← hN] at hn HH ⊢
  have HN := Lib.hid hN
  have hmem : ∀ d : List ByteArray, d.Perm xs → ∀ k, k < n → nth d k ∈ xs := fun d hd k hk => by
    have hl := hd.length_eq
    have : nth d k ∈ d := by simp [nth, show k < d.length by omega]
    exact hd.mem_iff.1 this
  have HM := Lib.hid hmem
  clear hH hN hmem
  go_enter Try.func93, Try.ntmps93
  go_wp2
  go_loopw [6] (fun i wr => ∃ (k : Nat) (d : List ByteArray), 1 ≤ k ∧ (k ≤ n ∨ k = 1) ∧ i = .int .i64 k ∧ d.Perm xs ∧ SortedTo coS d k ∧ HoldsA w wr g n Value.string d) (fun i _ => n - (intOf i).toNat)
  case atStart => exact ⟨1, xs, Nat.le_refl _, .inr rfl, rfl, List.Perm.refl _, fun p q h1 h2 => by omega, HH.out⟩
  case round =>
    obtain ⟨k, d, hk1, hk, rfl, hd, hs, hH⟩ := hrel
    have HD := Lib.hid hd; have HSO := Lib.hid hs; have HH2 := Lib.hid hH
    clear hd hs hH HH
    by_cases hlt : k < n
    · have hlt' : (k : Int) < (n : Int) := by omega
      go_wp2
      go_loopw [7] (fun i wr => ∃ (j : Nat) (d : List ByteArray), j ≤ k ∧ i = .int .i64 j ∧ d.Perm xs ∧ NearTo coS d k j ∧ HoldsA w wr g n Value.string d) (fun i _ => (intOf i).toNat)
      case atStart => exact ⟨k, d, Nat.le_refl _, rfl, HD.out, HSO.out.near, HH2.out⟩
      case round =>
        clear HD HSO HH2
        obtain ⟨j, d, hjk, rfl, hd, hs, hH⟩ := hrel
        have HD := Lib.hid hd; have HSO := Lib.hid hs; have HH2 := Lib.hid hH
        have hdl : d.length = n := by rw [hd.length_eq, ← HN.out]
        have HDL := Lib.hid hdl
        by_cases hj : 0 < j
        · have hj' : (0 : Int) < (j : Int) := by omega
          have hdec : decide ((0 : Int) < (j : Int)) = true := by simpa using hj'
          obtain ⟨i, rfl⟩ : ∃ i, j = i + 1 := ⟨j - 1, by omega⟩
          obtain ⟨x, hx⟩ : ∃ x, x = nth d (i + 1) := ⟨_, rfl⟩
          obtain ⟨y, hy⟩ : ∃ y, y = nth d i := ⟨_, rfl⟩
          have d0 := hH.cell (i + 1) (by omega)
          have d1 := hH.cell i (by omega)
          rw [← hx] at d0
          rw [← hy] at d1
          have hxm : x ∈ xs := hx ▸ HM.out d hd (i + 1) (by omega)
          have hym : y ∈ xs := hy ▸ HM.out d hd i (by omega)
          have HX := Lib.hid hx; have HY := Lib.hid hy
          have f0 := hH.free (i + 1)
          have f1 := hH.free i
          have hk0 : (0 : Int) ≤ (i : Int) := by omega
          have hk1' : (i : Int) + 1 < (n : Int) := by omega
          have hk2 : (i : Int) < (n : Int) := by omega
          clear hd hs hH hx hy hdl hxm hym
          go_wp2
          refine wp_region_ext (by kernel_rfl) (by kernel_rfl) ?_
          have gl0 : g < wr.heap.size := World.block_lt_of_cell? _ _ d0
          have g0 := Grow.cells d0
          have g1 := Grow.cells d1
          repeat (go_big_quiet_step ((go_at_call 99; exact Calls.ext_of_same cmp_Less_S)))
          refine wpQuiet_nil ?_
          rintro _ ⟨⟨w1, hx1⟩, rfl⟩
          clear g0 g1
          rename_i w1
          have d0 := hx1.cells d0
          have d1 := hx1.cells d1
          have gl := World.block_lt_of_cell? _ _ d0
          have f0 := (hx1.frozenr _ (i + 1) gl0).trans f0
          have f1 := (hx1.frozenr _ i gl0).trans f1
          have HH3 := Lib.hid (HH2.out.ext hx1)
          clear hx1 HH2
          cases hc : ltS x y
          case' true =>
            have HLT := Lib.hid (coS_neg.2 hc)
            have HCC := Lib.hid (coS_flip HLT.out)
            clear hc
            go_wp2
            go_region
            all_goals
              go_wp2
              go_roundw
              case rel =>
                have hsw := HH3.out.swap (j := i + 1) (by omega) (by omega) HDL.out.symm
                rw [Nat.add_sub_cancel, ← HX.out, ← HY.out] at hsw
                have hnr : NearTo coS (swapN d (i + 1)) k i := HSO.out.swap (by omega) hjk (by have := HDL.out; omega) (fun _ => by rw [Nat.add_sub_cancel, ← HX.out, ← HY.out]; have := HCC.out; omega) (by rw [Nat.add_sub_cancel, ← HX.out, ← HY.out]; exact HLT.out)
                have hpm := (swapN_perm (d := d) (j := i + 1) (by omega) (by have := HDL.out; omega)).trans HD.out
                first
                  | exact ⟨i, swapN d (i + 1), by omega, by go_num, hpm, hnr, hsw.1.ext (by repeat (first | (with_reducible exact Ext.refl _) | (with_reducible assumption) | with_reducible refine Ext.drew ?_ | with_reducible refine Ext.alloc ?_ _ | with_reducible refine Ext.setCell ?_ (by first | (simp; done) | (simp; omega) | omega) _ | with_reducible refine Ext.trans ?_ (by with_reducible assumption)))⟩
                  | exact ⟨i, swapN d (i + 1), by omega, by go_num, hpm, hnr, hsw.2.ext (by repeat (first | (with_reducible exact Ext.refl _) | (with_reducible assumption) | with_reducible refine Ext.drew ?_ | with_reducible refine Ext.alloc ?_ _ | with_reducible refine Ext.setCell ?_ (by first | (simp; done) | (simp; omega) | omega) _ | with_reducible refine Ext.trans ?_ (by with_reducible assumption)))⟩
              case measure => simp [intOf] <;> omega
          case' false =>
            have HLT := Lib.hid (coS_pos.2 hc)
            clear hc
            go_wp2
            go_roundw
            case rel =>
              refine ⟨k + 1, d, by omega, .inl (by omega), by go_num, HD.out, HSO.out.done hjk (fun p hp h1 h2 => Int.not_lt.2 (coS_trans (Int.not_lt.1 h1) (Int.not_lt.1 h2))) (.inr ?_), HH3.out⟩
              rw [Nat.add_sub_cancel, ← HX.out, ← HY.out]
              have := HLT.out; omega
            case measure => simp [intOf] <;> omega
        · obtain rfl : j = 0 := by omega
          have hdec : decide ((0 : Int) < ((0 : Nat) : Int)) = false := by decide
          clear hd hs hH hdl
          go_wp2
          refine wp_region_ext (by kernel_rfl) (by kernel_rfl) ?_
          repeat (go_big_quiet_step (fail))
          refine wpQuiet_nil ?_
          rintro _ ⟨⟨w1, hx1⟩, rfl⟩
          rename_i w1
          have HH3 := Lib.hid (HH2.out.ext hx1)
          clear hx1 HH2
          go_wp2
          go_roundw
          case rel => exact ⟨k + 1, d, by omega, .inl (by omega), by go_num, HD.out, HSO.out.done hjk (fun p hp h1 h2 => by omega) (.inl rfl), HH3.out⟩
          case measure => simp [intOf] <;> omega
    · have hlt' : ¬ (k : Int) < (n : Int) := by omega
      go_wp2
      go_end0
      exact ⟨rfl, d, HD.out, fun p q h1 h2 => HSO.out p q h1 (by omega), HH2.out⟩

set_option maxRecDepth 1000000 in
set_option maxHeartbeats 4000000 in
theorem bits_Len64 {n : Nat} {w : World} (hn : n ≤ 12) : Calls Try.prog 103 #[.int .u64 n] w fun e w' => (∃ l : Int, e = .returned (.int .i64 l)) ∧ w = w' := by
  have h1 : ¬ 4294967296 ≤ (n : Int) := by omega
  have h2 : ¬ 65536 ≤ (n : Int) := by omega
  have h3 : ¬ 256 ≤ (n : Int) := by omega
  go_enter Try.func103, Try.ntmps103
  go_wp2
  go_ret
  exact ⟨⟨_, rfl⟩, rfl⟩

theorem bits_Len {n : Nat} {w : World} (hn : n ≤ 12) : Calls Try.prog 90 #[.int .u64 n] w fun e w' => (∃ l : Int, e = .returned (.int .i64 l)) ∧ w = w' := by
  go_enter Try.func90, Try.ntmps90
  go_wp2_with fail
  refine (bits_Len64 hn).mono ?_; rintro e w1 ⟨⟨l, rfl⟩, rfl⟩
  go_wp2
  go_ret
  exact ⟨⟨_, rfl⟩, rfl⟩

set_option maxRecDepth 100000 in
set_option maxHeartbeats 2000000 in
theorem pdqSort_T {g cap : Nat} {l : Int} {xs : List ByteArray} {w : World} (hn : xs.length ≤ 12) (hH : HoldsA w w g xs.length Value.string xs) :
    Calls Try.prog 89 #[.slice (some ⟨g, 0, none⟩) xs.length cap, .int .i64 0, .int .i64 xs.length, .int .i64 l] w fun e w' => e = .returned (.tuple #[]) ∧ ∃ d : List ByteArray, d.Perm xs ∧ SortedTo coS d xs.length ∧ HoldsA w w' g xs.length Value.string d := by
  have HI := Lib.hid (insSort_T (cap := cap) (by omega) hH)
  have h1 : (xs.length : Int) ≤ 12 := by omega
  clear hH
  go_enter Try.func89, Try.ntmps89
  go_wp2
  refine wp_loop_once ?_
  go_wp2_with fail
  refine HI.out.mono ?_; rintro e w1 ⟨rfl, hr⟩
  have HR := Lib.hid hr
  clear hr
  go_wp2
  refine bodyPost_ret (v := .tuple #[]) (by simp [results, Try.results89, go_sem]) rfl ?_
  exact ⟨rfl, HR.out⟩

set_option maxHeartbeats 1000000 in
theorem sort_T {g cap : Nat} {xs : List ByteArray} {w : World} (hn : xs.length ≤ 12) (hH : HoldsA w w g xs.length Value.string xs) :
    Calls Try.prog 81 #[.slice (some ⟨g, 0, none⟩) xs.length cap] w fun e w' => e = .returned (.tuple #[]) ∧ ∃ d : List ByteArray, d.Perm xs ∧ SortedTo coS d xs.length ∧ HoldsA w w' g xs.length Value.string d := by
  have HI := Lib.hid (fun l => pdqSort_T (l := l) (cap := cap) hn hH)
  have HB := Lib.hid (fun w => bits_Len (w := w) hn)
  have h1 : (xs.length : Int) ≤ 12 := by omega
  clear hH
  go_enter Try.func81, Try.ntmps81
  go_wp2_with fail
  refine (HB.out _).mono ?_; rintro e w1 ⟨⟨l, rfl⟩, rfl⟩
  go_wp2_with fail
  refine (HI.out l).mono ?_; rintro e w1 ⟨rfl, hr⟩
  have HR := Lib.hid hr
  clear hr
  go_wp2
  go_end0
  exact ⟨rfl, HR.out⟩

end Go.Proofs.Ytkejhhflpnfepaa
