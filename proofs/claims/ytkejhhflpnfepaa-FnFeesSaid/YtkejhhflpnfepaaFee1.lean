/-
  Proved here: what isWord, IsRunner, cardIndex, runnerIndex and the reference's l5Find return.
  Conditions: the number of runners fits an int; names are no longer than a string may be.
-/
import Derived.Test.YtkejhhflpnfepaaRun1
import Derived.Test.YtkejhhflpnfepaaIdxRn
namespace Go.Proofs.Ytkejhhflpnfepaa
open Go.RowKit

theorem impl_isWord {s : ByteArray} {w : World} (hs : s.size ≤ 9223372036854775807) :
    Calls Try.prog 87 #[.string s] w fun e w' => e = .returned (.bool (wordB s)) ∧ w = w' := by
  have HF := Lib.hid (show wordB s = (upto (fun k => inB (bAt s k) 97 122) s.size && inB s.size 1 10) from rfl)
  go_enter Try.func87, Try.ntmps87
  go_wp2
  go_loop [3] (fun i => ∃ k : Nat, k ≤ s.size ∧ i = .int .i64 k ∧ upto (fun k => inB (bAt s k) 97 122) k = true) (fun i => s.size - (intOf i).toNat)
  case atStart => exact ⟨0, Nat.zero_le _, rfl, rfl⟩
  case round =>
    obtain ⟨k, hk, rfl, hu⟩ := hrel
    have HU := Lib.hid hu; clear hu
    by_cases hlt : k < s.size
    · have hb := bAt_eq hlt
      have HB := Lib.hid hb; clear hb
      cases hA : inB (bAt s k) 97 122
      · have HA := Lib.hid hA
        rw [inB_no, HB.out] at hA
        rcases hA with h1 | h1
        · go_wp2
          go_ret
          exact ⟨ret_b (by rw [HF.out, upto_false hlt HA.out]; rfl), rfl⟩
        · have h2 : ¬ (s[k].toNat : Int) < 97 := by omega
          go_wp2
          go_ret
          exact ⟨ret_b (by rw [HF.out, upto_false hlt HA.out]; rfl), rfl⟩
      · have HA := Lib.hid hA
        rw [inB_iff, HB.out] at hA
        have h1 : ¬ (s[k].toNat : Int) < 97 := by omega
        have h2 : ¬ (122 : Int) < (s[k].toNat : Int) := by omega
        clear hA
        go_wp2
        go_round
        case rel => exact ⟨k + 1, by omega, by go_num, upto_succ HU.out HA.out⟩
        case measure => simp [intOf]; omega
    · obtain rfl : k = s.size := by omega
      go_wp2_with (go_at_call 56; refine (impl_inside).mono ?_; rintro e w1 ⟨rfl, rfl⟩)
      go_ret
      exact ⟨ret_b (by rw [HF.out, HU.out]; rfl), rfl⟩

set_option maxRecDepth 100000 in
set_option maxHeartbeats 2000000 in
theorem impl_IsRunner {i b c : Int} {n u : ByteArray} {g : Bool} {w : World} (hn : n.size ≤ 9223372036854775807) (hu : u.size ≤ 9223372036854775807) :
    Calls Try.prog 79 #[.agg #[.int .i64 i, .string n, .string u, .int .i64 b, .bool g, .int .i64 c]] w fun e w' => e = .returned (.bool (rnB ⟨i, n, u, b, g, c⟩)) ∧ Ext w w' := by
  go_enter Try.func79, Try.ntmps79
  go_wp2_with (first | (go_at_call 56; refine (impl_inside).mono ?_; rintro e w1 ⟨rfl, rfl⟩) | (go_at_call 87; ((with_reducible refine (impl_isWord hn).mono ?_); rintro e w1 ⟨rfl, rfl⟩)) | (go_at_call 87; ((with_reducible refine (impl_isWord hu).mono ?_); rintro e w1 ⟨rfl, rfl⟩)))
  all_goals go_ret
  all_goals exact ⟨ret_b (by simp [rnB, *]), (by repeat (first | (with_reducible exact Ext.refl _) | (with_reducible assumption) | with_reducible refine Ext.drew ?_ | with_reducible refine Ext.alloc ?_ _ | with_reducible refine Ext.setCell ?_ (by first | (simp; done) | (simp; omega) | omega) _ | with_reducible refine Ext.trans ?_ (by with_reducible assumption)))⟩


/-- the runner of a number, the runner with a card, among the first n -/
def rnIx (xs : List Rnr) (n : Nat) (x : Int) : Int := idxU (fun k => (nth xs k).id == x) n
def cdIx (xs : List Rnr) (n : Nat) (x : Int) : Int := idxU (fun k => (nth xs k).card == x) n

theorem impl_runnerIndex_1 {i b c x : Int} {n u : ByteArray} {g : Bool} {B : Nat} {w : World} (h : w.cell? ⟨B, 0, none⟩ = some (.int .i64 x)) (hB : B < w.heap.size) :
    Calls Try.prog 84 #[.agg #[.int .i64 i, .string n, .string u, .int .i64 b, .bool g, .int .i64 c], .pointer (some ⟨B, 0, none⟩)] w fun e w' => e = .returned (.bool (i == x)) ∧ Ext w w' := by
  go_enter Try.func84, Try.ntmps84
  go_wp2
  go_ret
  exact ⟨rfl, (by repeat (first | (with_reducible exact Ext.refl _) | (with_reducible assumption) | with_reducible refine Ext.drew ?_ | with_reducible refine Ext.alloc ?_ _ | with_reducible refine Ext.setCell ?_ (by first | (simp; done) | (simp; omega) | omega) _ | with_reducible refine Ext.trans ?_ (by with_reducible assumption)))⟩

theorem impl_runnerIndex {ao : Option Addr} {cap : Nat} {xs : List Rnr} {x : Int} {w : World} (h : RowAt w ao 6 xs.length (fun k => (nth xs k).c)) (hn : xs.length ≤ 9223372036854775807) :
    Calls Try.prog 64 #[.slice ao xs.length cap, .int .i64 x] w fun e w' => e = .returned (.int .i64 (rnIx xs xs.length x)) ∧ Ext w w' := by
  have hcl : (w.alloc (Obj.cells #[.int .i64 x] 3)).cell? ⟨w.heap.size, 0, none⟩ = some (.int .i64 x) := by go_simp
  have H := indexFunc_Rn (w := w.alloc (Obj.cells #[.int .i64 x] 3)) (cap := cap) (xs := xs) (F := 84) (caps := #[.pointer (some ⟨w.heap.size, 0, none⟩)]) (p := fun y => y.id == x) (h.ext ((Ext.refl _).alloc _)) hn (entersF_of Try.func84 (by kernel_rfl) rfl) (fun i n u b g c w' hw' => impl_runnerIndex_1 (hw'.cells hcl) (Nat.lt_of_lt_of_le (by simp) hw'.size))
  clear hcl h
  go_enter Try.func64, Try.ntmps64
  go_wp2_with fail
  refine H.mono ?_; rintro e w1 ⟨rfl, hx1⟩
  go_wp2
  go_ret
  exact ⟨rfl, (by repeat (first | (with_reducible exact Ext.refl _) | (with_reducible assumption) | with_reducible refine Ext.drew ?_ | with_reducible refine Ext.alloc ?_ _ | with_reducible refine Ext.setCell ?_ (by first | (simp; done) | (simp; omega) | omega) _ | with_reducible refine Ext.trans ?_ (by with_reducible assumption)))⟩

theorem impl_cardIndex_1 {i b c x : Int} {n u : ByteArray} {g : Bool} {B : Nat} {w : World} (h : w.cell? ⟨B, 0, none⟩ = some (.int .i64 x)) (hB : B < w.heap.size) :
    Calls Try.prog 88 #[.agg #[.int .i64 i, .string n, .string u, .int .i64 b, .bool g, .int .i64 c], .pointer (some ⟨B, 0, none⟩)] w fun e w' => e = .returned (.bool (c == x)) ∧ Ext w w' := by
  go_enter Try.func88, Try.ntmps88
  go_wp2
  go_ret
  exact ⟨rfl, (by repeat (first | (with_reducible exact Ext.refl _) | (with_reducible assumption) | with_reducible refine Ext.drew ?_ | with_reducible refine Ext.alloc ?_ _ | with_reducible refine Ext.setCell ?_ (by first | (simp; done) | (simp; omega) | omega) _ | with_reducible refine Ext.trans ?_ (by with_reducible assumption)))⟩

theorem impl_cardIndex {ao : Option Addr} {cap : Nat} {xs : List Rnr} {x : Int} {w : World} (h : RowAt w ao 6 xs.length (fun k => (nth xs k).c)) (hn : xs.length ≤ 9223372036854775807) :
    Calls Try.prog 80 #[.slice ao xs.length cap, .int .i64 x] w fun e w' => e = .returned (.int .i64 (cdIx xs xs.length x)) ∧ Ext w w' := by
  have hcl : (w.alloc (Obj.cells #[.int .i64 x] 3)).cell? ⟨w.heap.size, 0, none⟩ = some (.int .i64 x) := by go_simp
  have H := indexFunc_Rn (w := w.alloc (Obj.cells #[.int .i64 x] 3)) (cap := cap) (xs := xs) (F := 88) (caps := #[.pointer (some ⟨w.heap.size, 0, none⟩)]) (p := fun y => y.card == x) (h.ext ((Ext.refl _).alloc _)) hn (entersF_of Try.func88 (by kernel_rfl) rfl) (fun i n u b g c w' hw' => impl_cardIndex_1 (hw'.cells hcl) (Nat.lt_of_lt_of_le (by simp) hw'.size))
  clear hcl h
  go_enter Try.func80, Try.ntmps80
  go_wp2_with fail
  refine H.mono ?_; rintro e w1 ⟨rfl, hx1⟩
  go_wp2
  go_ret
  exact ⟨rfl, (by repeat (first | (with_reducible exact Ext.refl _) | (with_reducible assumption) | with_reducible refine Ext.drew ?_ | with_reducible refine Ext.alloc ?_ _ | with_reducible refine Ext.setCell ?_ (by first | (simp; done) | (simp; omega) | omega) _ | with_reducible refine Ext.trans ?_ (by with_reducible assumption)))⟩

theorem spec_l5Find {ao : Option Addr} {cap : Nat} {xs : List Rnr} {x : Int} {w : World} (h : RowAt w ao 6 xs.length (fun k => (nth xs k).c)) (hn : xs.length ≤ 9223372036854775807) :
    Calls Try.prog 66 #[.slice ao xs.length cap, .int .i64 x] w fun e w' => e = .returned (.int .i64 (rnIx xs xs.length x)) ∧ Ext w w' := by
  go_enter Try.func66, Try.ntmps66
  go_wp2
  go_loopw [5] (fun i wr => ∃ k : Nat, k ≤ xs.length ∧ i = .int .i64 k ∧ Ext w wr ∧ ∀ j, j < k → ((nth xs j).id == x) = false) (fun i _ => xs.length - (intOf i).toNat)
  case atStart => exact ⟨0, Nat.zero_le _, rfl, Ext.refl _, fun j hj => by omega⟩
  case round =>
    obtain ⟨k, hk, rfl, hx, hb⟩ := hrel
    have HB := Lib.hid hb; clear hb
    by_cases hlt : k < xs.length
    · obtain ⟨b, off, rfl, hcell⟩ := h (by omega)
      have d0 := hx.cells (hcell k hlt 0 (by decide))
      simp only [Rnr.c0, Nat.add_zero] at d0
      clear hcell h
      cases hpk : ((nth xs k).id == x)
      · go_wp2
        go_roundw
        case rel => exact ⟨k + 1, by omega, by go_num, (by repeat (first | (with_reducible exact Ext.refl _) | (with_reducible assumption) | with_reducible refine Ext.drew ?_ | with_reducible refine Ext.alloc ?_ _ | with_reducible refine Ext.setCell ?_ (by first | (simp; done) | (simp; omega) | omega) _ | with_reducible refine Ext.trans ?_ (by with_reducible assumption))), fun j hj => by by_cases e : j = k; (subst e; exact hpk); exact HB.out j (by omega)⟩
        case measure => simp [intOf]; omega
      · go_wp2
        go_ret
        exact ⟨ret_i (by rw [rnIx, idxU_at hlt hpk HB.out]), (by repeat (first | (with_reducible exact Ext.refl _) | (with_reducible assumption) | with_reducible refine Ext.drew ?_ | with_reducible refine Ext.alloc ?_ _ | with_reducible refine Ext.setCell ?_ (by first | (simp; done) | (simp; omega) | omega) _ | with_reducible refine Ext.trans ?_ (by with_reducible assumption)))⟩
    · have hkn : k = xs.length := by omega
      subst hkn
      go_wp2
      go_ret
      exact ⟨ret_i (by rw [rnIx, idxU_none HB.out]), (by repeat (first | (with_reducible exact Ext.refl _) | (with_reducible assumption) | with_reducible refine Ext.drew ?_ | with_reducible refine Ext.alloc ?_ _ | with_reducible refine Ext.setCell ?_ (by first | (simp; done) | (simp; omega) | omega) _ | with_reducible refine Ext.trans ?_ (by with_reducible assumption)))⟩


end Go.Proofs.Ytkejhhflpnfepaa
