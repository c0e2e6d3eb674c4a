/-
  Proved here: what BalanceOf and its reference return.
  Conditions: the number of proofs fits an int.
-/
import Derived.Test.YtfnjoinkfghalaaProof4
namespace Go.Proofs.Ytfnjoinkfghalaa
open Go.RowKit

theorem sum4 {b : Nat} {a0 a1 a2 a3 : Int} {w : World} (c0 : w.cell? ⟨b, 0, none⟩ = some (.int .i64 a0)) (c1 : w.cell? ⟨b, 1, none⟩ = some (.int .i64 a1)) (c2 : w.cell? ⟨b, 2, none⟩ = some (.int .i64 a2)) (c3 : w.cell? ⟨b, 3, none⟩ = some (.int .i64 a3))
    (h0 : 0 ≤ a0 ∧ a0 ≤ 10) (h1 : 0 ≤ a1 ∧ a1 ≤ 10) (h2 : 0 ≤ a2 ∧ a2 ≤ 10) (h3 : 0 ≤ a3 ∧ a3 ≤ 10) :
    Calls Try.prog 93 #[.slice (some ⟨b, 0, none⟩) 4 4] w fun e w' => e = .returned (.int .i64 (a0 + a1 + a2 + a3)) ∧ Ext w w' := by
  have hrow : RowAt w (some ⟨b, 0, none⟩) 1 [a0, a1, a2, a3].length (ic [a0, a1, a2, a3]) := fun _ => ⟨b, 0, rfl, fun k hk j hj => by
    obtain rfl : j = 0 := by omega
    match k, hk with
    | 0, _ => simpa [ic, nth] using c0
    | 1, _ => simpa [ic, nth] using c1
    | 2, _ => simpa [ic, nth] using c2
    | 3, _ => simpa [ic, nth] using c3⟩
  have H := impl_sumInts (cap := 4) hrow (by simp) (fun k hk => by
    match k, hk with
    | 0, _ => simp [sumU, I64]
    | 1, _ => simp [sumU, I64, nth]; omega
    | 2, _ => simp [sumU, I64, nth]; omega
    | 3, _ => simp [sumU, I64, nth]; omega
    | 4, _ => simp [sumU, I64, nth]; omega)
  have e : sumU [a0, a1, a2, a3] [a0, a1, a2, a3].length = a0 + a1 + a2 + a3 := by simp [sumU, nth]
  rw [e] at H
  exact H

/-- the balance of a visit -/
def balI (xs : List Prf) (r c : Int) : Int :=
  (bestW xs r c 0 false xs.length + bestW xs r c 1 false xs.length + bestW xs r c 2 false xs.length + bestW xs r c 3 false xs.length) -
  (bestW xs r c 0 true xs.length + bestW xs r c 1 true xs.length + bestW xs r c 2 true xs.length + bestW xs r c 3 true xs.length)

def balU (xs : List Prf) (r c : Int) : Nat → Int
  | 0 => 0
  | k + 1 => balU xs r c k + bestW xs r c k false xs.length - bestW xs r c k true xs.length
theorem balU_small {xs : List Prf} {r c : Int} (hok : okPrfs xs) : ∀ k, k ≤ 4 → -40 ≤ balU xs r c k ∧ balU xs r c k ≤ 40 := by
  intro k hk
  have h1 := fun kd : Int => bestW_small (r := r) (c := c) (kd := kd) (ag := false) hok _ (Nat.le_refl _)
  have h2 := fun kd : Int => bestW_small (r := r) (c := c) (kd := kd) (ag := true) hok _ (Nat.le_refl _)
  have a0 := h1 (0 : Nat); have a1 := h1 (1 : Nat); have a2 := h1 (2 : Nat); have a3 := h1 (3 : Nat)
  have c0 := h2 (0 : Nat); have c1 := h2 (1 : Nat); have c2 := h2 (2 : Nat); have c3 := h2 (3 : Nat)
  match k, hk with
  | 0, _ => simp [balU]
  | 1, _ => simp only [balU]; omega
  | 2, _ => simp only [balU]; omega
  | 3, _ => simp only [balU]; omega
  | 4, _ => simp only [balU]; omega
theorem balU_four {xs : List Prf} {r c : Int} : balU xs r c 4 = balI xs r c := by
  show 0 + bestW xs r c 0 false xs.length - bestW xs r c 0 true xs.length + bestW xs r c 1 false xs.length - bestW xs r c 1 true xs.length + bestW xs r c 2 false xs.length - bestW xs r c 2 true xs.length + bestW xs r c 3 false xs.length - bestW xs r c 3 true xs.length = _
  unfold balI
  omega

set_option maxHeartbeats 1000000 in
theorem impl_balanceOf {ao : Option Addr} {cap : Nat} {xs : List Prf} {r c : Int} {w : World} (h : RowAt w ao 5 xs.length (fun k => (nth xs k).c)) (hn : xs.length ≤ 9223372036854775807) (hok : okPrfs xs) :
    Calls Try.prog 68 #[.slice ao xs.length cap, .int .i64 r, .int .i64 c] w fun e w' => e = .returned (.int .i64 (balI xs r c)) ∧ Ext w w' := by
  have b0 := bestW_small (r := r) (c := c) (kd := 0) (ag := false) hok _ (Nat.le_refl _)
  have b1 := bestW_small (r := r) (c := c) (kd := 1) (ag := false) hok _ (Nat.le_refl _)
  have b2 := bestW_small (r := r) (c := c) (kd := 2) (ag := false) hok _ (Nat.le_refl _)
  have b3 := bestW_small (r := r) (c := c) (kd := 3) (ag := false) hok _ (Nat.le_refl _)
  have t0 := bestW_small (r := r) (c := c) (kd := 0) (ag := true) hok _ (Nat.le_refl _)
  have t1 := bestW_small (r := r) (c := c) (kd := 1) (ag := true) hok _ (Nat.le_refl _)
  have t2 := bestW_small (r := r) (c := c) (kd := 2) (ag := true) hok _ (Nat.le_refl _)
  have t3 := bestW_small (r := r) (c := c) (kd := 3) (ag := true) hok _ (Nat.le_refl _)
  go_enter Try.func68, Try.ntmps68
  go_wp2_with fail
  refine (impl_weightsOf h hn hok).mono ?_; rintro e w1 ⟨rfl, hx1⟩
  go_wp2_with fail
  refine (impl_weightsOf (h.ext hx1) hn hok).mono ?_; rintro e w2 ⟨rfl, hx2⟩
  unfold wArr
  clear h
  have hxx : Ext w2 ((w2.alloc (Obj.cells #[.int .i64 (bestW xs r c 0 false xs.length), .int .i64 (bestW xs r c 1 false xs.length), .int .i64 (bestW xs r c 2 false xs.length), .int .i64 (bestW xs r c 3 false xs.length)] 67)).alloc (Obj.cells #[.int .i64 (bestW xs r c 0 true xs.length), .int .i64 (bestW xs r c 1 true xs.length), .int .i64 (bestW xs r c 2 true xs.length), .int .i64 (bestW xs r c 3 true xs.length)] 67)) := ((Ext.refl _).alloc _).alloc _
  have g0 : ∀ x : Grow ((w2.alloc (Obj.cells #[.int .i64 (bestW xs r c 0 false xs.length), .int .i64 (bestW xs r c 1 false xs.length), .int .i64 (bestW xs r c 2 false xs.length), .int .i64 (bestW xs r c 3 false xs.length)] 67)).alloc (Obj.cells #[.int .i64 (bestW xs r c 0 true xs.length), .int .i64 (bestW xs r c 1 true xs.length), .int .i64 (bestW xs r c 2 true xs.length), .int .i64 (bestW xs r c 3 true xs.length)] 67)), x.w.cell? ⟨w2.heap.size, 0, none⟩ = some (.int .i64 (bestW xs r c 0 false xs.length)) := Grow.cells (by go_simp)
  have g1 : ∀ x : Grow ((w2.alloc (Obj.cells #[.int .i64 (bestW xs r c 0 false xs.length), .int .i64 (bestW xs r c 1 false xs.length), .int .i64 (bestW xs r c 2 false xs.length), .int .i64 (bestW xs r c 3 false xs.length)] 67)).alloc (Obj.cells #[.int .i64 (bestW xs r c 0 true xs.length), .int .i64 (bestW xs r c 1 true xs.length), .int .i64 (bestW xs r c 2 true xs.length), .int .i64 (bestW xs r c 3 true xs.length)] 67)), x.w.cell? ⟨w2.heap.size, 1, none⟩ = some (.int .i64 (bestW xs r c 1 false xs.length)) := Grow.cells (by go_simp)
  have g2 : ∀ x : Grow ((w2.alloc (Obj.cells #[.int .i64 (bestW xs r c 0 false xs.length), .int .i64 (bestW xs r c 1 false xs.length), .int .i64 (bestW xs r c 2 false xs.length), .int .i64 (bestW xs r c 3 false xs.length)] 67)).alloc (Obj.cells #[.int .i64 (bestW xs r c 0 true xs.length), .int .i64 (bestW xs r c 1 true xs.length), .int .i64 (bestW xs r c 2 true xs.length), .int .i64 (bestW xs r c 3 true xs.length)] 67)), x.w.cell? ⟨w2.heap.size, 2, none⟩ = some (.int .i64 (bestW xs r c 2 false xs.length)) := Grow.cells (by go_simp)
  have g3 : ∀ x : Grow ((w2.alloc (Obj.cells #[.int .i64 (bestW xs r c 0 false xs.length), .int .i64 (bestW xs r c 1 false xs.length), .int .i64 (bestW xs r c 2 false xs.length), .int .i64 (bestW xs r c 3 false xs.length)] 67)).alloc (Obj.cells #[.int .i64 (bestW xs r c 0 true xs.length), .int .i64 (bestW xs r c 1 true xs.length), .int .i64 (bestW xs r c 2 true xs.length), .int .i64 (bestW xs r c 3 true xs.length)] 67)), x.w.cell? ⟨w2.heap.size, 3, none⟩ = some (.int .i64 (bestW xs r c 3 false xs.length)) := Grow.cells (by go_simp)
  have k0 : ∀ x : Grow ((w2.alloc (Obj.cells #[.int .i64 (bestW xs r c 0 false xs.length), .int .i64 (bestW xs r c 1 false xs.length), .int .i64 (bestW xs r c 2 false xs.length), .int .i64 (bestW xs r c 3 false xs.length)] 67)).alloc (Obj.cells #[.int .i64 (bestW xs r c 0 true xs.length), .int .i64 (bestW xs r c 1 true xs.length), .int .i64 (bestW xs r c 2 true xs.length), .int .i64 (bestW xs r c 3 true xs.length)] 67)), x.w.cell? ⟨w2.heap.size + 1, 0, none⟩ = some (.int .i64 (bestW xs r c 0 true xs.length)) := Grow.cells (by go_simp)
  have k1 : ∀ x : Grow ((w2.alloc (Obj.cells #[.int .i64 (bestW xs r c 0 false xs.length), .int .i64 (bestW xs r c 1 false xs.length), .int .i64 (bestW xs r c 2 false xs.length), .int .i64 (bestW xs r c 3 false xs.length)] 67)).alloc (Obj.cells #[.int .i64 (bestW xs r c 0 true xs.length), .int .i64 (bestW xs r c 1 true xs.length), .int .i64 (bestW xs r c 2 true xs.length), .int .i64 (bestW xs r c 3 true xs.length)] 67)), x.w.cell? ⟨w2.heap.size + 1, 1, none⟩ = some (.int .i64 (bestW xs r c 1 true xs.length)) := Grow.cells (by go_simp)
  have k2 : ∀ x : Grow ((w2.alloc (Obj.cells #[.int .i64 (bestW xs r c 0 false xs.length), .int .i64 (bestW xs r c 1 false xs.length), .int .i64 (bestW xs r c 2 false xs.length), .int .i64 (bestW xs r c 3 false xs.length)] 67)).alloc (Obj.cells #[.int .i64 (bestW xs r c 0 true xs.length), .int .i64 (bestW xs r c 1 true xs.length), .int .i64 (bestW xs r c 2 true xs.length), .int .i64 (bestW xs r c 3 true xs.length)] 67)), x.w.cell? ⟨w2.heap.size + 1, 2, none⟩ = some (.int .i64 (bestW xs r c 2 true xs.length)) := Grow.cells (by go_simp)
  have k3 : ∀ x : Grow ((w2.alloc (Obj.cells #[.int .i64 (bestW xs r c 0 false xs.length), .int .i64 (bestW xs r c 1 false xs.length), .int .i64 (bestW xs r c 2 false xs.length), .int .i64 (bestW xs r c 3 false xs.length)] 67)).alloc (Obj.cells #[.int .i64 (bestW xs r c 0 true xs.length), .int .i64 (bestW xs r c 1 true xs.length), .int .i64 (bestW xs r c 2 true xs.length), .int .i64 (bestW xs r c 3 true xs.length)] 67)), x.w.cell? ⟨w2.heap.size + 1, 3, none⟩ = some (.int .i64 (bestW xs r c 3 true xs.length)) := Grow.cells (by go_simp)
  go_wp2
  refine wp_region_ext (by kernel_rfl) (by kernel_rfl) ?_
  repeat (go_big_quiet_step ((first | (go_at_call 93; exact Calls.ext_of (sum4 (g0 _) (g1 _) (g2 _) (g3 _) b0 b1 b2 b3)) | (go_at_call 93; exact Calls.ext_of (sum4 (k0 _) (k1 _) (k2 _) (k3 _) t0 t1 t2 t3)))))
  refine wpQuiet_nil ?_
  rintro _ ⟨⟨w1, hx1⟩, rfl⟩
  go_wp2
  go_ret
  exact ⟨rfl, (by repeat (first | (with_reducible exact Ext.refl _) | (with_reducible assumption) | with_reducible refine Ext.drew ?_ | with_reducible refine Ext.alloc ?_ _ | with_reducible refine Ext.setCell ?_ (by first | (simp; done) | (simp; omega) | omega) _ | with_reducible refine Ext.trans ?_ (by with_reducible assumption)))⟩

set_option maxHeartbeats 1000000 in
theorem spec_l14Balance {ao : Option Addr} {cap : Nat} {xs : List Prf} {r c : Int} {w : World} (h : RowAt w ao 5 xs.length (fun k => (nth xs k).c)) (hn : xs.length ≤ 9223372036854775807) (hok : okPrfs xs) :
    Calls Try.prog 77 #[.slice ao xs.length cap, .int .i64 r, .int .i64 c] w fun e w' => e = .returned (.int .i64 (balI xs r c)) ∧ Ext w w' := by
  go_enter Try.func77, Try.ntmps77
  go_wp2
  go_loopw [7, 8] (fun s i wr => ∃ k : Nat, k ≤ 4 ∧ i = .int .i64 k ∧ s = .int .i64 (balU xs r c k) ∧ Ext w wr) (fun _ i _ => 4 - (intOf i).toNat)
  case atStart => exact ⟨0, by omega, rfl, rfl, Ext.refl _⟩
  case round =>
    obtain ⟨k, hk, rfl, rfl, hx⟩ := hrel
    by_cases hlt : k < 4
    · have h1 := bestW_small (r := r) (c := c) (kd := k) (ag := false) hok _ (Nat.le_refl _)
      have h2 := bestW_small (r := r) (c := c) (kd := k) (ag := true) hok _ (Nat.le_refl _)
      have h3 := balU_small (r := r) (c := c) hok k hk
      go_wp2_with fail
      refine (spec_l14Best (h.ext hx) hn).mono ?_; rintro e w1 ⟨rfl, hx1⟩
      go_wp2_with fail
      refine (spec_l14Best (h.ext (hx.trans hx1)) hn).mono ?_; rintro e w2 ⟨rfl, hx2⟩
      go_wp2
      go_roundw
      case rel => exact ⟨k + 1, by omega, by go_num, rfl, (by repeat (first | (with_reducible exact Ext.refl _) | (with_reducible assumption) | with_reducible refine Ext.drew ?_ | with_reducible refine Ext.alloc ?_ _ | with_reducible refine Ext.setCell ?_ (by first | (simp; done) | (simp; omega) | omega) _ | with_reducible refine Ext.trans ?_ (by with_reducible assumption)))⟩
      case measure => simp [intOf]; omega
    · have hkn : k = 4 := by omega
      subst hkn
      go_wp2
      go_ret
      exact ⟨ret_i balU_four, (by repeat (first | (with_reducible exact Ext.refl _) | (with_reducible assumption) | with_reducible refine Ext.drew ?_ | with_reducible refine Ext.alloc ?_ _ | with_reducible refine Ext.setCell ?_ (by first | (simp; done) | (simp; omega) | omega) _ | with_reducible refine Ext.trans ?_ (by with_reducible assumption)))⟩

/-- whether a visit is asked for -/
def visB (xs : List Prf) (r c : Int) : Bool := prfsB xs && inB r 1 999 && inB c 31 99
def gBal (xs : List Prf) (r c : Int) : Value := if visB xs r c then .tuple #[.int .i64 (balI xs r c), .bool true] else .tuple #[.int .i64 0, .bool false]

theorem impl_isVisit {ao : Option Addr} {cap : Nat} {xs : List Prf} {r c : Int} {w : World} (h : RowAt w ao 5 xs.length (fun k => (nth xs k).c)) (hn : xs.length ≤ 9223372036854775807) :
    Calls Try.prog 56 #[.slice ao xs.length cap, .int .i64 r, .int .i64 c] w fun e w' => e = .returned (.bool (visB xs r c)) ∧ Ext w w' := by
  go_enter Try.func56, Try.ntmps56
  go_wp2_with (first | (go_at_call 32; refine (impl_AreProofs (h.ext (by repeat (first | (with_reducible exact Ext.refl _) | (with_reducible assumption) | with_reducible refine Ext.drew ?_ | with_reducible refine Ext.alloc ?_ _ | with_reducible refine Ext.setCell ?_ (by first | (simp; done) | (simp; omega) | omega) _ | with_reducible refine Ext.trans ?_ (by with_reducible assumption)))) hn).mono ?_; rintro e w1 ⟨rfl, hx1⟩) | (go_at_call 87; refine (impl_inside).mono ?_; rintro e w1 ⟨rfl, rfl⟩) | (go_at_call 66; refine (impl_isCode).mono ?_; rintro e w1 ⟨rfl, rfl⟩))
  all_goals go_ret
  all_goals exact ⟨ret_b (by simp [visB, *]), (by repeat (first | (with_reducible exact Ext.refl _) | (with_reducible assumption) | with_reducible refine Ext.drew ?_ | with_reducible refine Ext.alloc ?_ _ | with_reducible refine Ext.setCell ?_ (by first | (simp; done) | (simp; omega) | omega) _ | with_reducible refine Ext.trans ?_ (by with_reducible assumption)))⟩

theorem spec_l14Asked {ao : Option Addr} {cap : Nat} {xs : List Prf} {r c : Int} {w : World} (h : RowAt w ao 5 xs.length (fun k => (nth xs k).c)) (hn : xs.length ≤ 9223372036854775807) :
    Calls Try.prog 60 #[.slice ao xs.length cap, .int .i64 r, .int .i64 c] w fun e w' => e = .returned (.bool (visB xs r c)) ∧ Ext w w' := by
  go_enter Try.func60, Try.ntmps60
  go_wp2_with (first | (go_at_call 42; refine (spec_l14Good (h.ext (by repeat (first | (with_reducible exact Ext.refl _) | (with_reducible assumption) | with_reducible refine Ext.drew ?_ | with_reducible refine Ext.alloc ?_ _ | with_reducible refine Ext.setCell ?_ (by first | (simp; done) | (simp; omega) | omega) _ | with_reducible refine Ext.trans ?_ (by with_reducible assumption)))) hn).mono ?_; rintro e w1 ⟨rfl, hx1⟩) | (go_at_call 67; refine (spec_l14Who).mono ?_; rintro e w1 ⟨rfl, rfl⟩) | (go_at_call 91; refine (spec_l6Code).mono ?_; rintro e w1 ⟨rfl, rfl⟩))
  all_goals go_ret
  all_goals exact ⟨ret_b (by simp [visB, *]), (by repeat (first | (with_reducible exact Ext.refl _) | (with_reducible assumption) | with_reducible refine Ext.drew ?_ | with_reducible refine Ext.alloc ?_ _ | with_reducible refine Ext.setCell ?_ (by first | (simp; done) | (simp; omega) | omega) _ | with_reducible refine Ext.trans ?_ (by with_reducible assumption)))⟩

theorem visB_ok {xs : List Prf} {r c : Int} (h : visB xs r c = true) : okPrfs xs := okPrfs_of (by simp only [visB, Bool.and_eq_true] at h; exact h.1.1)

theorem impl_BalanceOf {ao : Option Addr} {cap : Nat} {ms : List Prf} {r c : Int} {w : World} (h : RowAt w ao 5 ms.length (fun k => (nth ms k).c)) (hn : ms.length ≤ 9223372036854775807) (_hr : I64 r) (_hc : I64 c) :
    Calls Try.prog 26 #[.slice ao ms.length cap, .int .i64 r, .int .i64 c] w fun e w' => e = .returned (gBal ms r c) ∧ Ext w w' := by
  by_cases hv : visB ms r c = true
  · have hfin : gBal ms r c = .tuple #[.int .i64 (balI ms r c), .bool true] := by simp [gBal, hv]
    rw [hfin]; clear hfin
    have hok := visB_ok hv
    go_enter Try.func26, Try.ntmps26
    go_wp2_with fail
    refine (impl_isVisit h hn).mono ?_; rintro e w1 ⟨rfl, hx1⟩
    rw [hv]
    go_wp2_with fail
    refine (impl_balanceOf (h.ext hx1) hn hok).mono ?_; rintro e w2 ⟨rfl, hx2⟩
    go_wp2
    go_ret2
    exact ⟨rfl, (by repeat (first | (with_reducible exact Ext.refl _) | (with_reducible assumption) | with_reducible refine Ext.drew ?_ | with_reducible refine Ext.alloc ?_ _ | with_reducible refine Ext.setCell ?_ (by first | (simp; done) | (simp; omega) | omega) _ | with_reducible refine Ext.trans ?_ (by with_reducible assumption)))⟩
  · have hv' : visB ms r c = false := by simpa using hv
    have hfin : gBal ms r c = .tuple #[.int .i64 0, .bool false] := by simp [gBal, hv']
    rw [hfin]; clear hfin
    go_enter Try.func26, Try.ntmps26
    go_wp2_with fail
    refine (impl_isVisit h hn).mono ?_; rintro e w1 ⟨rfl, hx1⟩
    rw [hv']
    go_wp2
    go_ret2
    exact ⟨rfl, (by repeat (first | (with_reducible exact Ext.refl _) | (with_reducible assumption) | with_reducible refine Ext.drew ?_ | with_reducible refine Ext.alloc ?_ _ | with_reducible refine Ext.setCell ?_ (by first | (simp; done) | (simp; omega) | omega) _ | with_reducible refine Ext.trans ?_ (by with_reducible assumption)))⟩

theorem spec_BalanceOf {ao : Option Addr} {cap : Nat} {ms : List Prf} {r c : Int} {w : World} (h : RowAt w ao 5 ms.length (fun k => (nth ms k).c)) (hn : ms.length ≤ 9223372036854775807) (_hr : I64 r) (_hc : I64 c) :
    Calls Try.prog 29 #[.slice ao ms.length cap, .int .i64 r, .int .i64 c] w fun e w' => e = .returned (gBal ms r c) ∧ Ext w w' := by
  by_cases hv : visB ms r c = true
  · have hfin : gBal ms r c = .tuple #[.int .i64 (balI ms r c), .bool true] := by simp [gBal, hv]
    rw [hfin]; clear hfin
    have hok := visB_ok hv
    go_enter Try.func29, Try.ntmps29
    go_wp2_with fail
    refine (spec_l14Asked h hn).mono ?_; rintro e w1 ⟨rfl, hx1⟩
    rw [hv]
    go_wp2_with fail
    refine (spec_l14Balance (h.ext hx1) hn hok).mono ?_; rintro e w2 ⟨rfl, hx2⟩
    go_wp2
    go_ret2
    exact ⟨rfl, (by repeat (first | (with_reducible exact Ext.refl _) | (with_reducible assumption) | with_reducible refine Ext.drew ?_ | with_reducible refine Ext.alloc ?_ _ | with_reducible refine Ext.setCell ?_ (by first | (simp; done) | (simp; omega) | omega) _ | with_reducible refine Ext.trans ?_ (by with_reducible assumption)))⟩
  · have hv' : visB ms r c = false := by simpa using hv
    have hfin : gBal ms r c = .tuple #[.int .i64 0, .bool false] := by simp [gBal, hv']
    rw [hfin]; clear hfin
    go_enter Try.func29, Try.ntmps29
    go_wp2_with fail
    refine (spec_l14Asked h hn).mono ?_; rintro e w1 ⟨rfl, hx1⟩
    rw [hv']
    go_wp2
    go_ret2
    exact ⟨rfl, (by repeat (first | (with_reducible exact Ext.refl _) | (with_reducible assumption) | with_reducible refine Ext.drew ?_ | with_reducible refine Ext.alloc ?_ _ | with_reducible refine Ext.setCell ?_ (by first | (simp; done) | (simp; omega) | omega) _ | with_reducible refine Ext.trans ?_ (by with_reducible assumption)))⟩

end Go.Proofs.Ytfnjoinkfghalaa
