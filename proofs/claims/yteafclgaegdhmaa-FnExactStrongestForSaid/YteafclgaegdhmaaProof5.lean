/-
  Proved here: what BalanceOf and its reference return.
  Conditions: the number of proofs fits an int.
-/
import Derived.Test.YteafclgaegdhmaaProof4
namespace Go.Proofs.Yteafclgaegdhmaa
open Go.RowKit

/-- the balance of a visit -/
def balI (xs : List Prf) (r c : Int) : Int :=
  (bestW xs r c 0 false xs.length + bestW xs r c 1 false xs.length + bestW xs r c 2 false xs.length + bestW xs r c 3 false xs.length) -
  (bestW xs r c 0 true xs.length + bestW xs r c 1 true xs.length + bestW xs r c 2 true xs.length + bestW xs r c 3 true xs.length)

def balU (xs : List Prf) (r c : Int) : Nat → Int
  | 0 => 0
  | k + 1 => balU xs r c k + bestW xs r c k false xs.length - bestW xs r c k true xs.length
theorem balU_small {xs : List Prf} {r c : Int} (hok : okPrfs xs) : ∀ k, k ≤ 4 → -40 ≤ balU xs r c k ∧ balU xs r c k ≤ 40 := by
  intro k hk
  have h1 := fun kd : Int => bestW_small (r := r) (c := c) (kd := kd) (ag := false) hok _ (Nat.le_refl _)
  have h2 := fun kd : Int => bestW_small (r := r) (c := c) (kd := kd) (ag := true) hok _ (Nat.le_refl _)
  have a0 := h1 (0 : Nat); have a1 := h1 (1 : Nat); have a2 := h1 (2 : Nat); have a3 := h1 (3 : Nat)
  have c0 := h2 (0 : Nat); have c1 := h2 (1 : Nat); have c2 := h2 (2 : Nat); have c3 := h2 (3 : Nat)
  match k, hk with
  | 0, _ => simp [balU]
  | 1, _ => simp only [balU]; omega
  | 2, _ => simp only [balU]; omega
  | 3, _ => simp only [balU]; omega
  | 4, _ => simp only [balU]; omega
theorem balU_four {xs : List Prf} {r c : Int} : balU xs r c 4 = balI xs r c := by
  show 0 + bestW xs r c 0 false xs.length - bestW xs r c 0 true xs.length + bestW xs r c 1 false xs.length - bestW xs r c 1 true xs.length + bestW xs r c 2 false xs.length - bestW xs r c 2 true xs.length + bestW xs r c 3 false xs.length - bestW xs r c 3 true xs.length = _
  unfold balI
  omega

/-- whether a visit is asked for -/
def visB (xs : List Prf) (r c : Int) : Bool := prfsB xs && inB r 1 999 && inB c 31 99
def gBal (xs : List Prf) (r c : Int) : Value := if visB xs r c then .tuple #[.int .i64 (balI xs r c), .bool true] else .tuple #[.int .i64 0, .bool false]

theorem impl_isVisit {ao : Option Addr} {cap : Nat} {xs : List Prf} {r c : Int} {w : World} (h : RowAt w ao 5 xs.length (fun k => (nth xs k).c)) (hn : xs.length ≤ 9223372036854775807) :
    Calls Try.prog 30 #[.slice ao xs.length cap, .int .i64 r, .int .i64 c] w fun e w' => e = .returned (.bool (visB xs r c)) ∧ Ext w w' := by
  go_enter Try.func30, Try.ntmps30
  go_wp2_with (first | (go_at_call 44; refine (impl_AreProofs (h.ext (by repeat (first | (with_reducible exact Ext.refl _) | (with_reducible assumption) | with_reducible refine Ext.drew ?_ | with_reducible refine Ext.alloc ?_ _ | with_reducible refine Ext.setCell ?_ (by first | (simp; done) | (simp; omega) | omega) _ | with_reducible refine Ext.trans ?_ (by with_reducible assumption)))) hn).mono ?_; rintro e w1 ⟨rfl, hx1⟩) | (go_at_call 21; refine (impl_inside).mono ?_; rintro e w1 ⟨rfl, rfl⟩) | (go_at_call 45; refine (impl_isCode).mono ?_; rintro e w1 ⟨rfl, rfl⟩))
  all_goals go_ret
  all_goals exact ⟨ret_b (by simp [visB, *]), (by repeat (first | (with_reducible exact Ext.refl _) | (with_reducible assumption) | with_reducible refine Ext.drew ?_ | with_reducible refine Ext.alloc ?_ _ | with_reducible refine Ext.setCell ?_ (by first | (simp; done) | (simp; omega) | omega) _ | with_reducible refine Ext.trans ?_ (by with_reducible assumption)))⟩

theorem spec_l14Asked {ao : Option Addr} {cap : Nat} {xs : List Prf} {r c : Int} {w : World} (h : RowAt w ao 5 xs.length (fun k => (nth xs k).c)) (hn : xs.length ≤ 9223372036854775807) :
    Calls Try.prog 27 #[.slice ao xs.length cap, .int .i64 r, .int .i64 c] w fun e w' => e = .returned (.bool (visB xs r c)) ∧ Ext w w' := by
  go_enter Try.func27, Try.ntmps27
  go_wp2_with (first | (go_at_call 40; refine (spec_l14Good (h.ext (by repeat (first | (with_reducible exact Ext.refl _) | (with_reducible assumption) | with_reducible refine Ext.drew ?_ | with_reducible refine Ext.alloc ?_ _ | with_reducible refine Ext.setCell ?_ (by first | (simp; done) | (simp; omega) | omega) _ | with_reducible refine Ext.trans ?_ (by with_reducible assumption)))) hn).mono ?_; rintro e w1 ⟨rfl, hx1⟩) | (go_at_call 41; refine (spec_l14Who).mono ?_; rintro e w1 ⟨rfl, rfl⟩) | (go_at_call 42; refine (spec_l6Code).mono ?_; rintro e w1 ⟨rfl, rfl⟩))
  all_goals go_ret
  all_goals exact ⟨ret_b (by simp [visB, *]), (by repeat (first | (with_reducible exact Ext.refl _) | (with_reducible assumption) | with_reducible refine Ext.drew ?_ | with_reducible refine Ext.alloc ?_ _ | with_reducible refine Ext.setCell ?_ (by first | (simp; done) | (simp; omega) | omega) _ | with_reducible refine Ext.trans ?_ (by with_reducible assumption)))⟩

theorem visB_ok {xs : List Prf} {r c : Int} (h : visB xs r c = true) : okPrfs xs := okPrfs_of (by simp only [visB, Bool.and_eq_true] at h; exact h.1.1)

end Go.Proofs.Yteafclgaegdhmaa
