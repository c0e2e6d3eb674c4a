/-
  Proved here: what slices.IndexFunc and slices.ContainsFunc return at controls, whatever the predicate; what controlIn, controlOf, l6Find, areCodesOf, l17Codes return.
  Conditions: the predicate leaves what was there as it was; the lengths fit an int.
-/
import Derived.Test.YtidcfohlhamgmaaTControl
import Derived.Test.YtidcfohlhamgmaaIdxInts
namespace Go.Proofs.Ytidcfohlhamgmaa
open Go.RowKit

set_option maxHeartbeats 400000 in
theorem indexFunc_Ctl {ao : Option Addr} {cap n : Nat} {xs : List Ctl} {F : FuncId} {caps : Array Value} {p : Ctl → Bool} {w : World} (h : RowAt w ao 2 n (fun k => (nth xs k).c)) (hn : n ≤ 9223372036854775807) (hE : EntersF Try.prog F)
    (hp : ∀ (a b : Int) (w' : World), Ext w w' → Calls Try.prog F (#[.agg #[.int .i64 a, .int .i64 b]] ++ caps) w' fun e w'' => e = .returned (.bool (p ⟨a, b⟩)) ∧ Ext w' w'') :
    Calls Try.prog 111 #[.slice ao n cap, .func (.func F) #[] caps] w fun e w' => e = .returned (.int .i64 (idxU (fun k => p (nth xs k)) n)) ∧ Ext w w' := by
  have HE : Hid (EntersF Try.prog F) := hE
  clear hE
  have HP := Lib.hid hp; clear hp
  go_enter Try.func111, Try.ntmps111
  go_wp2
  go_loopw [8] (fun i wr => ∃ k : Nat, k ≤ n ∧ i = .int .i64 k ∧ Ext w wr ∧ ∀ j, j < k → p (nth xs j) = false) (fun i _ => n - (intOf i).toNat)
  case atStart => exact ⟨0, Nat.zero_le _, rfl, Ext.refl _, fun j hj => by omega⟩
  case round =>
    obtain ⟨k, hk, rfl, hx, hb⟩ := hrel
    have HB := Lib.hid hb; clear hb
    by_cases hlt : k < n
    · obtain ⟨b, off, rfl, hcell⟩ := h (by omega)
      have d0 := hx.cells (hcell k hlt 0 (by decide))
      have d1 := hx.cells (hcell k hlt 1 (by decide))
      simp only [Ctl.c0, Ctl.c1, Nat.add_zero] at d0 d1
      clear hcell h
      have hE : ∀ (args : Array Value) (w : World), (callFunc F args).run Try.prog w = .ok (.enter F args) w := HE
      cases hpk : p (nth xs k)
      all_goals
        go_wp2_with fail
        refine (HP.out _ _ _ hx).mono ?_; rintro e w1 ⟨rfl, hx1⟩
        rw [show p _ = _ from hpk]
        go_wp2
      · go_roundw
        case rel => exact ⟨k + 1, by omega, by go_num, (by repeat (first | (with_reducible exact Ext.refl _) | (with_reducible assumption) | with_reducible refine Ext.drew ?_ | with_reducible refine Ext.alloc ?_ _ | with_reducible refine Ext.setCell ?_ (by first | (simp; done) | (simp; omega) | omega) _ | with_reducible refine Ext.trans ?_ (by with_reducible assumption))), fun j hj => by by_cases e : j = k; (subst e; exact hpk); exact HB.out j (by omega)⟩
        case measure => simp [intOf]; omega
      · go_ret
        exact ⟨ret_i (by rw [idxU_at hlt hpk HB.out]), (by repeat (first | (with_reducible exact Ext.refl _) | (with_reducible assumption) | with_reducible refine Ext.drew ?_ | with_reducible refine Ext.alloc ?_ _ | with_reducible refine Ext.setCell ?_ (by first | (simp; done) | (simp; omega) | omega) _ | with_reducible refine Ext.trans ?_ (by with_reducible assumption)))⟩
    · have hkn : k = n := by omega
      subst hkn
      go_wp2
      go_ret
      exact ⟨ret_i (by rw [idxU_none HB.out]), (by repeat (first | (with_reducible exact Ext.refl _) | (with_reducible assumption) | with_reducible refine Ext.drew ?_ | with_reducible refine Ext.alloc ?_ _ | with_reducible refine Ext.setCell ?_ (by first | (simp; done) | (simp; omega) | omega) _ | with_reducible refine Ext.trans ?_ (by with_reducible assumption)))⟩

theorem impl_controlIn_1 {a b x : Int} {B : Nat} {w : World} (h : w.cell? ⟨B, 0, none⟩ = some (.int .i64 x)) (hB : B < w.heap.size) :
    Calls Try.prog 129 #[.agg #[.int .i64 a, .int .i64 b], .pointer (some ⟨B, 0, none⟩)] w fun e w' => e = .returned (.bool (b == x)) ∧ Ext w w' := by
  go_enter Try.func129, Try.ntmps129
  go_wp2
  go_ret
  exact ⟨rfl, (by repeat (first | (with_reducible exact Ext.refl _) | (with_reducible assumption) | with_reducible refine Ext.drew ?_ | with_reducible refine Ext.alloc ?_ _ | with_reducible refine Ext.setCell ?_ (by first | (simp; done) | (simp; omega) | omega) _ | with_reducible refine Ext.trans ?_ (by with_reducible assumption)))⟩
theorem impl_controlOf_1 {a b x : Int} {B : Nat} {w : World} (h : w.cell? ⟨B, 0, none⟩ = some (.int .i64 x)) (hB : B < w.heap.size) :
    Calls Try.prog 122 #[.agg #[.int .i64 a, .int .i64 b], .pointer (some ⟨B, 0, none⟩)] w fun e w' => e = .returned (.bool (a == x)) ∧ Ext w w' := by
  go_enter Try.func122, Try.ntmps122
  go_wp2
  go_ret
  exact ⟨rfl, (by repeat (first | (with_reducible exact Ext.refl _) | (with_reducible assumption) | with_reducible refine Ext.drew ?_ | with_reducible refine Ext.alloc ?_ _ | with_reducible refine Ext.setCell ?_ (by first | (simp; done) | (simp; omega) | omega) _ | with_reducible refine Ext.trans ?_ (by with_reducible assumption)))⟩

def inI (xs : List Ctl) (n : Nat) (x : Int) : Int := idxU (fun k => (nth xs k).cell == x) n
def ofI (xs : List Ctl) (n : Nat) (x : Int) : Int := idxU (fun k => (nth xs k).code == x) n

theorem impl_controlIn {ao : Option Addr} {cap n : Nat} {xs : List Ctl} {x : Int} {w : World} (h : RowAt w ao 2 n (fun k => (nth xs k).c)) (hn : n ≤ 9223372036854775807) :
    Calls Try.prog 118 #[.slice ao n cap, .int .i64 x] w fun e w' => e = .returned (.int .i64 (inI xs n x)) ∧ Ext w w' := by
  have hcl : (w.alloc (Obj.cells #[.int .i64 x] 3)).cell? ⟨w.heap.size, 0, none⟩ = some (.int .i64 x) := by go_simp
  have H := indexFunc_Ctl (w := w.alloc (Obj.cells #[.int .i64 x] 3)) (cap := cap) (xs := xs) (F := 129) (caps := #[.pointer (some ⟨w.heap.size, 0, none⟩)]) (p := fun y => y.cell == x) (h.ext ((Ext.refl _).alloc _)) hn (entersF_of Try.func129 (by kernel_rfl) rfl) (fun a b w' hw' => impl_controlIn_1 (hw'.cells hcl) (Nat.lt_of_lt_of_le (by simp) hw'.size))
  clear hcl h
  go_enter Try.func118, Try.ntmps118
  go_wp2_with fail
  refine H.mono ?_; rintro e w1 ⟨rfl, hx1⟩
  go_wp2
  go_ret
  exact ⟨rfl, (by repeat (first | (with_reducible exact Ext.refl _) | (with_reducible assumption) | with_reducible refine Ext.drew ?_ | with_reducible refine Ext.alloc ?_ _ | with_reducible refine Ext.setCell ?_ (by first | (simp; done) | (simp; omega) | omega) _ | with_reducible refine Ext.trans ?_ (by with_reducible assumption)))⟩
theorem impl_controlOf {ao : Option Addr} {cap n : Nat} {xs : List Ctl} {x : Int} {w : World} (h : RowAt w ao 2 n (fun k => (nth xs k).c)) (hn : n ≤ 9223372036854775807) :
    Calls Try.prog 93 #[.slice ao n cap, .int .i64 x] w fun e w' => e = .returned (.int .i64 (ofI xs n x)) ∧ Ext w w' := by
  have hcl : (w.alloc (Obj.cells #[.int .i64 x] 3)).cell? ⟨w.heap.size, 0, none⟩ = some (.int .i64 x) := by go_simp
  have H := indexFunc_Ctl (w := w.alloc (Obj.cells #[.int .i64 x] 3)) (cap := cap) (xs := xs) (F := 122) (caps := #[.pointer (some ⟨w.heap.size, 0, none⟩)]) (p := fun y => y.code == x) (h.ext ((Ext.refl _).alloc _)) hn (entersF_of Try.func122 (by kernel_rfl) rfl) (fun a b w' hw' => impl_controlOf_1 (hw'.cells hcl) (Nat.lt_of_lt_of_le (by simp) hw'.size))
  clear hcl h
  go_enter Try.func93, Try.ntmps93
  go_wp2_with fail
  refine H.mono ?_; rintro e w1 ⟨rfl, hx1⟩
  go_wp2
  go_ret
  exact ⟨rfl, (by repeat (first | (with_reducible exact Ext.refl _) | (with_reducible assumption) | with_reducible refine Ext.drew ?_ | with_reducible refine Ext.alloc ?_ _ | with_reducible refine Ext.setCell ?_ (by first | (simp; done) | (simp; omega) | omega) _ | with_reducible refine Ext.trans ?_ (by with_reducible assumption)))⟩

theorem spec_l6Find {ao : Option Addr} {cap n : Nat} {xs : List Ctl} {x : Int} {w : World} (h : RowAt w ao 2 n (fun k => (nth xs k).c)) (hn : n ≤ 9223372036854775807) :
    Calls Try.prog 94 #[.slice ao n cap, .int .i64 x] w fun e w' => e = .returned (.int .i64 (ofI xs n x)) ∧ Ext w w' := by
  go_enter Try.func94, Try.ntmps94
  go_wp2
  go_loopw [5] (fun i wr => ∃ k : Nat, k ≤ n ∧ i = .int .i64 k ∧ Ext w wr ∧ ∀ j, j < k → ((nth xs j).code == x) = false) (fun i _ => n - (intOf i).toNat)
  case atStart => exact ⟨0, Nat.zero_le _, rfl, Ext.refl _, fun j hj => by omega⟩
  case round =>
    obtain ⟨k, hk, rfl, hx, hb⟩ := hrel
    have HB := Lib.hid hb; clear hb
    by_cases hlt : k < n
    · obtain ⟨b, off, rfl, hcell⟩ := h (by omega)
      have d0 := hx.cells (hcell k hlt 0 (by decide))
      simp only [Ctl.c0, Nat.add_zero] at d0
      clear hcell h
      cases hpk : ((nth xs k).code == x)
      · go_wp2
        go_roundw
        case rel => exact ⟨k + 1, by omega, by go_num, (by repeat (first | (with_reducible exact Ext.refl _) | (with_reducible assumption) | with_reducible refine Ext.drew ?_ | with_reducible refine Ext.alloc ?_ _ | with_reducible refine Ext.setCell ?_ (by first | (simp; done) | (simp; omega) | omega) _ | with_reducible refine Ext.trans ?_ (by with_reducible assumption))), fun j hj => by by_cases e : j = k; (subst e; exact hpk); exact HB.out j (by omega)⟩
        case measure => simp [intOf]; omega
      · go_wp2
        go_ret
        exact ⟨ret_i (by rw [ofI, idxU_at hlt hpk HB.out]), (by repeat (first | (with_reducible exact Ext.refl _) | (with_reducible assumption) | with_reducible refine Ext.drew ?_ | with_reducible refine Ext.alloc ?_ _ | with_reducible refine Ext.setCell ?_ (by first | (simp; done) | (simp; omega) | omega) _ | with_reducible refine Ext.trans ?_ (by with_reducible assumption)))⟩
    · have hkn : k = n := by omega
      subst hkn
      go_wp2
      go_ret
      exact ⟨ret_i (by rw [ofI, idxU_none HB.out]), (by repeat (first | (with_reducible exact Ext.refl _) | (with_reducible assumption) | with_reducible refine Ext.drew ?_ | with_reducible refine Ext.alloc ?_ _ | with_reducible refine Ext.setCell ?_ (by first | (simp; done) | (simp; omega) | omega) _ | with_reducible refine Ext.trans ?_ (by with_reducible assumption)))⟩

/-- all codes are of controls -/
def ofB (xs : List Ctl) (cs : List Int) : Bool := upto (fun k => !decide (ofI xs xs.length (nth cs k) < 0)) cs.length

end Go.Proofs.Ytidcfohlhamgmaa
