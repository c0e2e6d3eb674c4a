/-
  Proved here: what slices.IndexFunc and slices.ContainsFunc return at ints, whatever the predicate.
  Conditions: the predicate leaves what was there as it was; the number of ints fits an int.
-/
import Derived.Test.YtckgjpaccgpdpaaGreatDoorInts
import Derived.Test.YtckgjpaccgpdpaaGreatDoorIdx
namespace Go.Proofs.YtckgjpaccgpdpaaGreatDoor
open Go.RowKit

set_option maxHeartbeats 400000 in
theorem indexFunc_Int {ao : Option Addr} {cap : Nat} {xs : List Int} {F : FuncId} {caps : Array Value} {p : Int → Bool} {w : World} (h : RowAt w ao 1 xs.length (ic xs)) (hn : xs.length ≤ 9223372036854775807) (hE : EntersF Tryz.prog F)
    (hp : ∀ (a : Int) (w' : World), Ext w w' → Calls Tryz.prog F (#[.int .i64 a] ++ caps) w' fun e w'' => e = .returned (.bool (p a)) ∧ Ext w' w'') :
    Calls Tryz.prog 66 #[.slice ao xs.length cap, .func (.func F) #[] caps] w fun e w' => e = .returned (.int .i64 (idxU (fun k => p (nth xs k)) xs.length)) ∧ Ext w w' := by
  have HE : Hid (EntersF Tryz.prog F) := hE
  clear hE
  have HP := Lib.hid hp; clear hp
  go_enter Tryz.func66, Tryz.ntmps66
  go_wp2
  go_loopw [8] (fun i wr => ∃ k : Nat, k ≤ xs.length ∧ i = .int .i64 k ∧ Ext w wr ∧ ∀ j, j < k → p (nth xs j) = false) (fun i _ => xs.length - (intOf i).toNat)
  case atStart => exact ⟨0, Nat.zero_le _, rfl, Ext.refl _, fun j hj => by omega⟩
  case round =>
    obtain ⟨k, hk, rfl, hx, hb⟩ := hrel
    have HB := Lib.hid hb; clear hb
    by_cases hlt : k < xs.length
    · obtain ⟨b, off, rfl, hcell⟩ := ints_at' h (by omega)
      have d0 := hx.cells (hcell k hlt)
      clear hcell h
      have hE : ∀ (args : Array Value) (w : World), (callFunc F args).run Tryz.prog w = .ok (.enter F args) w := HE
      cases hpk : p (nth xs k)
      all_goals
        go_wp2_with fail
        refine (HP.out _ _ hx).mono ?_; rintro e w1 ⟨rfl, hx1⟩
        rw [show p _ = _ from hpk]
        go_wp2
      · go_roundw
        case rel => exact ⟨k + 1, by omega, by go_num, (by repeat (first | (with_reducible exact Ext.refl _) | (with_reducible assumption) | with_reducible refine Ext.drew ?_ | with_reducible refine Ext.alloc ?_ _ | with_reducible refine Ext.setCell ?_ (by first | (simp; done) | (simp; omega) | omega) _ | with_reducible refine Ext.trans ?_ (by with_reducible assumption))), fun j hj => by by_cases e : j = k; (subst e; exact hpk); exact HB.out j (by omega)⟩
        case measure => simp [intOf]; omega
      · go_ret
        exact ⟨ret_i (by rw [idxU_at hlt hpk HB.out]), (by repeat (first | (with_reducible exact Ext.refl _) | (with_reducible assumption) | with_reducible refine Ext.drew ?_ | with_reducible refine Ext.alloc ?_ _ | with_reducible refine Ext.setCell ?_ (by first | (simp; done) | (simp; omega) | omega) _ | with_reducible refine Ext.trans ?_ (by with_reducible assumption)))⟩
    · have hkn : k = xs.length := by omega
      subst hkn
      go_wp2
      go_ret
      exact ⟨ret_i (by rw [idxU_none HB.out]), (by repeat (first | (with_reducible exact Ext.refl _) | (with_reducible assumption) | with_reducible refine Ext.drew ?_ | with_reducible refine Ext.alloc ?_ _ | with_reducible refine Ext.setCell ?_ (by first | (simp; done) | (simp; omega) | omega) _ | with_reducible refine Ext.trans ?_ (by with_reducible assumption)))⟩

theorem containsFunc_Int {ao : Option Addr} {cap : Nat} {xs : List Int} {F : FuncId} {caps : Array Value} {p : Int → Bool} {w : World} (h : RowAt w ao 1 xs.length (ic xs)) (hn : xs.length ≤ 9223372036854775807) (hE : EntersF Tryz.prog F)
    (hp : ∀ (a : Int) (w' : World), Ext w w' → Calls Tryz.prog F (#[.int .i64 a] ++ caps) w' fun e w'' => e = .returned (.bool (p a)) ∧ Ext w' w'') :
    Calls Tryz.prog 51 #[.slice ao xs.length cap, .func (.func F) #[] caps] w fun e w' => e = .returned (.bool (!upto (fun k => !p (nth xs k)) xs.length)) ∧ Ext w w' := by
  have H := indexFunc_Int (cap := cap) h hn hE hp
  clear hp hE
  go_enter Tryz.func51, Tryz.ntmps51
  go_wp2_with fail
  refine H.mono ?_; rintro e w1 ⟨rfl, hx1⟩
  go_wp2
  go_ret
  exact ⟨ret_b idxU_nonneg, (by repeat (first | (with_reducible exact Ext.refl _) | (with_reducible assumption) | with_reducible refine Ext.drew ?_ | with_reducible refine Ext.alloc ?_ _ | with_reducible refine Ext.setCell ?_ (by first | (simp; done) | (simp; omega) | omega) _ | with_reducible refine Ext.trans ?_ (by with_reducible assumption)))⟩

end Go.Proofs.YtckgjpaccgpdpaaGreatDoor
