/-
  Proved here: what slices.IndexFunc and slices.ContainsFunc return at runners, whatever the predicate.
  Conditions: the predicate leaves what was there as it was; the number of runners fits an int.
-/
import Derived.Test.YtkejhhflpnfepaaTRunner
import Derived.Test.YtkejhhflpnfepaaIdx
namespace Go.Proofs.Ytkejhhflpnfepaa
open Go.RowKit

set_option maxHeartbeats 400000 in
theorem indexFunc_Rn {ao : Option Addr} {cap : Nat} {xs : List Rnr} {F : FuncId} {caps : Array Value} {p : Rnr → Bool} {w : World} (h : RowAt w ao 6 xs.length (fun k => (nth xs k).c)) (hn : xs.length ≤ 9223372036854775807) (hE : EntersF Try.prog F)
    (hp : ∀ (i : Int) (n u : ByteArray) (b : Int) (g : Bool) (c : Int) (w' : World), Ext w w' → Calls Try.prog F (#[.agg #[.int .i64 i, .string n, .string u, .int .i64 b, .bool g, .int .i64 c]] ++ caps) w' fun e w'' => e = .returned (.bool (p ⟨i, n, u, b, g, c⟩)) ∧ Ext w' w'') :
    Calls Try.prog 83 #[.slice ao xs.length cap, .func (.func F) #[] caps] w fun e w' => e = .returned (.int .i64 (idxU (fun k => p (nth xs k)) xs.length)) ∧ Ext w w' := by
  have HE : Hid (EntersF Try.prog F) := hE
  clear hE
  have HP := Lib.hid hp; clear hp
  go_enter Try.func83, Try.ntmps83
  go_wp2
  go_loopw [8] (fun i wr => ∃ k : Nat, k ≤ xs.length ∧ i = .int .i64 k ∧ Ext w wr ∧ ∀ j, j < k → p (nth xs j) = false) (fun i _ => xs.length - (intOf i).toNat)
  case atStart => exact ⟨0, Nat.zero_le _, rfl, Ext.refl _, fun j hj => by omega⟩
  case round =>
    obtain ⟨k, hk, rfl, hx, hb⟩ := hrel
    have HB := Lib.hid hb; clear hb
    by_cases hlt : k < xs.length
    · obtain ⟨b, off, rfl, hcell⟩ := h (by omega)
      have d0 := hx.cells (hcell k hlt 0 (by decide))
      have d1 := hx.cells (hcell k hlt 1 (by decide))
      have d2 := hx.cells (hcell k hlt 2 (by decide))
      have d3 := hx.cells (hcell k hlt 3 (by decide))
      have d4 := hx.cells (hcell k hlt 4 (by decide))
      have d5 := hx.cells (hcell k hlt 5 (by decide))
      simp only [Rnr.c0, Rnr.c1, Rnr.c2, Rnr.c3, Rnr.c4, Rnr.c5, Nat.add_zero] at d0 d1 d2 d3 d4 d5
      clear hcell h
      have hE : ∀ (args : Array Value) (w : World), (callFunc F args).run Try.prog w = .ok (.enter F args) w := HE
      cases hpk : p (nth xs k)
      all_goals
        go_wp2_with fail
        refine (HP.out _ _ _ _ _ _ _ hx).mono ?_; rintro e w1 ⟨rfl, hx1⟩
        rw [show p _ = _ from hpk]
        go_wp2
      · go_roundw
        case rel => exact ⟨k + 1, by omega, by go_num, (by repeat (first | (with_reducible exact Ext.refl _) | (with_reducible assumption) | with_reducible refine Ext.drew ?_ | with_reducible refine Ext.alloc ?_ _ | with_reducible refine Ext.setCell ?_ (by first | (simp; done) | (simp; omega) | omega) _ | with_reducible refine Ext.trans ?_ (by with_reducible assumption))), fun j hj => by by_cases e : j = k; (subst e; exact hpk); exact HB.out j (by omega)⟩
        case measure => simp [intOf]; omega
      · go_ret
        exact ⟨ret_i (by rw [idxU_at hlt hpk HB.out]), (by repeat (first | (with_reducible exact Ext.refl _) | (with_reducible assumption) | with_reducible refine Ext.drew ?_ | with_reducible refine Ext.alloc ?_ _ | with_reducible refine Ext.setCell ?_ (by first | (simp; done) | (simp; omega) | omega) _ | with_reducible refine Ext.trans ?_ (by with_reducible assumption)))⟩
    · have hkn : k = xs.length := by omega
      subst hkn
      go_wp2
      go_ret
      exact ⟨ret_i (by rw [idxU_none HB.out]), (by repeat (first | (with_reducible exact Ext.refl _) | (with_reducible assumption) | with_reducible refine Ext.drew ?_ | with_reducible refine Ext.alloc ?_ _ | with_reducible refine Ext.setCell ?_ (by first | (simp; done) | (simp; omega) | omega) _ | with_reducible refine Ext.trans ?_ (by with_reducible assumption)))⟩

end Go.Proofs.Ytkejhhflpnfepaa
