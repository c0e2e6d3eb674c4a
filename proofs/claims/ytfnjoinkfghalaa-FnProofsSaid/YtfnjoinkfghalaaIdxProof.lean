/-
  Proved here: what slices.IndexFunc and slices.ContainsFunc return at proofs, whatever the predicate.
  Conditions: the predicate leaves what was there as it was; the number of proofs fits an int.
-/
import Derived.Test.YtfnjoinkfghalaaTProof
import Derived.Test.YtfnjoinkfghalaaIdx
namespace Go.Proofs.Ytfnjoinkfghalaa
open Go.RowKit

set_option maxHeartbeats 400000 in
theorem indexFunc_Proof {ao : Option Addr} {cap : Nat} {xs : List Prf} {F : FuncId} {caps : Array Value} {p : Prf → Bool} {w : World} (h : RowAt w ao 5 xs.length (fun k => (nth xs k).c)) (hn : xs.length ≤ 9223372036854775807) (hE : EntersF Try.prog F)
    (hp : ∀ (r c k t : Int) (g : Bool) (w' : World), Ext w w' → Calls Try.prog F (#[.agg #[.int .i64 r, .int .i64 c, .int .i64 k, .int .i64 t, .bool g]] ++ caps) w' fun e w'' => e = .returned (.bool (p ⟨r, c, k, t, g⟩)) ∧ Ext w' w'') :
    Calls Try.prog 94 #[.slice ao xs.length cap, .func (.func F) #[] caps] w fun e w' => e = .returned (.int .i64 (idxU (fun k => p (nth xs k)) xs.length)) ∧ Ext w w' := by
  have HE : Hid (EntersF Try.prog F) := hE
  clear hE
  have HP := Lib.hid hp; clear hp
  go_enter Try.func94, Try.ntmps94
  go_wp2
  go_loopw [8] (fun i wr => ∃ k : Nat, k ≤ xs.length ∧ i = .int .i64 k ∧ Ext w wr ∧ ∀ j, j < k → p (nth xs j) = false) (fun i _ => xs.length - (intOf i).toNat)
  case atStart => exact ⟨0, Nat.zero_le _, rfl, Ext.refl _, fun j hj => by omega⟩
  case round =>
    obtain ⟨k, hk, rfl, hx, hb⟩ := hrel
    have HB := Lib.hid hb; clear hb
    by_cases hlt : k < xs.length
    · obtain ⟨b, off, rfl, hcell⟩ := h (by omega)
      have d0 := hx.cells (hcell k hlt 0 (by decide))
      have d1 := hx.cells (hcell k hlt 1 (by decide))
      have d2 := hx.cells (hcell k hlt 2 (by decide))
      have d3 := hx.cells (hcell k hlt 3 (by decide))
      have d4 := hx.cells (hcell k hlt 4 (by decide))
      simp only [Prf.c0, Prf.c1, Prf.c2, Prf.c3, Prf.c4, Nat.add_zero] at d0 d1 d2 d3 d4
      clear hcell h
      have hE : ∀ (args : Array Value) (w : World), (callFunc F args).run Try.prog w = .ok (.enter F args) w := HE
      cases hpk : p (nth xs k)
      all_goals
        go_wp2_with fail
        refine (HP.out _ _ _ _ _ _ hx).mono ?_; rintro e w1 ⟨rfl, hx1⟩
        rw [show p _ = _ from hpk]
        go_wp2
      · go_roundw
        case rel => exact ⟨k + 1, by omega, by go_num, (by repeat (first | (with_reducible exact Ext.refl _) | (with_reducible assumption) | with_reducible refine Ext.drew ?_ | with_reducible refine Ext.alloc ?_ _ | with_reducible refine Ext.setCell ?_ (by first | (simp; done) | (simp; omega) | omega) _ | with_reducible refine Ext.trans ?_ (by with_reducible assumption))), fun j hj => by by_cases e : j = k; (subst e; exact hpk); exact HB.out j (by omega)⟩
        case measure => simp [intOf]; omega
      · go_ret
        exact ⟨ret_i (by rw [idxU_at hlt hpk HB.out]), (by repeat (first | (with_reducible exact Ext.refl _) | (with_reducible assumption) | with_reducible refine Ext.drew ?_ | with_reducible refine Ext.alloc ?_ _ | with_reducible refine Ext.setCell ?_ (by first | (simp; done) | (simp; omega) | omega) _ | with_reducible refine Ext.trans ?_ (by with_reducible assumption)))⟩
    · have hkn : k = xs.length := by omega
      subst hkn
      go_wp2
      go_ret
      exact ⟨ret_i (by rw [idxU_none HB.out]), (by repeat (first | (with_reducible exact Ext.refl _) | (with_reducible assumption) | with_reducible refine Ext.drew ?_ | with_reducible refine Ext.alloc ?_ _ | with_reducible refine Ext.setCell ?_ (by first | (simp; done) | (simp; omega) | omega) _ | with_reducible refine Ext.trans ?_ (by with_reducible assumption)))⟩

theorem containsFunc_Proof {ao : Option Addr} {cap : Nat} {xs : List Prf} {F : FuncId} {caps : Array Value} {p : Prf → Bool} {w : World} (h : RowAt w ao 5 xs.length (fun k => (nth xs k).c)) (hn : xs.length ≤ 9223372036854775807) (hE : EntersF Try.prog F)
    (hp : ∀ (r c k t : Int) (g : Bool) (w' : World), Ext w w' → Calls Try.prog F (#[.agg #[.int .i64 r, .int .i64 c, .int .i64 k, .int .i64 t, .bool g]] ++ caps) w' fun e w'' => e = .returned (.bool (p ⟨r, c, k, t, g⟩)) ∧ Ext w' w'') :
    Calls Try.prog 79 #[.slice ao xs.length cap, .func (.func F) #[] caps] w fun e w' => e = .returned (.bool (!upto (fun k => !p (nth xs k)) xs.length)) ∧ Ext w w' := by
  have H := indexFunc_Proof (cap := cap) h hn hE hp
  clear hp hE
  go_enter Try.func79, Try.ntmps79
  go_wp2_with fail
  refine H.mono ?_; rintro e w1 ⟨rfl, hx1⟩
  go_wp2
  go_ret
  exact ⟨ret_b idxU_nonneg, (by repeat (first | (with_reducible exact Ext.refl _) | (with_reducible assumption) | with_reducible refine Ext.drew ?_ | with_reducible refine Ext.alloc ?_ _ | with_reducible refine Ext.setCell ?_ (by first | (simp; done) | (simp; omega) | omega) _ | with_reducible refine Ext.trans ?_ (by with_reducible assumption)))⟩

end Go.Proofs.Ytfnjoinkfghalaa
