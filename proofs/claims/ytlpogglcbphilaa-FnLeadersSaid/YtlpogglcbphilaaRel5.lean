/-
  Proved here: the team of a number; what TeamTime and its reference return.
  Conditions: the number of teams fits an int.
-/
import Derived.Test.YtlpogglcbphilaaRel4
namespace Go.Proofs.Ytlpogglcbphilaa
open Go.RowKit

theorem impl_teamIndex_1 {num number : Int} {ao : Option Addr} {n ac b : Nat} {w : World} (hq : w.cell? ⟨b, 0, none⟩ = some (.int .i64 number)) :
    Calls Try.prog 66 #[.agg #[.int .i64 num, .slice ao n ac], .pointer (some ⟨b, 0, none⟩)] w fun e w' => e = .returned (.bool (num == number)) ∧ Ext w w' := by
  have hb : b < w.heap.size := World.block_lt_of_cell? _ _ hq
  go_enter Try.func66, Try.ntmps66
  go_wp2
  go_ret
  exact ⟨rfl, (by repeat (first | (with_reducible exact Ext.refl _) | (with_reducible assumption) | with_reducible refine Ext.drew ?_ | with_reducible refine Ext.alloc ?_ _ | with_reducible refine Ext.setCell ?_ (by first | (simp; done) | (simp; omega) | omega) _ | with_reducible refine Ext.trans ?_ (by with_reducible assumption)))⟩

set_option maxHeartbeats 1000000 in
theorem indexFunc_Team {ao : Option Addr} {cap : Nat} {ts : List TeamD} {number : Int} {b : Nat} {w : World} (h : GRow w ao 2 ts.length (tsC ts)) (hn : ts.length ≤ 9223372036854775807) (hq : w.cell? ⟨b, 0, none⟩ = some (.int .i64 number)) :
    Calls Try.prog 65 #[.slice ao ts.length cap, .func (.func 66) #[] #[.pointer (some ⟨b, 0, none⟩)]] w fun e w' => e = .returned (.int .i64 (fdT ts number)) ∧ Ext w w' := by
  have hE : ∀ (args : Array Value) (w : World), (callFunc 66 args).run Try.prog w = .ok (.enter 66 args) w := entersF_of Try.func66 (by kernel_rfl) rfl
  have HE := Lib.hid hE; clear hE
  obtain ⟨n, hN⟩ : ∃ n, n = ts.length := ⟨_, rfl⟩
  have hfin : fdT ts number = idxU (fun k => (nth ts k).num == number) n := by rw [hN]; rfl
  have HF := Lib.hid hfin; clear hfin
  rw [← hN] at hn h ⊢
  clear hN
  go_enter Try.func65, Try.ntmps65
  go_wp2
  go_loopw [8] (fun i wr => ∃ k : Nat, k ≤ n ∧ i = .int .i64 k ∧ Ext w wr ∧ ∀ j, j < k → ((nth ts j).num == number) = false) (fun i _ => n - (intOf i).toNat)
  case atStart => exact ⟨0, Nat.zero_le _, rfl, Ext.refl _, fun j hj => by omega⟩
  case round =>
    obtain ⟨k, hk, rfl, hx, hb⟩ := hrel
    have HB := Lib.hid hb; clear hb
    by_cases hlt : k < n
    · obtain ⟨b1, off, rfl, hcell⟩ := h (by omega)
      obtain ⟨a1, c1, d0, d1, r1, n1, l1⟩ := teams_at (fun j hj => (hcell k hlt j hj).ext hx)
      have hone := impl_teamIndex_1 (num := (nth ts k).num) (ao := a1) (n := (nth ts k).legs.length) (ac := c1) (hx.cells hq)
      clear hcell h
      have hE := HE.out
      cases hpk : ((nth ts k).num == number)
      all_goals
        have HP := Lib.hid hpk
        rw [hpk] at hone
        clear hpk
        go_wp2_with fail
        refine hone.mono ?_; rintro e w1 ⟨rfl, hx1⟩
        go_wp2
      · go_roundw
        case rel => exact ⟨k + 1, by omega, by go_num, (by repeat (first | (with_reducible exact Ext.refl _) | (with_reducible assumption) | with_reducible refine Ext.drew ?_ | with_reducible refine Ext.alloc ?_ _ | with_reducible refine Ext.setCell ?_ (by first | (simp; done) | (simp; omega) | omega) _ | with_reducible refine Ext.trans ?_ (by with_reducible assumption))), fun j hj => by by_cases e : j = k; (subst e; exact HP.out); exact HB.out j (by omega)⟩
        case measure => simp [intOf]; omega
      · go_ret
        exact ⟨ret_i (by rw [HF.out, idxU_at (p := fun k => (nth ts k).num == number) hlt HP.out HB.out]), (by repeat (first | (with_reducible exact Ext.refl _) | (with_reducible assumption) | with_reducible refine Ext.drew ?_ | with_reducible refine Ext.alloc ?_ _ | with_reducible refine Ext.setCell ?_ (by first | (simp; done) | (simp; omega) | omega) _ | with_reducible refine Ext.trans ?_ (by with_reducible assumption)))⟩
    · obtain rfl : k = n := by omega
      go_wp2
      go_ret
      exact ⟨ret_i (by rw [HF.out, idxU_none HB.out]), (by repeat (first | (with_reducible exact Ext.refl _) | (with_reducible assumption) | with_reducible refine Ext.drew ?_ | with_reducible refine Ext.alloc ?_ _ | with_reducible refine Ext.setCell ?_ (by first | (simp; done) | (simp; omega) | omega) _ | with_reducible refine Ext.trans ?_ (by with_reducible assumption)))⟩

theorem impl_teamIndex {ao : Option Addr} {cap : Nat} {ts : List TeamD} {number : Int} {w : World} (h : GRow w ao 2 ts.length (tsC ts)) (hn : ts.length ≤ 9223372036854775807) :
    Calls Try.prog 38 #[.slice ao ts.length cap, .int .i64 number] w fun e w' => e = .returned (.int .i64 (fdT ts number)) ∧ Ext w w' := by
  have hi := indexFunc_Team (cap := cap) (b := w.heap.size) (number := number) (h.ext ((Ext.refl w).alloc (Obj.cells #[.int .i64 number] 3))) hn (by go_simp)
  go_enter Try.func38, Try.ntmps38
  go_wp2_with fail
  refine hi.mono ?_; rintro e w1 ⟨rfl, hx1⟩
  go_wp2
  go_ret
  exact ⟨rfl, (by repeat (first | (with_reducible exact Ext.refl _) | (with_reducible assumption) | with_reducible refine Ext.drew ?_ | with_reducible refine Ext.alloc ?_ _ | with_reducible refine Ext.setCell ?_ (by first | (simp; done) | (simp; omega) | omega) _ | with_reducible refine Ext.trans ?_ (by with_reducible assumption)))⟩

end Go.Proofs.Ytlpogglcbphilaa
