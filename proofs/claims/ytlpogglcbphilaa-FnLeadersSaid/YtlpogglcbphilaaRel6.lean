/-
  Proved here: what TeamTime and its reference return.
  Conditions: the number of teams fits an int.
-/
import Derived.Test.YtlpogglcbphilaaRel5
namespace Go.Proofs.Ytlpogglcbphilaa
open Go.RowKit

set_option maxHeartbeats 1000000 in
theorem spec_l16Find {ao : Option Addr} {cap : Nat} {ts : List TeamD} {number : Int} {w : World} (h : GRow w ao 2 ts.length (tsC ts)) (hn : ts.length ≤ 9223372036854775807) :
    Calls Try.prog 42 #[.slice ao ts.length cap, .int .i64 number] w fun e w' => e = .returned (.int .i64 (fdT ts number)) ∧ Ext w w' := by
  obtain ⟨n, hN⟩ : ∃ n, n = ts.length := ⟨_, rfl⟩
  have hfin : fdT ts number = idxU (fun k => (nth ts k).num == number) n := by rw [hN]; rfl
  have HF := Lib.hid hfin; clear hfin
  rw [← hN] at hn h ⊢
  clear hN
  go_enter Try.func42, Try.ntmps42
  go_wp2
  go_loopw [5] (fun i wr => ∃ k : Nat, k ≤ n ∧ i = .int .i64 k ∧ Ext w wr ∧ ∀ j, j < k → ((nth ts j).num == number) = false) (fun i _ => n - (intOf i).toNat)
  case atStart => exact ⟨0, Nat.zero_le _, rfl, Ext.refl _, fun j hj => by omega⟩
  case round =>
    obtain ⟨k, hk, rfl, hx, hb⟩ := hrel
    have HB := Lib.hid hb; clear hb
    by_cases hlt : k < n
    · obtain ⟨b1, off, rfl, hcell⟩ := h (by omega)
      obtain ⟨a1, c1, d0, d1, r1, n1, l1⟩ := teams_at (fun j hj => (hcell k hlt j hj).ext hx)
      clear hcell h
      cases hpk : ((nth ts k).num == number)
      all_goals go_wp2
      · go_roundw
        case rel => exact ⟨k + 1, by omega, by go_num, (by repeat (first | (with_reducible exact Ext.refl _) | (with_reducible assumption) | with_reducible refine Ext.drew ?_ | with_reducible refine Ext.alloc ?_ _ | with_reducible refine Ext.setCell ?_ (by first | (simp; done) | (simp; omega) | omega) _ | with_reducible refine Ext.trans ?_ (by with_reducible assumption))), fun j hj => by by_cases e : j = k; (subst e; exact hpk); exact HB.out j (by omega)⟩
        case measure => simp [intOf]; omega
      · go_ret
        exact ⟨ret_i (by rw [HF.out, idxU_at (p := fun k => (nth ts k).num == number) hlt hpk HB.out]), (by repeat (first | (with_reducible exact Ext.refl _) | (with_reducible assumption) | with_reducible refine Ext.drew ?_ | with_reducible refine Ext.alloc ?_ _ | with_reducible refine Ext.setCell ?_ (by first | (simp; done) | (simp; omega) | omega) _ | with_reducible refine Ext.trans ?_ (by with_reducible assumption)))⟩
    · obtain rfl : k = n := by omega
      go_wp2
      go_ret
      exact ⟨ret_i (by rw [HF.out, idxU_none HB.out]), (by repeat (first | (with_reducible exact Ext.refl _) | (with_reducible assumption) | with_reducible refine Ext.drew ?_ | with_reducible refine Ext.alloc ?_ _ | with_reducible refine Ext.setCell ?_ (by first | (simp; done) | (simp; omega) | omega) _ | with_reducible refine Ext.trans ?_ (by with_reducible assumption)))⟩

theorem impl_isComplete {t : TeamD} {ao : Option Addr} {ac m : Nat} {w : World} (hr : RowAt w ao 1 t.legs.length (ic t.legs)) (hn : t.legs.length ≤ 9223372036854775807) (hm : m ≤ 1000) :
    Calls Try.prog 52 #[t.val ao ac, .int .i64 ((m : Int) + 1)] w fun e w' => e = .returned (.bool (decide (0 < legT t m))) ∧ Ext w w' := by
  have hT := fun x hx => impl_hasRun (w := x) (t := t) (ac := ac) (hr.ext hx) hn hm
  obtain ⟨num, l⟩ := t
  dsimp only [TeamD.val] at hr hn hT ⊢
  go_enter Try.func52, Try.ntmps52
  go_wp2_with fail
  try rw [show (m : Int) + 1 - 1 = m by omega]
  refine (hT _ (by repeat (first | (with_reducible exact Ext.refl _) | (with_reducible assumption) | with_reducible refine Ext.drew ?_ | with_reducible refine Ext.alloc ?_ _ | with_reducible refine Ext.setCell ?_ (by first | (simp; done) | (simp; omega) | omega) _ | with_reducible refine Ext.trans ?_ (by with_reducible assumption)))).mono ?_; rintro e w2 ⟨rfl, hx2⟩
  go_wp2
  go_ret
  exact ⟨rfl, (by repeat (first | (with_reducible exact Ext.refl _) | (with_reducible assumption) | with_reducible refine Ext.drew ?_ | with_reducible refine Ext.alloc ?_ _ | with_reducible refine Ext.setCell ?_ (by first | (simp; done) | (simp; omega) | omega) _ | with_reducible refine Ext.trans ?_ (by with_reducible assumption)))⟩

theorem spec_l16Complete {t : TeamD} {ao : Option Addr} {ac m : Nat} {w : World} (hr : RowAt w ao 1 t.legs.length (ic t.legs)) (hok : TeamOk t ((m : Int) + 1)) :
    Calls Try.prog 57 #[t.val ao ac, .int .i64 ((m : Int) + 1)] w fun e w' => e = .returned (.bool (decide (0 < legT t m))) ∧ Ext w w' := by
  have hl := hok.len
  have h4 := hok.l4
  obtain ⟨num, l⟩ := t
  dsimp only [TeamD.val] at hr hl ⊢
  by_cases he : l.length = m + 1
  · have hw0 : Ext w (w.alloc (Obj.cells #[.int .i64 num, .slice ao l.length ac] 51)) := (Ext.refl _).alloc _
    obtain ⟨b, off, rfl, hcell⟩ := hr (by omega)
    have d0 := hw0.cells (hcell m (by omega) 0 (by decide))
    have d1 := hcell m (by omega) 0 (by decide)
    have hb := World.block_lt_of_cell? _ _ d1
    simp only [ic, Nat.mul_one, Nat.add_zero] at d0 d1
    have hin : legT ⟨num, l⟩ m = nth l m := legT_in (t := ⟨num, l⟩) (by simp; omega)
    rw [hin]
    have hlt : m < l.length := by omega
    have hz : ((l.length : Int) == (m : Int) + 1) = true := by simp; omega
    have HE := Lib.hid he; clear he hin hcell hr
    go_enter Try.func57, Try.ntmps57
    go_wp2
    go_ret
    exact ⟨rfl, (by repeat (first | (with_reducible exact Ext.refl _) | (with_reducible assumption) | with_reducible refine Ext.drew ?_ | with_reducible refine Ext.alloc ?_ _ | with_reducible refine Ext.setCell ?_ (by first | (simp; done) | (simp; omega) | omega) _ | with_reducible refine Ext.trans ?_ (by with_reducible assumption)))⟩
  · have hin : legT ⟨num, l⟩ m = -1 := legT_out (t := ⟨num, l⟩) (by simp; omega)
    rw [hin]
    have hz : ((l.length : Int) == (m : Int) + 1) = false := by simp; omega
    go_enter Try.func57, Try.ntmps57
    go_wp2
    go_ret
    exact ⟨rfl, (by repeat (first | (with_reducible exact Ext.refl _) | (with_reducible assumption) | with_reducible refine Ext.drew ?_ | with_reducible refine Ext.alloc ?_ _ | with_reducible refine Ext.setCell ?_ (by first | (simp; done) | (simp; omega) | omega) _ | with_reducible refine Ext.trans ?_ (by with_reducible assumption)))⟩

theorem gTime_no {ts : List TeamD} {legs number : Int} (h : teamsB ts legs = false) : gTime ts legs number = .tuple #[.int .i64 0, .bool false] := by simp [gTime, h]
theorem gTime_none {ts : List TeamD} {legs number : Int} (h : fdT ts number = -1) : gTime ts legs number = .tuple #[.int .i64 0, .bool false] := by simp [gTime, h]
theorem gTime_at {ts : List TeamD} {number : Int} {m k : Nat} (h : teamsB ts ((m : Int) + 1) = true) (hf : fdT ts number = (k : Int)) :
    gTime ts ((m : Int) + 1) number = if 0 < legT (nth ts k) m then .tuple #[.int .i64 (sumU (nth ts k).legs (nth ts k).legs.length), .bool true] else .tuple #[.int .i64 0, .bool false] := by
  unfold gTime doneB
  rw [h, hf]
  have : ((m : Int) + 1 - 1).toNat = m := by omega
  rw [this]
  by_cases e : 0 < legT (nth ts k) m <;> simp [e]

set_option maxRecDepth 100000 in
set_option maxHeartbeats 2000000 in
theorem impl_TeamTime {ao : Option Addr} {cap : Nat} {ts : List TeamD} {legs number : Int} {w : World} (h : GRow w ao 2 ts.length (tsC ts)) (hn : ts.length ≤ 9223372036854775807) (_h1 : I64 legs) (_h2 : I64 number) :
    Calls Try.prog 16 #[.slice ao ts.length cap, .int .i64 legs, .int .i64 number] w fun e w' => e = .returned (gTime ts legs number) ∧ Ext w w' := by
  have hI := fun x hx => impl_teamIndex (w := x) (cap := cap) (number := number) (h.ext hx) hn
  have hA := fun x hx => impl_AreTeams (w := x) (cap := cap) (legs := legs) (h.ext hx) hn
  cases hv : teamsB ts legs
  · rw [gTime_no hv]
    rw [hv] at hA
    go_enter Try.func16, Try.ntmps16
    go_wp2_with fail
    refine (hI _ (Ext.refl _)).mono ?_; rintro e w1 ⟨rfl, hx1⟩
    go_wp2_with fail
    refine (hA _ hx1).mono ?_; rintro e w2 ⟨rfl, hx2⟩
    go_wp2
    go_ret2
    exact ⟨rfl, (by repeat (first | (with_reducible exact Ext.refl _) | (with_reducible assumption) | with_reducible refine Ext.drew ?_ | with_reducible refine Ext.alloc ?_ _ | with_reducible refine Ext.setCell ?_ (by first | (simp; done) | (simp; omega) | omega) _ | with_reducible refine Ext.trans ?_ (by with_reducible assumption)))⟩
  · have hl4 := (teamsB_at hv).1
    obtain ⟨m, rfl⟩ : ∃ m : Nat, legs = (m : Int) + 1 := ⟨(legs - 1).toNat, by omega⟩
    rcases idxU_cases (fun k => (nth ts k).num == number) ts.length with ⟨e0, _⟩ | ⟨k, hk, e0, _, _⟩
    · have e0 : fdT ts number = -1 := e0
      rw [gTime_none e0]
      rw [hv] at hA
      rw [e0] at hI
      clear e0
      go_enter Try.func16, Try.ntmps16
      go_wp2_with fail
      refine (hI _ (Ext.refl _)).mono ?_; rintro e w1 ⟨rfl, hx1⟩
      go_wp2_with fail
      refine (hA _ hx1).mono ?_; rintro e w2 ⟨rfl, hx2⟩
      go_wp2
      go_ret2
      exact ⟨rfl, (by repeat (first | (with_reducible exact Ext.refl _) | (with_reducible assumption) | with_reducible refine Ext.drew ?_ | with_reducible refine Ext.alloc ?_ _ | with_reducible refine Ext.setCell ?_ (by first | (simp; done) | (simp; omega) | omega) _ | with_reducible refine Ext.trans ?_ (by with_reducible assumption)))⟩
    · have e0 : fdT ts number = (k : Int) := e0
      have HG := Lib.hid (gTime_at hv e0)
      have ho := teamOk hv hk
      rw [hv] at hA
      rw [e0] at hI
      obtain ⟨b, off, rfl, hcell⟩ := h (by omega)
      obtain ⟨a1, c1, d0, d1, r1, n1, l1⟩ := teams_at (fun j hj => hcell k hk j hj)
      have hC := fun x hx => impl_isComplete (w := x) (t := nth ts k) (ac := c1) (m := m) (r1.ext hx) n1 (by omega)
      have hS := fun x hx => impl_sumN (w := x) (cap := c1) (RowAt.ext r1 hx) n1 (sum_ok ho (Nat.le_refl _))
      unfold TeamD.val at hC
      clear hcell e0 h hv
      by_cases hp : 0 < legT (nth ts k) m
      · have hpd : decide (0 < legT (nth ts k) m) = true := by simpa using hp
        have HP := Lib.hid hp
        rw [hpd] at hC
        clear hp hpd
        go_enter Try.func16, Try.ntmps16
        go_wp2_with fail
        refine (hI _ (Ext.refl _)).mono ?_; rintro e w1 ⟨rfl, hx1⟩
        go_wp2_with fail
        refine (hA _ hx1).mono ?_; rintro e w2 ⟨rfl, hx2⟩
        have hy2 := hx1.trans hx2
        have f0 := hy2.cells d0
        have f1 := hy2.cells d1
        go_wp2_with fail
        refine (hC _ hy2).mono ?_; rintro e w3 ⟨rfl, hx3⟩
        have hy3 := hy2.trans hx3
        have f2 := hy3.cells d1
        go_wp2_with fail
        refine (hS _ hy3).mono ?_; rintro e w4 ⟨rfl, hx4⟩
        go_wp2
        go_ret2
        exact ⟨by rw [HG.out, if_pos HP.out]; rfl, (by repeat (first | (with_reducible exact Ext.refl _) | (with_reducible assumption) | with_reducible refine Ext.drew ?_ | with_reducible refine Ext.alloc ?_ _ | with_reducible refine Ext.setCell ?_ (by first | (simp; done) | (simp; omega) | omega) _ | with_reducible refine Ext.trans ?_ (by with_reducible assumption)))⟩
      · have hpd : decide (0 < legT (nth ts k) m) = false := by simpa using hp
        have HP := Lib.hid hp
        rw [hpd] at hC
        clear hp hpd
        go_enter Try.func16, Try.ntmps16
        go_wp2_with fail
        refine (hI _ (Ext.refl _)).mono ?_; rintro e w1 ⟨rfl, hx1⟩
        go_wp2_with fail
        refine (hA _ hx1).mono ?_; rintro e w2 ⟨rfl, hx2⟩
        have hy2 := hx1.trans hx2
        have f0 := hy2.cells d0
        have f1 := hy2.cells d1
        go_wp2_with fail
        refine (hC _ hy2).mono ?_; rintro e w3 ⟨rfl, hx3⟩
        go_wp2
        go_ret2
        exact ⟨by rw [HG.out, if_neg (by have := HP.out; omega)]; rfl, (by repeat (first | (with_reducible exact Ext.refl _) | (with_reducible assumption) | with_reducible refine Ext.drew ?_ | with_reducible refine Ext.alloc ?_ _ | with_reducible refine Ext.setCell ?_ (by first | (simp; done) | (simp; omega) | omega) _ | with_reducible refine Ext.trans ?_ (by with_reducible assumption)))⟩

set_option maxRecDepth 100000 in
set_option maxHeartbeats 2000000 in
theorem spec_TeamTime {ao : Option Addr} {cap : Nat} {ts : List TeamD} {legs number : Int} {w : World} (h : GRow w ao 2 ts.length (tsC ts)) (hn : ts.length ≤ 9223372036854775807) (_h1 : I64 legs) (_h2 : I64 number) :
    Calls Try.prog 18 #[.slice ao ts.length cap, .int .i64 legs, .int .i64 number] w fun e w' => e = .returned (gTime ts legs number) ∧ Ext w w' := by
  have hI := fun x hx => spec_l16Find (w := x) (cap := cap) (number := number) (h.ext hx) hn
  have hA := fun x hx => spec_l16Good (w := x) (cap := cap) (legs := legs) (h.ext hx) hn
  cases hv : teamsB ts legs
  · rw [gTime_no hv]
    rw [hv] at hA
    go_enter Try.func18, Try.ntmps18
    go_wp2_with fail
    refine (hI _ (Ext.refl _)).mono ?_; rintro e w1 ⟨rfl, hx1⟩
    go_wp2_with fail
    refine (hA _ hx1).mono ?_; rintro e w2 ⟨rfl, hx2⟩
    go_wp2
    go_ret2
    exact ⟨rfl, (by repeat (first | (with_reducible exact Ext.refl _) | (with_reducible assumption) | with_reducible refine Ext.drew ?_ | with_reducible refine Ext.alloc ?_ _ | with_reducible refine Ext.setCell ?_ (by first | (simp; done) | (simp; omega) | omega) _ | with_reducible refine Ext.trans ?_ (by with_reducible assumption)))⟩
  · have hl4 := (teamsB_at hv).1
    obtain ⟨m, rfl⟩ : ∃ m : Nat, legs = (m : Int) + 1 := ⟨(legs - 1).toNat, by omega⟩
    rcases idxU_cases (fun k => (nth ts k).num == number) ts.length with ⟨e0, _⟩ | ⟨k, hk, e0, _, _⟩
    · have e0 : fdT ts number = -1 := e0
      rw [gTime_none e0]
      rw [hv] at hA
      rw [e0] at hI
      clear e0
      go_enter Try.func18, Try.ntmps18
      go_wp2_with fail
      refine (hI _ (Ext.refl _)).mono ?_; rintro e w1 ⟨rfl, hx1⟩
      go_wp2_with fail
      refine (hA _ hx1).mono ?_; rintro e w2 ⟨rfl, hx2⟩
      go_wp2
      go_ret2
      exact ⟨rfl, (by repeat (first | (with_reducible exact Ext.refl _) | (with_reducible assumption) | with_reducible refine Ext.drew ?_ | with_reducible refine Ext.alloc ?_ _ | with_reducible refine Ext.setCell ?_ (by first | (simp; done) | (simp; omega) | omega) _ | with_reducible refine Ext.trans ?_ (by with_reducible assumption)))⟩
    · have e0 : fdT ts number = (k : Int) := e0
      have HG := Lib.hid (gTime_at hv e0)
      have ho := teamOk hv hk
      rw [hv] at hA
      rw [e0] at hI
      obtain ⟨b, off, rfl, hcell⟩ := h (by omega)
      obtain ⟨a1, c1, d0, d1, r1, n1, l1⟩ := teams_at (fun j hj => hcell k hk j hj)
      have hC := fun x hx => spec_l16Complete (w := x) (t := nth ts k) (ac := c1) (m := m) (r1.ext hx) ho
      have hS := fun x hx => spec_sumN (w := x) (cap := c1) (RowAt.ext r1 hx) n1 (sum_ok ho (Nat.le_refl _))
      unfold TeamD.val at hC
      clear hcell e0 h hv
      by_cases hp : 0 < legT (nth ts k) m
      · have hpd : decide (0 < legT (nth ts k) m) = true := by simpa using hp
        have HP := Lib.hid hp
        rw [hpd] at hC
        clear hp hpd
        go_enter Try.func18, Try.ntmps18
        go_wp2_with fail
        refine (hI _ (Ext.refl _)).mono ?_; rintro e w1 ⟨rfl, hx1⟩
        go_wp2_with fail
        refine (hA _ hx1).mono ?_; rintro e w2 ⟨rfl, hx2⟩
        have hy2 := hx1.trans hx2
        have f0 := hy2.cells d0
        have f1 := hy2.cells d1
        go_wp2_with fail
        refine (hC _ hy2).mono ?_; rintro e w3 ⟨rfl, hx3⟩
        have hy3 := hy2.trans hx3
        have f2 := hy3.cells d1
        go_wp2_with fail
        refine (hS _ hy3).mono ?_; rintro e w4 ⟨rfl, hx4⟩
        go_wp2
        go_ret2
        exact ⟨by rw [HG.out, if_pos HP.out]; rfl, (by repeat (first | (with_reducible exact Ext.refl _) | (with_reducible assumption) | with_reducible refine Ext.drew ?_ | with_reducible refine Ext.alloc ?_ _ | with_reducible refine Ext.setCell ?_ (by first | (simp; done) | (simp; omega) | omega) _ | with_reducible refine Ext.trans ?_ (by with_reducible assumption)))⟩
      · have hpd : decide (0 < legT (nth ts k) m) = false := by simpa using hp
        have HP := Lib.hid hp
        rw [hpd] at hC
        clear hp hpd
        go_enter Try.func18, Try.ntmps18
        go_wp2_with fail
        refine (hI _ (Ext.refl _)).mono ?_; rintro e w1 ⟨rfl, hx1⟩
        go_wp2_with fail
        refine (hA _ hx1).mono ?_; rintro e w2 ⟨rfl, hx2⟩
        have hy2 := hx1.trans hx2
        have f0 := hy2.cells d0
        have f1 := hy2.cells d1
        go_wp2_with fail
        refine (hC _ hy2).mono ?_; rintro e w3 ⟨rfl, hx3⟩
        go_wp2
        go_ret2
        exact ⟨by rw [HG.out, if_neg (by have := HP.out; omega)]; rfl, (by repeat (first | (with_reducible exact Ext.refl _) | (with_reducible assumption) | with_reducible refine Ext.drew ?_ | with_reducible refine Ext.alloc ?_ _ | with_reducible refine Ext.setCell ?_ (by first | (simp; done) | (simp; omega) | omega) _ | with_reducible refine Ext.trans ?_ (by with_reducible assumption)))⟩

end Go.Proofs.Ytlpogglcbphilaa
