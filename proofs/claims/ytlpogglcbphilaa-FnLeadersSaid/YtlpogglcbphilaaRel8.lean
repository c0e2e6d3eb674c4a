/-
  Proved here: what ComesBack and its reference return.
  Conditions: the number of teams fits an int.
-/
import Derived.Test.YtlpogglcbphilaaRel7
namespace Go.Proofs.Ytlpogglcbphilaa
open Go.RowKit

theorem gBack_no {ts : List TeamD} {legs mass number leg : Int} (h : askR ts legs mass number leg = false) : gBack ts legs mass number leg = .tuple #[.int .i64 0, .bool false] := by simp [gBack, backO, h, stV]
theorem gBack_none {ts : List TeamD} {legs mass number : Int} {k m : Nat} (hf : fdT ts number = (k : Int)) (hs : stU (nth ts k) mass m = none) : gBack ts legs mass number m = .tuple #[.int .i64 0, .bool false] := by
  unfold gBack backO; rw [hf]; simp [hs, stV]
theorem gBack_less {ts : List TeamD} {legs mass number : Int} {k m : Nat} (hf : fdT ts number = (k : Int)) (hl : legT (nth ts k) m < 1) : gBack ts legs mass number m = .tuple #[.int .i64 0, .bool false] := by
  unfold gBack backO; rw [hf]
  split
  · split
    · rfl
    · rw [if_pos (by simpa using hl)]; rfl
  · rfl
theorem gBack_at {ts : List TeamD} {legs mass number s : Int} {k m : Nat} (h : askR ts legs mass number m = true) (hf : fdT ts number = (k : Int)) (hs : stU (nth ts k) mass m = some s) (hl : ¬ legT (nth ts k) m < 1) : gBack ts legs mass number m = .tuple #[.int .i64 (s + legT (nth ts k) m), .bool true] := by
  unfold gBack backO; rw [hf]; simp [hs, stV, h, hl]

set_option maxRecDepth 100000 in
set_option maxHeartbeats 2000000 in
theorem impl_ComesBack {ao : Option Addr} {cap : Nat} {ts : List TeamD} {legs mass number leg : Int} {w : World} (h : GRow w ao 2 ts.length (tsC ts)) (hn : ts.length ≤ 9223372036854775807) (h1 : I64 legs) (h2 : I64 mass) (h3 : I64 number) (h4 : I64 leg) :
    Calls Try.prog 9 #[.slice ao ts.length cap, .int .i64 legs, .int .i64 mass, .int .i64 number, .int .i64 leg] w fun e w' => e = .returned (gBack ts legs mass number leg) ∧ Ext w w' := by
  have hI := fun x hx => impl_teamIndex (w := x) (cap := cap) (number := number) (h.ext hx) hn
  have hS := impl_StartOf (cap := cap) h hn h1 h2 h3 h4
  cases hq : askR ts legs mass number leg
  · rw [gBack_no hq]
    rw [gStart_no hq] at hS
    clear hq
    go_enter Try.func9, Try.ntmps9
    go_wp2_with fail
    refine hS.mono ?_; rintro e w1 ⟨rfl, hx1⟩
    go_wp2
    go_ret2
    exact ⟨rfl, (by repeat (first | (with_reducible exact Ext.refl _) | (with_reducible assumption) | with_reducible refine Ext.drew ?_ | with_reducible refine Ext.alloc ?_ _ | with_reducible refine Ext.setCell ?_ (by first | (simp; done) | (simp; omega) | omega) _ | with_reducible refine Ext.trans ?_ (by with_reducible assumption)))⟩
  · obtain ⟨k, m, hv, hvt, hmm, hk, e0, rfl, hm, hg⟩ := ask_open hq
    have hl4 := (teamsB_at hvt).1
    rw [gStart_at hq e0] at hS
    have ho := teamOk hvt hk
    cases hst : stU (nth ts k) mass m with
    | none =>
      rw [hst] at hS
      unfold stV at hS
      rw [gBack_none e0 hst]
      clear hst e0 hq hg hv hvt
      go_enter Try.func9, Try.ntmps9
      go_wp2_with fail
      refine hS.mono ?_; rintro e w1 ⟨rfl, hx1⟩
      go_wp2
      go_ret2
      exact ⟨rfl, (by repeat (first | (with_reducible exact Ext.refl _) | (with_reducible assumption) | with_reducible refine Ext.drew ?_ | with_reducible refine Ext.alloc ?_ _ | with_reducible refine Ext.setCell ?_ (by first | (simp; done) | (simp; omega) | omega) _ | with_reducible refine Ext.trans ?_ (by with_reducible assumption)))⟩
    | some s =>
      rw [hst] at hS
      unfold stV at hS
      have hsb := stU_bd hmm.1 hmm.2 hst
      have hlb := legT_bd ho m
      obtain ⟨b, off, rfl, hcell⟩ := h (by omega)
      obtain ⟨a1, c1, d0, d1, r1, n1, l1⟩ := teams_at (fun j hj => hcell k hk j hj)
      have hT := fun x hx => impl_legTime (w := x) (t := nth ts k) (ac := c1) (m := m) (r1.ext hx) n1 (by omega)
      unfold TeamD.val at hT
      by_cases hl : legT (nth ts k) m < 1
      · have HG := Lib.hid (gBack_less (legs := legs) (mass := mass) (m := m) e0 hl)
        rw [e0] at hI
        clear hst e0 hq hg hv hvt hcell h ho
        go_enter Try.func9, Try.ntmps9
        go_wp2_with fail
        refine hS.mono ?_; rintro e w1 ⟨rfl, hx1⟩
        go_wp2_with fail
        refine (hI _ hx1).mono ?_; rintro e w2 ⟨rfl, hx2⟩
        have hy2 := hx1.trans hx2
        have f0 := hy2.cells d0
        have f1 := hy2.cells d1
        go_wp2_with fail
        refine (hT _ hy2).mono ?_; rintro e w3 ⟨rfl, hx3⟩
        go_wp2
        go_ret2
        exact ⟨by rw [HG.out]; rfl, (by repeat (first | (with_reducible exact Ext.refl _) | (with_reducible assumption) | with_reducible refine Ext.drew ?_ | with_reducible refine Ext.alloc ?_ _ | with_reducible refine Ext.setCell ?_ (by first | (simp; done) | (simp; omega) | omega) _ | with_reducible refine Ext.trans ?_ (by with_reducible assumption)))⟩
      · have HG := Lib.hid (gBack_at hq e0 hst hl)
        rw [e0] at hI
        clear hst e0 hq hg hv hvt hcell h ho
        go_enter Try.func9, Try.ntmps9
        go_wp2_with fail
        refine hS.mono ?_; rintro e w1 ⟨rfl, hx1⟩
        go_wp2_with fail
        refine (hI _ hx1).mono ?_; rintro e w2 ⟨rfl, hx2⟩
        have hy2 := hx1.trans hx2
        have f0 := hy2.cells d0
        have f1 := hy2.cells d1
        go_wp2_with fail
        refine (hT _ hy2).mono ?_; rintro e w3 ⟨rfl, hx3⟩
        go_wp2
        go_ret2
        exact ⟨by rw [HG.out]; rfl, (by repeat (first | (with_reducible exact Ext.refl _) | (with_reducible assumption) | with_reducible refine Ext.drew ?_ | with_reducible refine Ext.alloc ?_ _ | with_reducible refine Ext.setCell ?_ (by first | (simp; done) | (simp; omega) | omega) _ | with_reducible refine Ext.trans ?_ (by with_reducible assumption)))⟩

set_option maxRecDepth 100000 in
set_option maxHeartbeats 2000000 in
theorem spec_ComesBack {ao : Option Addr} {cap : Nat} {ts : List TeamD} {legs mass number leg : Int} {w : World} (h : GRow w ao 2 ts.length (tsC ts)) (hn : ts.length ≤ 9223372036854775807) (h1 : I64 legs) (h2 : I64 mass) (h3 : I64 number) (h4 : I64 leg) :
    Calls Try.prog 10 #[.slice ao ts.length cap, .int .i64 legs, .int .i64 mass, .int .i64 number, .int .i64 leg] w fun e w' => e = .returned (gBack ts legs mass number leg) ∧ Ext w w' := by
  have hI := fun x hx => spec_l16Find (w := x) (cap := cap) (number := number) (h.ext hx) hn
  have hS := spec_StartOf (cap := cap) h hn h1 h2 h3 h4
  cases hq : askR ts legs mass number leg
  · rw [gBack_no hq]
    rw [gStart_no hq] at hS
    clear hq
    go_enter Try.func10, Try.ntmps10
    go_wp2_with fail
    refine hS.mono ?_; rintro e w1 ⟨rfl, hx1⟩
    go_wp2
    go_ret2
    exact ⟨rfl, (by repeat (first | (with_reducible exact Ext.refl _) | (with_reducible assumption) | with_reducible refine Ext.drew ?_ | with_reducible refine Ext.alloc ?_ _ | with_reducible refine Ext.setCell ?_ (by first | (simp; done) | (simp; omega) | omega) _ | with_reducible refine Ext.trans ?_ (by with_reducible assumption)))⟩
  · obtain ⟨k, m, hv, hvt, hmm, hk, e0, rfl, hm, hg⟩ := ask_open hq
    have hl4 := (teamsB_at hvt).1
    rw [gStart_at hq e0] at hS
    have ho := teamOk hvt hk
    cases hst : stU (nth ts k) mass m with
    | none =>
      rw [hst] at hS
      unfold stV at hS
      rw [gBack_none e0 hst]
      clear hst e0 hq hg hv hvt
      go_enter Try.func10, Try.ntmps10
      go_wp2_with fail
      refine hS.mono ?_; rintro e w1 ⟨rfl, hx1⟩
      go_wp2
      go_ret2
      exact ⟨rfl, (by repeat (first | (with_reducible exact Ext.refl _) | (with_reducible assumption) | with_reducible refine Ext.drew ?_ | with_reducible refine Ext.alloc ?_ _ | with_reducible refine Ext.setCell ?_ (by first | (simp; done) | (simp; omega) | omega) _ | with_reducible refine Ext.trans ?_ (by with_reducible assumption)))⟩
    | some s =>
      rw [hst] at hS
      unfold stV at hS
      have hsb := stU_bd hmm.1 hmm.2 hst
      obtain ⟨b, off, rfl, hcell⟩ := h (by omega)
      obtain ⟨a1, c1, d0, d1, r1, n1, l1⟩ := teams_at (fun j hj => hcell k hk j hj)
      by_cases hin : m < (nth ts k).legs.length
      · have hlb := ho.leg m hin
        have hTT := legT_in hin
        obtain ⟨b1, o1, rfl, hc1⟩ := r1 (by omega)
        have e1 := hc1 m hin 0 (by decide)
        simp only [ic, Nat.mul_one, Nat.add_zero] at e1
        by_cases hz0 : nth (nth ts k).legs m = 0
        · have hz : (nth (nth ts k).legs m == 0) = true := by simp [hz0]
          have HG := Lib.hid (gBack_less (legs := legs) (mass := mass) (m := m) e0 (by rw [hTT, hz0]; omega))
          rw [e0] at hI
          clear hst e0 hq hg hv hvt hcell h ho hTT hc1 hz0
          go_enter Try.func10, Try.ntmps10
          go_wp2_with fail
          refine hS.mono ?_; rintro e w1 ⟨rfl, hx1⟩
          go_wp2_with fail
          refine (hI _ hx1).mono ?_; rintro e w2 ⟨rfl, hx2⟩
          have hy2 := hx1.trans hx2
          have f0 := hy2.cells d0
          have f1 := hy2.cells d1
          have f2 := hy2.cells e1
          have hb := World.block_lt_of_cell? _ _ f2
          go_wp2
          go_ret2
          exact ⟨by rw [HG.out]; rfl, (by repeat (first | (with_reducible exact Ext.refl _) | (with_reducible assumption) | with_reducible refine Ext.drew ?_ | with_reducible refine Ext.alloc ?_ _ | with_reducible refine Ext.setCell ?_ (by first | (simp; done) | (simp; omega) | omega) _ | with_reducible refine Ext.trans ?_ (by with_reducible assumption)))⟩
        · have hz : (nth (nth ts k).legs m == 0) = false := by simp [hz0]
          have hgb := gBack_at hq e0 hst (by rw [hTT]; omega)
          rw [hTT] at hgb
          have HG := Lib.hid hgb
          rw [e0] at hI
          clear hst e0 hq hg hv hvt hcell h ho hTT hc1 hz0 hgb
          go_enter Try.func10, Try.ntmps10
          go_wp2_with fail
          refine hS.mono ?_; rintro e w1 ⟨rfl, hx1⟩
          go_wp2_with fail
          refine (hI _ hx1).mono ?_; rintro e w2 ⟨rfl, hx2⟩
          have hy2 := hx1.trans hx2
          have f0 := hy2.cells d0
          have f1 := hy2.cells d1
          have f2 := hy2.cells e1
          have hb := World.block_lt_of_cell? _ _ f2
          go_wp2
          go_ret2
          exact ⟨by rw [HG.out]; rfl, (by repeat (first | (with_reducible exact Ext.refl _) | (with_reducible assumption) | with_reducible refine Ext.drew ?_ | with_reducible refine Ext.alloc ?_ _ | with_reducible refine Ext.setCell ?_ (by first | (simp; done) | (simp; omega) | omega) _ | with_reducible refine Ext.trans ?_ (by with_reducible assumption)))⟩
      · have HG := Lib.hid (gBack_less (legs := legs) (mass := mass) (m := m) e0 (by rw [legT_out hin]; omega))
        rw [e0] at hI
        clear hst e0 hq hg hv hvt hcell h ho
        go_enter Try.func10, Try.ntmps10
        go_wp2_with fail
        refine hS.mono ?_; rintro e w1 ⟨rfl, hx1⟩
        go_wp2_with fail
        refine (hI _ hx1).mono ?_; rintro e w2 ⟨rfl, hx2⟩
        have hy2 := hx1.trans hx2
        have f0 := hy2.cells d0
        have f1 := hy2.cells d1
        go_wp2
        go_ret2
        exact ⟨by rw [HG.out]; rfl, (by repeat (first | (with_reducible exact Ext.refl _) | (with_reducible assumption) | with_reducible refine Ext.drew ?_ | with_reducible refine Ext.alloc ?_ _ | with_reducible refine Ext.setCell ?_ (by first | (simp; done) | (simp; omega) | omega) _ | with_reducible refine Ext.trans ?_ (by with_reducible assumption)))⟩

end Go.Proofs.Ytlpogglcbphilaa
