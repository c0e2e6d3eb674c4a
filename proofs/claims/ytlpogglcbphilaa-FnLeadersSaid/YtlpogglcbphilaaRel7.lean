/-
  Proved here: what StartOf, ComesBack and their references return.
  Conditions: the number of teams fits an int.
-/
import Derived.Test.YtlpogglcbphilaaRel6
namespace Go.Proofs.Ytlpogglcbphilaa
open Go.RowKit

theorem spec_l1Least_min {a b : Int} {w : World} :
    Calls Try.prog 68 #[.int .i64 a, .int .i64 b] w fun e w' => e = .returned (.int .i64 (min a b)) ∧ w = w' := by
  by_cases h : a < b
  · rw [show min a b = a by omega]
    go_enter Try.func68, Try.ntmps68
    go_wp2
    go_ret
    exact ⟨rfl, rfl⟩
  · rw [show min a b = b by omega]
    go_enter Try.func68, Try.ntmps68
    go_wp2
    go_ret
    exact ⟨rfl, rfl⟩

theorem stV_none : stV none = .tuple #[.int .i64 0, .bool false] := rfl

set_option maxRecDepth 100000 in
set_option maxHeartbeats 2000000 in
theorem impl_startOf {t : TeamD} {ao : Option Addr} {ac m : Nat} {legs mass : Int} {w : World} (hr : RowAt w ao 1 t.legs.length (ic t.legs)) (hn : t.legs.length ≤ 9223372036854775807) (hm : m ≤ 1000) (hok : TeamOk t legs) (h1 : 1 ≤ mass) (h2 : mass ≤ 40000) :
    Calls Try.prog 41 #[t.val ao ac, .int .i64 mass, .int .i64 m] w fun e w' => e = .returned (stV (stU t mass m)) ∧ Ext w w' := by
  have hw0 : Ext w (w.alloc (Obj.cells #[.int .i64 t.num, .slice ao t.legs.length ac] 51)) := (Ext.refl _).alloc _
  have hT := fun x (hx : Ext w x) k (hk : k ≤ 1000) => impl_legTime (w := x) (t := t) (ac := ac) (m := k) (hr.ext hx) hn hk
  unfold TeamD.val at hT ⊢
  go_enter Try.func41, Try.ntmps41
  go_wp2
  go_loopw [8, 12] (fun s i wr => ∃ (k : Nat) (v : Int), k ≤ m ∧ i = .int .i64 k ∧ s = .int .i64 v ∧ stU t mass k = some v ∧ Ext (w.alloc (Obj.cells #[.int .i64 t.num, .slice ao t.legs.length ac] 51)) wr) (fun _ i _ => m - (intOf i).toNat)
  case atStart => exact ⟨0, 0, Nat.zero_le _, rfl, rfl, rfl, Ext.refl _⟩
  case round =>
    obtain ⟨k, v, hk, rfl, rfl, hst, hx⟩ := hrel
    have hvb := stU_bd h1 h2 hst
    have HST := Lib.hid hst; clear hst
    have f0 : wr.cell? ⟨w.heap.size, 0, none⟩ = some (.int .i64 t.num) := hx.cells (by go_simp)
    have f1 : wr.cell? ⟨w.heap.size, 1, none⟩ = some (.slice ao t.legs.length ac) := hx.cells (by go_simp)
    by_cases hlt : k < m
    · have hTk := hT wr (hw0.trans hx) k (by omega)
      have hlb := legT_bd hok k
      clear hT hr
      by_cases h0 : legT t k = 0
      · have hz : (legT t k == 0) = true := by simp [h0]
        have HN := Lib.hid (stU_none (stU_zero HST.out h0) m (by omega))
        have H0 := Lib.hid h0; clear h0
        go_wp2_with fail
        refine hTk.mono ?_; rintro e w2 ⟨rfl, hx2⟩
        go_wp2
        go_ret2
        exact ⟨by rw [HN.out]; rfl, (by repeat (first | (with_reducible exact Ext.refl _) | (with_reducible assumption) | with_reducible refine Ext.drew ?_ | with_reducible refine Ext.alloc ?_ _ | with_reducible refine Ext.setCell ?_ (by first | (simp; done) | (simp; omega) | omega) _ | with_reducible refine Ext.trans ?_ (by with_reducible assumption)))⟩
      · have hz : (legT t k == 0) = false := by simp [h0]
        by_cases hneg : legT t k < 0
        · have HN := Lib.hid (stU_neg HST.out hneg)
          have H0 := Lib.hid h0; clear h0
          go_wp2_with fail
          refine hTk.mono ?_; rintro e w2 ⟨rfl, hx2⟩
          go_wp2
          go_roundw
          case rel => exact ⟨k + 1, mass, by omega, by go_num, rfl, HN.out, (by repeat (first | (with_reducible exact Ext.refl _) | (with_reducible assumption) | with_reducible refine Ext.drew ?_ | with_reducible refine Ext.alloc ?_ _ | with_reducible refine Ext.setCell ?_ (by first | (simp; done) | (simp; omega) | omega) _ | with_reducible refine Ext.trans ?_ (by with_reducible assumption)))⟩
          case measure => simp [intOf]; omega
        · have HN := Lib.hid (stU_pos HST.out (show 0 < legT t k by omega))
          have H0 := Lib.hid h0; clear h0
          go_wp2_with fail
          refine hTk.mono ?_; rintro e w2 ⟨rfl, hx2⟩
          go_wp2
          go_roundw
          case rel => exact ⟨k + 1, min mass (v + legT t k), by omega, by go_num, by first | rfl | (congr 1; omega), HN.out, (by repeat (first | (with_reducible exact Ext.refl _) | (with_reducible assumption) | with_reducible refine Ext.drew ?_ | with_reducible refine Ext.alloc ?_ _ | with_reducible refine Ext.setCell ?_ (by first | (simp; done) | (simp; omega) | omega) _ | with_reducible refine Ext.trans ?_ (by with_reducible assumption)))⟩
          case measure => simp [intOf]; omega
    · obtain rfl : k = m := by omega
      go_wp2
      go_ret2
      exact ⟨by rw [HST.out]; rfl, (by repeat (first | (with_reducible exact Ext.refl _) | (with_reducible assumption) | with_reducible refine Ext.drew ?_ | with_reducible refine Ext.alloc ?_ _ | with_reducible refine Ext.setCell ?_ (by first | (simp; done) | (simp; omega) | omega) _ | with_reducible refine Ext.trans ?_ (by with_reducible assumption)))⟩

set_option maxRecDepth 100000 in
set_option maxHeartbeats 2000000 in
theorem spec_l16Start {t : TeamD} {ao : Option Addr} {ac m : Nat} {legs mass : Int} {w : World} (hr : RowAt w ao 1 t.legs.length (ic t.legs)) (hm : m ≤ 1000) (hok : TeamOk t legs) (h1 : 1 ≤ mass) (h2 : mass ≤ 40000) :
    Calls Try.prog 46 #[t.val ao ac, .int .i64 mass, .int .i64 m] w fun e w' => e = .returned (stV (stU t mass m)) ∧ Ext w w' := by
  have hw0 : Ext w (w.alloc (Obj.cells #[.int .i64 t.num, .slice ao t.legs.length ac] 51)) := (Ext.refl _).alloc _
  have hol := hok.len
  have ho4 := hok.l4
  unfold TeamD.val
  go_enter Try.func46, Try.ntmps46
  go_wp2
  go_loopw [8, 9] (fun s i wr => ∃ (k : Nat) (v : Int), k ≤ m ∧ i = .int .i64 k ∧ s = .int .i64 v ∧ stU t mass k = some v ∧ Ext (w.alloc (Obj.cells #[.int .i64 t.num, .slice ao t.legs.length ac] 51)) wr) (fun _ i _ => m - (intOf i).toNat)
  case atStart => exact ⟨0, 0, Nat.zero_le _, rfl, rfl, rfl, Ext.refl _⟩
  case round =>
    obtain ⟨k, v, hk, rfl, rfl, hst, hx⟩ := hrel
    have hvb := stU_bd h1 h2 hst
    have HST := Lib.hid hst; clear hst
    have f0 : wr.cell? ⟨w.heap.size, 0, none⟩ = some (.int .i64 t.num) := hx.cells (by go_simp)
    have f1 : wr.cell? ⟨w.heap.size, 1, none⟩ = some (.slice ao t.legs.length ac) := hx.cells (by go_simp)
    by_cases hlt : k < m
    · by_cases hin : k < t.legs.length
      · obtain ⟨b1, o1, rfl, hc1⟩ := hr (by omega)
        have e1 := hx.cells (hw0.cells (hc1 k hin 0 (by decide)))
        simp only [ic, Nat.mul_one, Nat.add_zero] at e1
        have hlb := hok.leg k hin
        have hTT := legT_in hin
        clear hc1 hr
        by_cases h0 : nth t.legs k = 0
        · have hz : (nth t.legs k == 0) = true := by simp [h0]
          have HN := Lib.hid (stU_none (stU_zero HST.out (by rw [hTT]; exact h0)) m (by omega))
          have H0 := Lib.hid h0; clear h0 hTT
          go_wp2
          go_ret2
          exact ⟨by rw [HN.out]; rfl, (by repeat (first | (with_reducible exact Ext.refl _) | (with_reducible assumption) | with_reducible refine Ext.drew ?_ | with_reducible refine Ext.alloc ?_ _ | with_reducible refine Ext.setCell ?_ (by first | (simp; done) | (simp; omega) | omega) _ | with_reducible refine Ext.trans ?_ (by with_reducible assumption)))⟩
        · have hz : (nth t.legs k == 0) = false := by simp [h0]
          have hnx := stU_pos HST.out (show 0 < legT t k by rw [hTT]; omega)
          rw [hTT] at hnx
          have HN := Lib.hid hnx
          have H0 := Lib.hid h0; clear h0 hTT hnx
          go_wp2_with fail
          refine spec_l1Least_min.mono ?_; rintro e w2 ⟨rfl, rfl⟩
          go_wp2
          go_roundw
          case rel => exact ⟨k + 1, min mass (v + nth t.legs k), by omega, by go_num, rfl, HN.out, (by repeat (first | (with_reducible exact Ext.refl _) | (with_reducible assumption) | with_reducible refine Ext.drew ?_ | with_reducible refine Ext.alloc ?_ _ | with_reducible refine Ext.setCell ?_ (by first | (simp; done) | (simp; omega) | omega) _ | with_reducible refine Ext.trans ?_ (by with_reducible assumption)))⟩
          case measure => simp [intOf]; omega
      · have HN := Lib.hid (stU_neg HST.out (show legT t k < 0 by rw [legT_out hin]; omega))
        go_wp2
        go_roundw
        case rel => exact ⟨k + 1, mass, by omega, by go_num, rfl, HN.out, (by repeat (first | (with_reducible exact Ext.refl _) | (with_reducible assumption) | with_reducible refine Ext.drew ?_ | with_reducible refine Ext.alloc ?_ _ | with_reducible refine Ext.setCell ?_ (by first | (simp; done) | (simp; omega) | omega) _ | with_reducible refine Ext.trans ?_ (by with_reducible assumption)))⟩
        case measure => simp [intOf]; omega
    · obtain rfl : k = m := by omega
      go_wp2
      go_ret2
      exact ⟨by rw [HST.out]; rfl, (by repeat (first | (with_reducible exact Ext.refl _) | (with_reducible assumption) | with_reducible refine Ext.drew ?_ | with_reducible refine Ext.alloc ?_ _ | with_reducible refine Ext.setCell ?_ (by first | (simp; done) | (simp; omega) | omega) _ | with_reducible refine Ext.trans ?_ (by with_reducible assumption)))⟩

theorem ask_open {ts : List TeamD} {legs mass number leg : Int} (h : askR ts legs mass number leg = true) : ∃ k m : Nat, relB ts legs mass = true ∧ teamsB ts legs = true ∧ (1 ≤ mass ∧ mass ≤ 40000) ∧ k < ts.length ∧ fdT ts number = (k : Int) ∧ leg = (m : Int) ∧ m ≤ 3 ∧ inB m 0 (legs - 1) = true := by
  simp only [askR, Bool.and_eq_true, decide_eq_true_eq] at h
  obtain ⟨⟨h1, h2⟩, h3⟩ := h
  have hr := h1
  simp only [relB, Bool.and_eq_true, inB_iff] at h1
  have h4 := (teamsB_at h1.1).1
  have h5 := inB_iff.1 h3
  obtain ⟨m, rfl⟩ : ∃ m : Nat, leg = (m : Int) := ⟨leg.toNat, by omega⟩
  rcases idxU_cases (fun k => (nth ts k).num == number) ts.length with ⟨e0, _⟩ | ⟨k, hk, e0, _, _⟩
  · have e0 : fdT ts number = -1 := e0
    omega
  · exact ⟨k, m, hr, h1.1, h1.2, hk, e0, rfl, by omega, h3⟩
theorem gStart_no {ts : List TeamD} {legs mass number leg : Int} (h : askR ts legs mass number leg = false) : gStart ts legs mass number leg = .tuple #[.int .i64 0, .bool false] := by simp [gStart, h, stV]
theorem gStart_at {ts : List TeamD} {legs mass number : Int} {k m : Nat} (h : askR ts legs mass number m = true) (hf : fdT ts number = (k : Int)) : gStart ts legs mass number m = stV (stU (nth ts k) mass m) := by simp [gStart, h, hf]

set_option maxRecDepth 100000 in
set_option maxHeartbeats 2000000 in
theorem impl_StartOf {ao : Option Addr} {cap : Nat} {ts : List TeamD} {legs mass number leg : Int} {w : World} (h : GRow w ao 2 ts.length (tsC ts)) (hn : ts.length ≤ 9223372036854775807) (_h1 : I64 legs) (_h2 : I64 mass) (_h3 : I64 number) (_h4 : I64 leg) :
    Calls Try.prog 7 #[.slice ao ts.length cap, .int .i64 legs, .int .i64 mass, .int .i64 number, .int .i64 leg] w fun e w' => e = .returned (gStart ts legs mass number leg) ∧ Ext w w' := by
  have hI := fun x hx => impl_teamIndex (w := x) (cap := cap) (number := number) (h.ext hx) hn
  have hA := fun x hx => impl_isRelay (w := x) (cap := cap) (legs := legs) (mass := mass) (h.ext hx) hn
  cases hq : askR ts legs mass number leg
  · rw [gStart_no hq]
    cases hv : relB ts legs mass
    · rw [hv] at hA
      clear hq
      go_enter Try.func7, Try.ntmps7
      go_wp2_with fail
      refine (hI _ (Ext.refl _)).mono ?_; rintro e w1 ⟨rfl, hx1⟩
      go_wp2_with fail
      refine (hA _ hx1).mono ?_; rintro e w2 ⟨rfl, hx2⟩
      go_wp2
      go_ret2
      exact ⟨rfl, (by repeat (first | (with_reducible exact Ext.refl _) | (with_reducible assumption) | with_reducible refine Ext.drew ?_ | with_reducible refine Ext.alloc ?_ _ | with_reducible refine Ext.setCell ?_ (by first | (simp; done) | (simp; omega) | omega) _ | with_reducible refine Ext.trans ?_ (by with_reducible assumption)))⟩
    · have hl4 := (teamsB_at (show teamsB ts legs = true by simp only [relB, Bool.and_eq_true] at hv; exact hv.1)).1
      rw [hv] at hA
      rcases idxU_cases (fun k => (nth ts k).num == number) ts.length with ⟨e0, _⟩ | ⟨k, hk, e0, _, _⟩
      · have e0 : fdT ts number = -1 := e0
        rw [e0] at hI
        clear e0 hq
        go_enter Try.func7, Try.ntmps7
        go_wp2_with fail
        refine (hI _ (Ext.refl _)).mono ?_; rintro e w1 ⟨rfl, hx1⟩
        go_wp2_with fail
        refine (hA _ hx1).mono ?_; rintro e w2 ⟨rfl, hx2⟩
        go_wp2
        go_ret2
        exact ⟨rfl, (by repeat (first | (with_reducible exact Ext.refl _) | (with_reducible assumption) | with_reducible refine Ext.drew ?_ | with_reducible refine Ext.alloc ?_ _ | with_reducible refine Ext.setCell ?_ (by first | (simp; done) | (simp; omega) | omega) _ | with_reducible refine Ext.trans ?_ (by with_reducible assumption)))⟩
      · have e0 : fdT ts number = (k : Int) := e0
        have hg : inB leg 0 (legs - 1) = false := by
          cases hg : inB leg 0 (legs - 1)
          · rfl
          · simp [askR, hv, e0, hg] at hq
        rw [e0] at hI
        clear e0 hq
        go_enter Try.func7, Try.ntmps7
        go_wp2_with fail
        refine (hI _ (Ext.refl _)).mono ?_; rintro e w1 ⟨rfl, hx1⟩
        go_wp2_with fail
        refine (hA _ hx1).mono ?_; rintro e w2 ⟨rfl, hx2⟩
        go_wp2_with fail
        refine impl_inside.mono ?_; rw [hg]; rintro e w3 ⟨rfl, rfl⟩
        go_wp2
        go_ret2
        exact ⟨rfl, (by repeat (first | (with_reducible exact Ext.refl _) | (with_reducible assumption) | with_reducible refine Ext.drew ?_ | with_reducible refine Ext.alloc ?_ _ | with_reducible refine Ext.setCell ?_ (by first | (simp; done) | (simp; omega) | omega) _ | with_reducible refine Ext.trans ?_ (by with_reducible assumption)))⟩
  · obtain ⟨k, m, hv, hvt, hmm, hk, e0, rfl, hm, hg⟩ := ask_open hq
    have hl4 := (teamsB_at hvt).1
    rw [gStart_at hq e0]
    have ho := teamOk hvt hk
    rw [hv] at hA
    rw [e0] at hI
    obtain ⟨b, off, rfl, hcell⟩ := h (by omega)
    obtain ⟨a1, c1, d0, d1, r1, n1, l1⟩ := teams_at (fun j hj => hcell k hk j hj)
    have hC := fun x hx => impl_startOf (w := x) (t := nth ts k) (ac := c1) (m := m) (r1.ext hx) n1 (by omega) ho hmm.1 hmm.2
    unfold TeamD.val at hC
    have HG := Lib.hid hg
    clear hcell e0 h hv hvt hq hg
    cases hst : stU (nth ts k) mass m with
    | none =>
      rw [hst] at hC
      unfold stV at hC ⊢
      clear hst
      go_enter Try.func7, Try.ntmps7
      go_wp2_with fail
      refine (hI _ (Ext.refl _)).mono ?_; rintro e w1 ⟨rfl, hx1⟩
      go_wp2_with fail
      refine (hA _ hx1).mono ?_; rintro e w2 ⟨rfl, hx2⟩
      go_wp2_with fail
      refine impl_inside.mono ?_; rw [HG.out]; rintro e w3 ⟨rfl, rfl⟩
      have hy2 := hx1.trans hx2
      have f0 := hy2.cells d0
      have f1 := hy2.cells d1
      go_wp2_with fail
      refine (hC _ hy2).mono ?_; rintro e w3 ⟨rfl, hx3⟩
      go_wp2
      go_ret2
      exact ⟨rfl, (by repeat (first | (with_reducible exact Ext.refl _) | (with_reducible assumption) | with_reducible refine Ext.drew ?_ | with_reducible refine Ext.alloc ?_ _ | with_reducible refine Ext.setCell ?_ (by first | (simp; done) | (simp; omega) | omega) _ | with_reducible refine Ext.trans ?_ (by with_reducible assumption)))⟩
    | some s =>
      rw [hst] at hC
      unfold stV at hC ⊢
      clear hst
      go_enter Try.func7, Try.ntmps7
      go_wp2_with fail
      refine (hI _ (Ext.refl _)).mono ?_; rintro e w1 ⟨rfl, hx1⟩
      go_wp2_with fail
      refine (hA _ hx1).mono ?_; rintro e w2 ⟨rfl, hx2⟩
      go_wp2_with fail
      refine impl_inside.mono ?_; rw [HG.out]; rintro e w3 ⟨rfl, rfl⟩
      have hy2 := hx1.trans hx2
      have f0 := hy2.cells d0
      have f1 := hy2.cells d1
      go_wp2_with fail
      refine (hC _ hy2).mono ?_; rintro e w3 ⟨rfl, hx3⟩
      go_wp2
      go_ret2
      exact ⟨rfl, (by repeat (first | (with_reducible exact Ext.refl _) | (with_reducible assumption) | with_reducible refine Ext.drew ?_ | with_reducible refine Ext.alloc ?_ _ | with_reducible refine Ext.setCell ?_ (by first | (simp; done) | (simp; omega) | omega) _ | with_reducible refine Ext.trans ?_ (by with_reducible assumption)))⟩

set_option maxRecDepth 100000 in
set_option maxHeartbeats 2000000 in
theorem spec_StartOf {ao : Option Addr} {cap : Nat} {ts : List TeamD} {legs mass number leg : Int} {w : World} (h : GRow w ao 2 ts.length (tsC ts)) (hn : ts.length ≤ 9223372036854775807) (_h1 : I64 legs) (_h2 : I64 mass) (_h3 : I64 number) (_h4 : I64 leg) :
    Calls Try.prog 8 #[.slice ao ts.length cap, .int .i64 legs, .int .i64 mass, .int .i64 number, .int .i64 leg] w fun e w' => e = .returned (gStart ts legs mass number leg) ∧ Ext w w' := by
  have hI := fun x hx => spec_l16Find (w := x) (cap := cap) (number := number) (h.ext hx) hn
  have hA := fun x hx => spec_l16Good (w := x) (cap := cap) (legs := legs) (h.ext hx) hn
  cases hq : askR ts legs mass number leg
  · rw [gStart_no hq]
    cases hvt : teamsB ts legs
    · rw [hvt] at hA
      clear hq
      go_enter Try.func8, Try.ntmps8
      go_wp2_with fail
      refine (hI _ (Ext.refl _)).mono ?_; rintro e w1 ⟨rfl, hx1⟩
      go_wp2_with fail
      refine (hA _ hx1).mono ?_; rintro e w2 ⟨rfl, hx2⟩
      go_wp2
      go_ret2
      exact ⟨rfl, (by repeat (first | (with_reducible exact Ext.refl _) | (with_reducible assumption) | with_reducible refine Ext.drew ?_ | with_reducible refine Ext.alloc ?_ _ | with_reducible refine Ext.setCell ?_ (by first | (simp; done) | (simp; omega) | omega) _ | with_reducible refine Ext.trans ?_ (by with_reducible assumption)))⟩
    cases hmm : inB mass 1 40000
    · rw [hvt] at hA
      clear hq
      go_enter Try.func8, Try.ntmps8
      go_wp2_with fail
      refine (hI _ (Ext.refl _)).mono ?_; rintro e w1 ⟨rfl, hx1⟩
      go_wp2_with fail
      refine (hA _ hx1).mono ?_; rintro e w2 ⟨rfl, hx2⟩
      go_wp2_with fail
      refine spec_l16Mass.mono ?_; rw [hmm]; rintro e w3 ⟨rfl, rfl⟩
      go_wp2
      go_ret2
      exact ⟨rfl, (by repeat (first | (with_reducible exact Ext.refl _) | (with_reducible assumption) | with_reducible refine Ext.drew ?_ | with_reducible refine Ext.alloc ?_ _ | with_reducible refine Ext.setCell ?_ (by first | (simp; done) | (simp; omega) | omega) _ | with_reducible refine Ext.trans ?_ (by with_reducible assumption)))⟩
    have hv : relB ts legs mass = true := by simp [relB, hvt, hmm]
    · have hl4 := (teamsB_at hvt).1
      have HM := Lib.hid hmm; clear hmm
      rw [hvt] at hA
      rcases idxU_cases (fun k => (nth ts k).num == number) ts.length with ⟨e0, _⟩ | ⟨k, hk, e0, _, _⟩
      · have e0 : fdT ts number = -1 := e0
        rw [e0] at hI
        clear e0 hq
        go_enter Try.func8, Try.ntmps8
        go_wp2_with fail
        refine (hI _ (Ext.refl _)).mono ?_; rintro e w1 ⟨rfl, hx1⟩
        go_wp2_with fail
        refine (hA _ hx1).mono ?_; rintro e w2 ⟨rfl, hx2⟩
        go_wp2_with fail
        refine spec_l16Mass.mono ?_; rw [HM.out]; rintro e w3 ⟨rfl, rfl⟩
        go_wp2
        go_ret2
        exact ⟨rfl, (by repeat (first | (with_reducible exact Ext.refl _) | (with_reducible assumption) | with_reducible refine Ext.drew ?_ | with_reducible refine Ext.alloc ?_ _ | with_reducible refine Ext.setCell ?_ (by first | (simp; done) | (simp; omega) | omega) _ | with_reducible refine Ext.trans ?_ (by with_reducible assumption)))⟩
      · have e0 : fdT ts number = (k : Int) := e0
        have hg : inB leg 0 (legs - 1) = false := by
          cases hg : inB leg 0 (legs - 1)
          · rfl
          · simp [askR, hv, e0, hg] at hq
        rw [e0] at hI
        clear e0 hq
        go_enter Try.func8, Try.ntmps8
        go_wp2_with fail
        refine (hI _ (Ext.refl _)).mono ?_; rintro e w1 ⟨rfl, hx1⟩
        go_wp2_with fail
        refine (hA _ hx1).mono ?_; rintro e w2 ⟨rfl, hx2⟩
        go_wp2_with fail
        refine spec_l16Mass.mono ?_; rw [HM.out]; rintro e w3 ⟨rfl, rfl⟩
        go_wp2_with fail
        refine spec_l1In.mono ?_; rw [hg]; rintro e w3 ⟨rfl, rfl⟩
        go_wp2
        go_ret2
        exact ⟨rfl, (by repeat (first | (with_reducible exact Ext.refl _) | (with_reducible assumption) | with_reducible refine Ext.drew ?_ | with_reducible refine Ext.alloc ?_ _ | with_reducible refine Ext.setCell ?_ (by first | (simp; done) | (simp; omega) | omega) _ | with_reducible refine Ext.trans ?_ (by with_reducible assumption)))⟩
  · obtain ⟨k, m, hv, hvt, hmm, hk, e0, rfl, hm, hg⟩ := ask_open hq
    have hl4 := (teamsB_at hvt).1
    rw [gStart_at hq e0]
    have ho := teamOk hvt hk
    rw [hvt] at hA
    rw [e0] at hI
    have HM := Lib.hid (inB_iff.2 hmm)
    obtain ⟨b, off, rfl, hcell⟩ := h (by omega)
    obtain ⟨a1, c1, d0, d1, r1, n1, l1⟩ := teams_at (fun j hj => hcell k hk j hj)
    have hC := fun x hx => spec_l16Start (w := x) (t := nth ts k) (ac := c1) (m := m) (r1.ext hx) (by omega) ho hmm.1 hmm.2
    unfold TeamD.val at hC
    have HG := Lib.hid hg
    clear hcell e0 h hv hvt hq hg
    cases hst : stU (nth ts k) mass m with
    | none =>
      rw [hst] at hC
      unfold stV at hC ⊢
      clear hst
      go_enter Try.func8, Try.ntmps8
      go_wp2_with fail
      refine (hI _ (Ext.refl _)).mono ?_; rintro e w1 ⟨rfl, hx1⟩
      go_wp2_with fail
      refine (hA _ hx1).mono ?_; rintro e w2 ⟨rfl, hx2⟩
      go_wp2_with fail
      refine spec_l16Mass.mono ?_; rw [HM.out]; rintro e w3 ⟨rfl, rfl⟩
      go_wp2_with fail
      refine spec_l1In.mono ?_; rw [HG.out]; rintro e w3 ⟨rfl, rfl⟩
      have hy2 := hx1.trans hx2
      have f0 := hy2.cells d0
      have f1 := hy2.cells d1
      go_wp2_with fail
      refine (hC _ hy2).mono ?_; rintro e w3 ⟨rfl, hx3⟩
      go_wp2
      go_ret2
      exact ⟨rfl, (by repeat (first | (with_reducible exact Ext.refl _) | (with_reducible assumption) | with_reducible refine Ext.drew ?_ | with_reducible refine Ext.alloc ?_ _ | with_reducible refine Ext.setCell ?_ (by first | (simp; done) | (simp; omega) | omega) _ | with_reducible refine Ext.trans ?_ (by with_reducible assumption)))⟩
    | some s =>
      rw [hst] at hC
      unfold stV at hC ⊢
      clear hst
      go_enter Try.func8, Try.ntmps8
      go_wp2_with fail
      refine (hI _ (Ext.refl _)).mono ?_; rintro e w1 ⟨rfl, hx1⟩
      go_wp2_with fail
      refine (hA _ hx1).mono ?_; rintro e w2 ⟨rfl, hx2⟩
      go_wp2_with fail
      refine spec_l16Mass.mono ?_; rw [HM.out]; rintro e w3 ⟨rfl, rfl⟩
      go_wp2_with fail
      refine spec_l1In.mono ?_; rw [HG.out]; rintro e w3 ⟨rfl, rfl⟩
      have hy2 := hx1.trans hx2
      have f0 := hy2.cells d0
      have f1 := hy2.cells d1
      go_wp2_with fail
      refine (hC _ hy2).mono ?_; rintro e w3 ⟨rfl, hx3⟩
      go_wp2
      go_ret2
      exact ⟨rfl, (by repeat (first | (with_reducible exact Ext.refl _) | (with_reducible assumption) | with_reducible refine Ext.drew ?_ | with_reducible refine Ext.alloc ?_ _ | with_reducible refine Ext.setCell ?_ (by first | (simp; done) | (simp; omega) | omega) _ | with_reducible refine Ext.trans ?_ (by with_reducible assumption)))⟩

end Go.Proofs.Ytlpogglcbphilaa
