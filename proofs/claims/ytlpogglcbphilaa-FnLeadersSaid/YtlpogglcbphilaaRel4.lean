/-
  Proved here: what LeaderAfter and its reference return.
  Conditions: the number of teams fits an int.
-/
import Derived.Test.YtlpogglcbphilaaRel3
namespace Go.Proofs.Ytlpogglcbphilaa
open Go.RowKit

theorem RowAt.less {w : World} {ao : Option Addr} {s n m : Nat} {c : Nat → Nat → Value} (h : RowAt w ao s n c) (hm : m ≤ n) : RowAt w ao s m c := fun h0 =>
  let ⟨b, off, e, H⟩ := h (by omega)
  ⟨b, off, e, fun k hk => H k (by omega)⟩

theorem impl_sumN {ao : Option Addr} {cap n : Nat} {xs : List Int} {w : World} (h : RowAt w ao 1 n (ic xs)) (hn : n ≤ 9223372036854775807) (hs : ∀ k, k ≤ n → I64 (sumU xs k)) :
    Calls Try.prog 56 #[.slice ao n cap] w fun e w' => e = .returned (.int .i64 (sumU xs n)) ∧ Ext w w' := by
  go_enter Try.func56, Try.ntmps56
  go_wp2
  go_loopw [3, 8] (fun s i wr => ∃ k : Nat, k ≤ n ∧ i = .int .i64 k ∧ s = .int .i64 (sumU xs k) ∧ Ext w wr) (fun _ i _ => n - (intOf i).toNat)
  case atStart => exact ⟨0, Nat.zero_le _, rfl, rfl, Ext.refl _⟩
  case round =>
    obtain ⟨k, hk, rfl, rfl, hx⟩ := hrel
    by_cases hlt : k < n
    · obtain ⟨b, off, rfl, hcell⟩ := h (by omega)
      have d0 := hx.cells (hcell k hlt 0 (by decide))
      simp only [ic, Nat.mul_one, Nat.add_zero] at d0
      have hb := hs (k + 1) (by omega)
      simp only [sumU, I64] at hb
      clear hcell h hs
      go_wp2
      go_roundw
      case rel => exact ⟨k + 1, by omega, by go_num, rfl, (by repeat (first | (with_reducible exact Ext.refl _) | (with_reducible assumption) | with_reducible refine Ext.drew ?_ | with_reducible refine Ext.alloc ?_ _ | with_reducible refine Ext.setCell ?_ (by first | (simp; done) | (simp; omega) | omega) _ | with_reducible refine Ext.trans ?_ (by with_reducible assumption)))⟩
      case measure => simp [intOf]; omega
    · have hkn : k = n := by omega
      subst hkn
      go_wp2
      go_ret
      exact ⟨rfl, (by repeat (first | (with_reducible exact Ext.refl _) | (with_reducible assumption) | with_reducible refine Ext.drew ?_ | with_reducible refine Ext.alloc ?_ _ | with_reducible refine Ext.setCell ?_ (by first | (simp; done) | (simp; omega) | omega) _ | with_reducible refine Ext.trans ?_ (by with_reducible assumption)))⟩

theorem spec_sumN {ao : Option Addr} {cap n : Nat} {xs : List Int} {w : World} (h : RowAt w ao 1 n (ic xs)) (hn : n ≤ 9223372036854775807) (hs : ∀ k, k ≤ n → I64 (sumU xs k)) :
    Calls Try.prog 58 #[.slice ao n cap] w fun e w' => e = .returned (.int .i64 (sumU xs n)) ∧ Ext w w' := by
  go_enter Try.func58, Try.ntmps58
  go_wp2
  go_loopw [3, 4] (fun s i wr => ∃ k : Nat, k ≤ n ∧ i = .int .i64 k ∧ s = .int .i64 (sumU xs k) ∧ Ext w wr) (fun _ i _ => n - (intOf i).toNat)
  case atStart => exact ⟨0, Nat.zero_le _, rfl, rfl, Ext.refl _⟩
  case round =>
    obtain ⟨k, hk, rfl, rfl, hx⟩ := hrel
    by_cases hlt : k < n
    · obtain ⟨b, off, rfl, hcell⟩ := h (by omega)
      have d0 := hx.cells (hcell k hlt 0 (by decide))
      simp only [ic, Nat.mul_one, Nat.add_zero] at d0
      have hb := hs (k + 1) (by omega)
      simp only [sumU, I64] at hb
      clear hcell h hs
      go_wp2
      go_roundw
      case rel => exact ⟨k + 1, by omega, by go_num, rfl, (by repeat (first | (with_reducible exact Ext.refl _) | (with_reducible assumption) | with_reducible refine Ext.drew ?_ | with_reducible refine Ext.alloc ?_ _ | with_reducible refine Ext.setCell ?_ (by first | (simp; done) | (simp; omega) | omega) _ | with_reducible refine Ext.trans ?_ (by with_reducible assumption)))⟩
      case measure => simp [intOf]; omega
    · have hkn : k = n := by omega
      subst hkn
      go_wp2
      go_ret
      exact ⟨rfl, (by repeat (first | (with_reducible exact Ext.refl _) | (with_reducible assumption) | with_reducible refine Ext.drew ?_ | with_reducible refine Ext.alloc ?_ _ | with_reducible refine Ext.setCell ?_ (by first | (simp; done) | (simp; omega) | omega) _ | with_reducible refine Ext.trans ?_ (by with_reducible assumption)))⟩

theorem sum_ok {t : TeamD} {legs : Int} (h : TeamOk t legs) {n : Nat} (hn : n ≤ t.legs.length) : ∀ k, k ≤ n → I64 (sumU t.legs k) := fun k hk => by
  have h1 := sum_bd h k (by omega)
  have h2 := h.len
  have h3 := h.l4
  exact ⟨by omega, by omega⟩

theorem impl_hasRun {t : TeamD} {ao : Option Addr} {ac m : Nat} {w : World} (hr : RowAt w ao 1 t.legs.length (ic t.legs)) (hn : t.legs.length ≤ 9223372036854775807) (hm : m ≤ 1000) :
    Calls Try.prog 59 #[t.val ao ac, .int .i64 m] w fun e w' => e = .returned (.bool (decide (0 < legT t m))) ∧ Ext w w' := by
  have hT := fun x hx => impl_legTime (w := x) (t := t) (ac := ac) (hr.ext hx) hn hm
  obtain ⟨num, l⟩ := t
  dsimp only [TeamD.val] at hr hn hT ⊢
  go_enter Try.func59, Try.ntmps59
  go_wp2_with fail
  refine (hT _ (by repeat (first | (with_reducible exact Ext.refl _) | (with_reducible assumption) | with_reducible refine Ext.drew ?_ | with_reducible refine Ext.alloc ?_ _ | with_reducible refine Ext.setCell ?_ (by first | (simp; done) | (simp; omega) | omega) _ | with_reducible refine Ext.trans ?_ (by with_reducible assumption)))).mono ?_; rintro e w2 ⟨rfl, hx2⟩
  go_wp2
  go_ret
  exact ⟨rfl, (by repeat (first | (with_reducible exact Ext.refl _) | (with_reducible assumption) | with_reducible refine Ext.drew ?_ | with_reducible refine Ext.alloc ?_ _ | with_reducible refine Ext.setCell ?_ (by first | (simp; done) | (simp; omega) | omega) _ | with_reducible refine Ext.trans ?_ (by with_reducible assumption)))⟩

theorem impl_isRelay {ao : Option Addr} {cap : Nat} {ts : List TeamD} {legs mass : Int} {w : World} (h : GRow w ao 2 ts.length (tsC ts)) (hn : ts.length ≤ 9223372036854775807) :
    Calls Try.prog 39 #[.slice ao ts.length cap, .int .i64 legs, .int .i64 mass] w fun e w' => e = .returned (.bool (relB ts legs mass)) ∧ Ext w w' := by
  cases hv : teamsB ts legs
  · go_enter Try.func39, Try.ntmps39
    go_wp2_with fail
    refine (impl_AreTeams h hn).mono ?_; rw [hv]; rintro e w1 ⟨rfl, hx1⟩
    go_wp2
    go_ret
    exact ⟨ret_b (by simp [relB, hv]), (by repeat (first | (with_reducible exact Ext.refl _) | (with_reducible assumption) | with_reducible refine Ext.drew ?_ | with_reducible refine Ext.alloc ?_ _ | with_reducible refine Ext.setCell ?_ (by first | (simp; done) | (simp; omega) | omega) _ | with_reducible refine Ext.trans ?_ (by with_reducible assumption)))⟩
  · go_enter Try.func39, Try.ntmps39
    go_wp2_with fail
    refine (impl_AreTeams h hn).mono ?_; rw [hv]; rintro e w1 ⟨rfl, hx1⟩
    go_wp2_with fail
    refine impl_inside.mono ?_; rintro e w2 ⟨rfl, rfl⟩
    go_wp2
    go_ret
    exact ⟨ret_b (by simp [relB, hv]), (by repeat (first | (with_reducible exact Ext.refl _) | (with_reducible assumption) | with_reducible refine Ext.drew ?_ | with_reducible refine Ext.alloc ?_ _ | with_reducible refine Ext.setCell ?_ (by first | (simp; done) | (simp; omega) | omega) _ | with_reducible refine Ext.trans ?_ (by with_reducible assumption)))⟩

theorem spec_l16Mass {x : Int} {w : World} :
    Calls Try.prog 44 #[.int .i64 x] w fun e w' => e = .returned (.bool (inB x 1 40000)) ∧ w = w' := by
  go_enter Try.func44, Try.ntmps44
  go_wp2_with (go_at_call 45; refine (spec_l1In).mono ?_; rintro e w1 ⟨rfl, rfl⟩)
  go_ret
  exact ⟨rfl, rfl⟩

theorem leadU_bd {ts : List TeamD} {legs : Int} (h : teamsB ts legs = true) {m : Nat} : ∀ k, k ≤ ts.length → -1 ≤ (leadU ts m k).2 ∧ (leadU ts m k).2 ≤ 40000 := by
  intro k
  induction k with
  | zero => intro _; simp [leadU]
  | succ k ih =>
    intro hk
    have hok := teamOk h (show k < ts.length by omega)
    rw [leadU]
    split
    · rename_i hc
      simp only [Bool.and_eq_true, decide_eq_true_eq] at hc
      have hin : m < (nth ts k).legs.length := by
        refine Classical.byContradiction fun hne => ?_
        rw [legT_out hne] at hc
        omega
      have h1 := sum_bd hok (m + 1) (by omega)
      have h2 := hok.len
      have h3 := hok.l4
      simp only
      omega
    · exact ih (by omega)
theorem leadU_no {ts : List TeamD} {m k : Nat} (h : ¬ 0 < legT (nth ts k) m) : leadU ts m (k + 1) = leadU ts m k := by rw [leadU, if_neg (by simp; omega)]
theorem leadU_less {ts : List TeamD} {m k : Nat} (h : 0 < legT (nth ts k) m) (h2 : (leadU ts m k).2 < 0 ∨ sumU (nth ts k).legs (m + 1) < (leadU ts m k).2) : leadU ts m (k + 1) = ((nth ts k).num, sumU (nth ts k).legs (m + 1)) := by
  rw [leadU, if_pos (by simpa [h] using h2)]
theorem leadU_more {ts : List TeamD} {m k : Nat} (h2 : ¬ (leadU ts m k).2 < 0) (h3 : ¬ sumU (nth ts k).legs (m + 1) < (leadU ts m k).2) : leadU ts m (k + 1) = leadU ts m k := by
  rw [leadU, if_neg (by simp; omega)]

set_option maxRecDepth 100000 in
set_option maxHeartbeats 4000000 in
theorem impl_LeaderAfter {ao : Option Addr} {cap : Nat} {ts : List TeamD} {legs mass leg : Int} {w : World} (h : GRow w ao 2 ts.length (tsC ts)) (hn : ts.length ≤ 9223372036854775807) (_h1 : I64 legs) (_h2 : I64 mass) (_h3 : I64 leg) :
    Calls Try.prog 24 #[.slice ao ts.length cap, .int .i64 legs, .int .i64 mass, .int .i64 leg] w fun e w' => e = .returned (gLead ts legs mass leg) ∧ Ext w w' := by
  cases hv : relB ts legs mass
  · have hfin : gLead ts legs mass leg = .tuple #[.int .i64 0, .bool false] := by simp [gLead, hv]
    rw [hfin]; clear hfin
    go_enter Try.func24, Try.ntmps24
    go_wp2_with fail
    refine (impl_isRelay h hn).mono ?_; rw [hv]; rintro e w1 ⟨rfl, hx1⟩
    go_wp2
    go_ret2
    exact ⟨rfl, (by repeat (first | (with_reducible exact Ext.refl _) | (with_reducible assumption) | with_reducible refine Ext.drew ?_ | with_reducible refine Ext.alloc ?_ _ | with_reducible refine Ext.setCell ?_ (by first | (simp; done) | (simp; omega) | omega) _ | with_reducible refine Ext.trans ?_ (by with_reducible assumption)))⟩
  · have hvt : teamsB ts legs = true := by simp only [relB, Bool.and_eq_true] at hv; exact hv.1
    have hl4 := (teamsB_at hvt).1
    cases hg : inB leg 0 (legs - 1)
    · have hfin : gLead ts legs mass leg = .tuple #[.int .i64 0, .bool false] := by simp [gLead, hg]
      rw [hfin]; clear hfin
      go_enter Try.func24, Try.ntmps24
      go_wp2_with fail
      refine (impl_isRelay h hn).mono ?_; rw [hv]; rintro e w1 ⟨rfl, hx1⟩
      go_wp2_with fail
      refine impl_inside.mono ?_; rw [hg]; rintro e w2 ⟨rfl, rfl⟩
      go_wp2
      go_ret2
      exact ⟨rfl, (by repeat (first | (with_reducible exact Ext.refl _) | (with_reducible assumption) | with_reducible refine Ext.drew ?_ | with_reducible refine Ext.alloc ?_ _ | with_reducible refine Ext.setCell ?_ (by first | (simp; done) | (simp; omega) | omega) _ | with_reducible refine Ext.trans ?_ (by with_reducible assumption)))⟩
    · have hgb := inB_iff.1 hg
      obtain ⟨m, rfl⟩ : ∃ m : Nat, leg = m := ⟨leg.toNat, by omega⟩
      have hm4 : m ≤ 1000 := by omega
      have hfin : gLead ts legs mass m = .tuple #[.int .i64 (leadU ts m ts.length).1, .bool (decide (0 ≤ (leadU ts m ts.length).2))] := by simp [gLead, hv, hg]
      have HF := Lib.hid hfin; clear hfin
      have HB := Lib.hid (leadU_bd hvt (m := m))
      have HOK := Lib.hid (fun k (hk : k < ts.length) => teamOk hvt hk)
      have HG := Lib.hid hg; clear hg
      have hA := impl_isRelay (cap := cap) (legs := legs) (mass := mass) h hn
      rw [hv] at hA
      have h8 := (teamsB_at hvt).2.1
      clear hv hvt
      obtain ⟨n, hN⟩ : ∃ n, n = ts.length := ⟨_, rfl⟩
      rw [← hN] at hn h HB HOK HF hA h8 ⊢
      clear hN
      go_enter Try.func24, Try.ntmps24
      go_wp2_with fail
      refine hA.mono ?_; rintro e w1 ⟨rfl, hx1⟩
      go_wp2_with fail
      refine impl_inside.mono ?_; rw [HG.out]; rintro e w2 ⟨rfl, rfl⟩
      clear hA
      go_wp2
      go_loopw [10, 11, 29] (fun b l i wr => ∃ k : Nat, k ≤ n ∧ i = .int .i64 k ∧ b = .int .i64 (leadU ts m k).1 ∧ l = .int .i64 (leadU ts m k).2 ∧ Ext w wr) (fun _ _ i _ => n - (intOf i).toNat)
      case atStart => exact ⟨0, Nat.zero_le _, rfl, rfl, rfl, hx1⟩
      case round =>
        clear hx1
        obtain ⟨k, hk, rfl, rfl, rfl, hx⟩ := hrel
        have hbd := HB.out k hk
        by_cases hlt : k < n
        · obtain ⟨b, off, rfl, hcell⟩ := h (by omega)
          obtain ⟨a1, c1, d0, d1, r1, n1, l1⟩ := teams_at (fun j hj => (hcell k hlt j hj).ext hx)
          have hT := fun x (hX : Ext wr x) => impl_hasRun (w := x) (t := nth ts k) (ac := c1) (r1.ext hX) n1 hm4
          unfold TeamD.val at hT
          have ho := HOK.out k hlt
          clear hcell h
          by_cases hp : 0 < legT (nth ts k) m
          · have hin : m < (nth ts k).legs.length := by
              refine Classical.byContradiction fun hne => ?_
              rw [legT_out hne] at hp
              omega
            have hsum := fun x (hX : Ext wr x) => impl_sumN (w := x) (cap := c1) ((r1.ext hX).less (show m + 1 ≤ (nth ts k).legs.length by omega)) (by omega) (sum_ok ho (by omega))
            have hsb := sum_bd ho (m + 1) (by omega)
            have hol := ho.len
            obtain ⟨b1, o1, rfl, _⟩ := r1 (by omega)
            have hpd : decide (0 < legT (nth ts k) m) = true := by simpa using hp
            have hle : m + 1 ≤ c1 := by omega
            rw [hpd] at hT
            clear ho hpd
            by_cases hq : (leadU ts m k).2 < 0
            · have HN := Lib.hid (leadU_less hp (.inl hq))
              clear hp
              go_wp2_with fail
              refine (hT _ (by repeat (first | (with_reducible exact Ext.refl _) | (with_reducible assumption) | with_reducible refine Ext.drew ?_ | with_reducible refine Ext.alloc ?_ _ | with_reducible refine Ext.setCell ?_ (by first | (simp; done) | (simp; omega) | omega) _ | with_reducible refine Ext.trans ?_ (by with_reducible assumption)))).mono ?_; rintro e w2 ⟨rfl, hx2⟩
              have f0 : w2.cell? ⟨wr.heap.size, 0, none⟩ = some (.int .i64 (nth ts k).num) := hx2.cells (by go_simp)
              have f1 : w2.cell? ⟨wr.heap.size, 1, none⟩ = some (.slice (some ⟨b1, o1, none⟩) (nth ts k).legs.length c1) := hx2.cells (by go_simp)
              go_wp2_with fail
              refine (hsum _ (by repeat (first | (with_reducible exact Ext.refl _) | (with_reducible assumption) | with_reducible refine Ext.drew ?_ | with_reducible refine Ext.alloc ?_ _ | with_reducible refine Ext.setCell ?_ (by first | (simp; done) | (simp; omega) | omega) _ | with_reducible refine Ext.trans ?_ (by with_reducible assumption)))).mono ?_; rintro e w3 ⟨rfl, hx3⟩
              have f0' := hx3.cells f0
              go_wp2
              go_roundw
              case rel => exact ⟨k + 1, by omega, by go_num, by rw [HN.out]; try rfl, by rw [HN.out]; try rfl, (by repeat (first | (with_reducible exact Ext.refl _) | (with_reducible assumption) | with_reducible refine Ext.drew ?_ | with_reducible refine Ext.alloc ?_ _ | with_reducible refine Ext.setCell ?_ (by first | (simp; done) | (simp; omega) | omega) _ | with_reducible refine Ext.trans ?_ (by with_reducible assumption)))⟩
              case measure => simp [intOf]; omega
            · by_cases hr : sumU (nth ts k).legs (m + 1) < (leadU ts m k).2
              · have HN := Lib.hid (leadU_less hp (.inr hr))
                clear hp
                go_wp2_with fail
                refine (hT _ (by repeat (first | (with_reducible exact Ext.refl _) | (with_reducible assumption) | with_reducible refine Ext.drew ?_ | with_reducible refine Ext.alloc ?_ _ | with_reducible refine Ext.setCell ?_ (by first | (simp; done) | (simp; omega) | omega) _ | with_reducible refine Ext.trans ?_ (by with_reducible assumption)))).mono ?_; rintro e w2 ⟨rfl, hx2⟩
                have f0 : w2.cell? ⟨wr.heap.size, 0, none⟩ = some (.int .i64 (nth ts k).num) := hx2.cells (by go_simp)
                have f1 : w2.cell? ⟨wr.heap.size, 1, none⟩ = some (.slice (some ⟨b1, o1, none⟩) (nth ts k).legs.length c1) := hx2.cells (by go_simp)
                go_wp2_with fail
                refine (hsum _ (by repeat (first | (with_reducible exact Ext.refl _) | (with_reducible assumption) | with_reducible refine Ext.drew ?_ | with_reducible refine Ext.alloc ?_ _ | with_reducible refine Ext.setCell ?_ (by first | (simp; done) | (simp; omega) | omega) _ | with_reducible refine Ext.trans ?_ (by with_reducible assumption)))).mono ?_; rintro e w3 ⟨rfl, hx3⟩
                have f0' := hx3.cells f0
                go_wp2
                go_roundw
                case rel => exact ⟨k + 1, by omega, by go_num, by rw [HN.out]; try rfl, by rw [HN.out]; try rfl, (by repeat (first | (with_reducible exact Ext.refl _) | (with_reducible assumption) | with_reducible refine Ext.drew ?_ | with_reducible refine Ext.alloc ?_ _ | with_reducible refine Ext.setCell ?_ (by first | (simp; done) | (simp; omega) | omega) _ | with_reducible refine Ext.trans ?_ (by with_reducible assumption)))⟩
                case measure => simp [intOf]; omega
              · have HN := Lib.hid (leadU_more hq hr)
                clear hp
                go_wp2_with fail
                refine (hT _ (by repeat (first | (with_reducible exact Ext.refl _) | (with_reducible assumption) | with_reducible refine Ext.drew ?_ | with_reducible refine Ext.alloc ?_ _ | with_reducible refine Ext.setCell ?_ (by first | (simp; done) | (simp; omega) | omega) _ | with_reducible refine Ext.trans ?_ (by with_reducible assumption)))).mono ?_; rintro e w2 ⟨rfl, hx2⟩
                have f1 : w2.cell? ⟨wr.heap.size, 1, none⟩ = some (.slice (some ⟨b1, o1, none⟩) (nth ts k).legs.length c1) := hx2.cells (by go_simp)
                go_wp2_with fail
                refine (hsum _ (by repeat (first | (with_reducible exact Ext.refl _) | (with_reducible assumption) | with_reducible refine Ext.drew ?_ | with_reducible refine Ext.alloc ?_ _ | with_reducible refine Ext.setCell ?_ (by first | (simp; done) | (simp; omega) | omega) _ | with_reducible refine Ext.trans ?_ (by with_reducible assumption)))).mono ?_; rintro e w3 ⟨rfl, hx3⟩
                go_wp2
                go_roundw
                case rel => exact ⟨k + 1, by omega, by go_num, by rw [HN.out], by rw [HN.out], (by repeat (first | (with_reducible exact Ext.refl _) | (with_reducible assumption) | with_reducible refine Ext.drew ?_ | with_reducible refine Ext.alloc ?_ _ | with_reducible refine Ext.setCell ?_ (by first | (simp; done) | (simp; omega) | omega) _ | with_reducible refine Ext.trans ?_ (by with_reducible assumption)))⟩
                case measure => simp [intOf]; omega
          · have HN := Lib.hid (leadU_no hp)
            have hpd : decide (0 < legT (nth ts k) m) = false := by simpa using hp
            rw [hpd] at hT
            clear hp hpd ho
            go_wp2_with fail
            refine (hT _ (by repeat (first | (with_reducible exact Ext.refl _) | (with_reducible assumption) | with_reducible refine Ext.drew ?_ | with_reducible refine Ext.alloc ?_ _ | with_reducible refine Ext.setCell ?_ (by first | (simp; done) | (simp; omega) | omega) _ | with_reducible refine Ext.trans ?_ (by with_reducible assumption)))).mono ?_; rintro e w2 ⟨rfl, hx2⟩
            go_wp2
            go_roundw
            case rel => exact ⟨k + 1, by omega, by go_num, by rw [HN.out], by rw [HN.out], (by repeat (first | (with_reducible exact Ext.refl _) | (with_reducible assumption) | with_reducible refine Ext.drew ?_ | with_reducible refine Ext.alloc ?_ _ | with_reducible refine Ext.setCell ?_ (by first | (simp; done) | (simp; omega) | omega) _ | with_reducible refine Ext.trans ?_ (by with_reducible assumption)))⟩
            case measure => simp [intOf]; omega
        · obtain rfl : k = n := by omega
          go_wp2
          go_ret2
          exact ⟨by rw [HF.out]; rfl, (by repeat (first | (with_reducible exact Ext.refl _) | (with_reducible assumption) | with_reducible refine Ext.drew ?_ | with_reducible refine Ext.alloc ?_ _ | with_reducible refine Ext.setCell ?_ (by first | (simp; done) | (simp; omega) | omega) _ | with_reducible refine Ext.trans ?_ (by with_reducible assumption)))⟩

set_option maxRecDepth 100000 in
set_option maxHeartbeats 4000000 in
theorem spec_LeaderAfter {ao : Option Addr} {cap : Nat} {ts : List TeamD} {legs mass leg : Int} {w : World} (h : GRow w ao 2 ts.length (tsC ts)) (hn : ts.length ≤ 9223372036854775807) (_h1 : I64 legs) (_h2 : I64 mass) (_h3 : I64 leg) :
    Calls Try.prog 25 #[.slice ao ts.length cap, .int .i64 legs, .int .i64 mass, .int .i64 leg] w fun e w' => e = .returned (gLead ts legs mass leg) ∧ Ext w w' := by
  cases hvt : teamsB ts legs
  · have hfin : gLead ts legs mass leg = .tuple #[.int .i64 0, .bool false] := by simp [gLead, relB, hvt]
    rw [hfin]; clear hfin
    go_enter Try.func25, Try.ntmps25
    go_wp2_with fail
    refine (spec_l16Good h hn).mono ?_; rw [hvt]; rintro e w1 ⟨rfl, hx1⟩
    go_wp2
    go_ret2
    exact ⟨rfl, (by repeat (first | (with_reducible exact Ext.refl _) | (with_reducible assumption) | with_reducible refine Ext.drew ?_ | with_reducible refine Ext.alloc ?_ _ | with_reducible refine Ext.setCell ?_ (by first | (simp; done) | (simp; omega) | omega) _ | with_reducible refine Ext.trans ?_ (by with_reducible assumption)))⟩
  · have hl4 := (teamsB_at hvt).1
    cases hmm : inB mass 1 40000
    · have hfin : gLead ts legs mass leg = .tuple #[.int .i64 0, .bool false] := by simp [gLead, relB, hmm]
      rw [hfin]; clear hfin
      go_enter Try.func25, Try.ntmps25
      go_wp2_with fail
      refine (spec_l16Good h hn).mono ?_; rw [hvt]; rintro e w1 ⟨rfl, hx1⟩
      go_wp2_with fail
      refine spec_l16Mass.mono ?_; rw [hmm]; rintro e w2 ⟨rfl, rfl⟩
      go_wp2
      go_ret2
      exact ⟨rfl, (by repeat (first | (with_reducible exact Ext.refl _) | (with_reducible assumption) | with_reducible refine Ext.drew ?_ | with_reducible refine Ext.alloc ?_ _ | with_reducible refine Ext.setCell ?_ (by first | (simp; done) | (simp; omega) | omega) _ | with_reducible refine Ext.trans ?_ (by with_reducible assumption)))⟩
    have hv : relB ts legs mass = true := by simp [relB, hvt, hmm]
    have HMM := Lib.hid hmm; clear hmm
    cases hg : inB leg 0 (legs - 1)
    · have hfin : gLead ts legs mass leg = .tuple #[.int .i64 0, .bool false] := by simp [gLead, hg]
      rw [hfin]; clear hfin
      go_enter Try.func25, Try.ntmps25
      go_wp2_with fail
      refine (spec_l16Good h hn).mono ?_; rw [hvt]; rintro e w1 ⟨rfl, hx1⟩
      go_wp2_with fail
      refine spec_l16Mass.mono ?_; rw [HMM.out]; rintro e w2 ⟨rfl, rfl⟩
      go_wp2_with fail
      refine spec_l1In.mono ?_; rw [hg]; rintro e w2 ⟨rfl, rfl⟩
      go_wp2
      go_ret2
      exact ⟨rfl, (by repeat (first | (with_reducible exact Ext.refl _) | (with_reducible assumption) | with_reducible refine Ext.drew ?_ | with_reducible refine Ext.alloc ?_ _ | with_reducible refine Ext.setCell ?_ (by first | (simp; done) | (simp; omega) | omega) _ | with_reducible refine Ext.trans ?_ (by with_reducible assumption)))⟩
    · have hgb := inB_iff.1 hg
      obtain ⟨m, rfl⟩ : ∃ m : Nat, leg = m := ⟨leg.toNat, by omega⟩
      have hm4 : m ≤ 1000 := by omega
      have hfin : gLead ts legs mass m = .tuple #[.int .i64 (leadU ts m ts.length).1, .bool (decide (0 ≤ (leadU ts m ts.length).2))] := by simp [gLead, hv, hg]
      have HF := Lib.hid hfin; clear hfin
      have HB := Lib.hid (leadU_bd hvt (m := m))
      have HOK := Lib.hid (fun k (hk : k < ts.length) => teamOk hvt hk)
      have HG := Lib.hid hg; clear hg
      have hA := spec_l16Good (cap := cap) (legs := legs) h hn
      rw [hvt] at hA
      have h8 := (teamsB_at hvt).2.1
      clear hv hvt
      obtain ⟨n, hN⟩ : ∃ n, n = ts.length := ⟨_, rfl⟩
      rw [← hN] at hn h HB HOK HF hA h8 ⊢
      clear hN
      go_enter Try.func25, Try.ntmps25
      go_wp2_with fail
      refine hA.mono ?_; rintro e w1 ⟨rfl, hx1⟩
      go_wp2_with fail
      refine spec_l16Mass.mono ?_; rw [HMM.out]; rintro e w2 ⟨rfl, rfl⟩
      go_wp2_with fail
      refine spec_l1In.mono ?_; rw [HG.out]; rintro e w2 ⟨rfl, rfl⟩
      clear hA
      go_wp2
      go_loopw [10, 11, 12] (fun b l i wr => ∃ k : Nat, k ≤ n ∧ i = .int .i64 k ∧ b = .int .i64 (leadU ts m k).1 ∧ l = .int .i64 (leadU ts m k).2 ∧ Ext w wr) (fun _ _ i _ => n - (intOf i).toNat)
      case atStart => exact ⟨0, Nat.zero_le _, rfl, rfl, rfl, hx1⟩
      case round =>
        clear hx1
        obtain ⟨k, hk, rfl, rfl, rfl, hx⟩ := hrel
        have hbd := HB.out k hk
        by_cases hlt : k < n
        · obtain ⟨b, off, rfl, hcell⟩ := h (by omega)
          obtain ⟨a1, c1, d0, d1, r1, n1, l1⟩ := teams_at (fun j hj => (hcell k hlt j hj).ext hx)
          have ho := HOK.out k hlt
          clear hcell h
          by_cases hin : m < (nth ts k).legs.length
          · have hsum := fun x (hX : Ext wr x) => spec_sumN (w := x) (cap := c1) ((r1.ext hX).less (show m + 1 ≤ (nth ts k).legs.length by omega)) (by omega) (sum_ok ho (by omega))
            have hsb := sum_bd ho (m + 1) (by omega)
            have hol := ho.len
            have hlb := ho.leg m hin
            have hTT := legT_in hin
            obtain ⟨b1, o1, rfl, hc1⟩ := r1 (by omega)
            have e1 := hc1 m hin 0 (by decide)
            simp only [ic, Nat.mul_one, Nat.add_zero] at e1
            have hle : m + 1 ≤ c1 := by omega
            clear ho hc1
            by_cases hz0 : nth (nth ts k).legs m = 0
            · have hz : (nth (nth ts k).legs m == 0) = true := by simp [hz0]
              have HN := Lib.hid (leadU_no (ts := ts) (m := m) (k := k) (by rw [hTT]; omega))
              clear hTT hsum
              have HZ := Lib.hid hz0; clear hz0
              go_wp2
              go_roundw
              case rel => exact ⟨k + 1, by omega, by go_num, by rw [HN.out], by rw [HN.out], (by repeat (first | (with_reducible exact Ext.refl _) | (with_reducible assumption) | with_reducible refine Ext.drew ?_ | with_reducible refine Ext.alloc ?_ _ | with_reducible refine Ext.setCell ?_ (by first | (simp; done) | (simp; omega) | omega) _ | with_reducible refine Ext.trans ?_ (by with_reducible assumption)))⟩
              case measure => simp [intOf]; omega
            · have hz : (nth (nth ts k).legs m == 0) = false := by simp [hz0]
              have hp : 0 < legT (nth ts k) m := by rw [hTT]; omega
              have HZ := Lib.hid hz0; clear hz0 hTT
              by_cases hq : (leadU ts m k).2 < 0
              · have HN := Lib.hid (leadU_less hp (.inl hq))
                clear hp
                go_wp2_with fail
                refine (hsum _ (by repeat (first | (with_reducible exact Ext.refl _) | (with_reducible assumption) | with_reducible refine Ext.drew ?_ | with_reducible refine Ext.alloc ?_ _ | with_reducible refine Ext.setCell ?_ (by first | (simp; done) | (simp; omega) | omega) _ | with_reducible refine Ext.trans ?_ (by with_reducible assumption)))).mono ?_; rintro e w3 ⟨rfl, hx3⟩
                have f0 := hx3.cells d0
                go_wp2
                go_roundw
                case rel => exact ⟨k + 1, by omega, by go_num, by rw [HN.out]; try rfl, by rw [HN.out]; try rfl, (by repeat (first | (with_reducible exact Ext.refl _) | (with_reducible assumption) | with_reducible refine Ext.drew ?_ | with_reducible refine Ext.alloc ?_ _ | with_reducible refine Ext.setCell ?_ (by first | (simp; done) | (simp; omega) | omega) _ | with_reducible refine Ext.trans ?_ (by with_reducible assumption)))⟩
                case measure => simp [intOf]; omega
              · by_cases hr : sumU (nth ts k).legs (m + 1) < (leadU ts m k).2
                · have HN := Lib.hid (leadU_less hp (.inr hr))
                  clear hp
                  go_wp2_with fail
                  refine (hsum _ (by repeat (first | (with_reducible exact Ext.refl _) | (with_reducible assumption) | with_reducible refine Ext.drew ?_ | with_reducible refine Ext.alloc ?_ _ | with_reducible refine Ext.setCell ?_ (by first | (simp; done) | (simp; omega) | omega) _ | with_reducible refine Ext.trans ?_ (by with_reducible assumption)))).mono ?_; rintro e w3 ⟨rfl, hx3⟩
                  have f0 := hx3.cells d0
                  go_wp2
                  go_roundw
                  case rel => exact ⟨k + 1, by omega, by go_num, by rw [HN.out]; try rfl, by rw [HN.out]; try rfl, (by repeat (first | (with_reducible exact Ext.refl _) | (with_reducible assumption) | with_reducible refine Ext.drew ?_ | with_reducible refine Ext.alloc ?_ _ | with_reducible refine Ext.setCell ?_ (by first | (simp; done) | (simp; omega) | omega) _ | with_reducible refine Ext.trans ?_ (by with_reducible assumption)))⟩
                  case measure => simp [intOf]; omega
                · have HN := Lib.hid (leadU_more hq hr)
                  clear hp
                  go_wp2_with fail
                  refine (hsum _ (by repeat (first | (with_reducible exact Ext.refl _) | (with_reducible assumption) | with_reducible refine Ext.drew ?_ | with_reducible refine Ext.alloc ?_ _ | with_reducible refine Ext.setCell ?_ (by first | (simp; done) | (simp; omega) | omega) _ | with_reducible refine Ext.trans ?_ (by with_reducible assumption)))).mono ?_; rintro e w3 ⟨rfl, hx3⟩
                  go_wp2
                  go_roundw
                  case rel => exact ⟨k + 1, by omega, by go_num, by rw [HN.out], by rw [HN.out], (by repeat (first | (with_reducible exact Ext.refl _) | (with_reducible assumption) | with_reducible refine Ext.drew ?_ | with_reducible refine Ext.alloc ?_ _ | with_reducible refine Ext.setCell ?_ (by first | (simp; done) | (simp; omega) | omega) _ | with_reducible refine Ext.trans ?_ (by with_reducible assumption)))⟩
                  case measure => simp [intOf]; omega
          · have HN := Lib.hid (leadU_no (ts := ts) (m := m) (k := k) (by rw [legT_out hin]; omega))
            clear ho
            go_wp2
            go_roundw
            case rel => exact ⟨k + 1, by omega, by go_num, by rw [HN.out], by rw [HN.out], (by repeat (first | (with_reducible exact Ext.refl _) | (with_reducible assumption) | with_reducible refine Ext.drew ?_ | with_reducible refine Ext.alloc ?_ _ | with_reducible refine Ext.setCell ?_ (by first | (simp; done) | (simp; omega) | omega) _ | with_reducible refine Ext.trans ?_ (by with_reducible assumption)))⟩
            case measure => simp [intOf]; omega
        · obtain rfl : k = n := by omega
          go_wp2
          go_ret2
          exact ⟨by rw [HF.out]; rfl, (by repeat (first | (with_reducible exact Ext.refl _) | (with_reducible assumption) | with_reducible refine Ext.drew ?_ | with_reducible refine Ext.alloc ?_ _ | with_reducible refine Ext.setCell ?_ (by first | (simp; done) | (simp; omega) | omega) _ | with_reducible refine Ext.trans ?_ (by with_reducible assumption)))⟩

end Go.Proofs.Ytlpogglcbphilaa
