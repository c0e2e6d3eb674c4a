/-
  Proved here: what the reference of MassStarters returns.
  Conditions: the number of teams fits an int.
-/
import Derived.Test.YtlpogglcbphilaaRel9
namespace Go.Proofs.Ytlpogglcbphilaa
open Go.RowKit

set_option maxRecDepth 100000 in
set_option maxHeartbeats 4000000 in
theorem spec_MassStarters {ao : Option Addr} {cap : Nat} {ts : List TeamD} {legs mass : Int} {w : World} (h : GRow w ao 2 ts.length (tsC ts)) (hn : ts.length ≤ 9223372036854775807) (_h1 : I64 legs) (_h2 : I64 mass) :
    Calls Try.prog 21 #[.slice ao ts.length cap, .int .i64 legs, .int .i64 mass] w fun e w' => ∃ bo bc, e = .returned (.tuple #[.slice bo (msL ts legs mass).length bc, .bool (relB ts legs mass)]) ∧ Ext w w' ∧ FreshAt w.heap.size w' bo 2 (msL ts legs mass).length (fun k => (nth (msL ts legs mass) k).c) := by
  obtain ⟨i0, hi, hz0, hz1, hz2⟩ := info_parts infoA2
  have hst0 : Owns (w.alloc (.cells #[] 43)) w.heap.size 43 2 Par.c (.slice (some ⟨w.heap.size, 0, none⟩) 0 0) ([] : List Par) := Owns.start (Ext.refl _)
  cases hv : relB ts legs mass
  · have hL : msL ts legs mass = [] := by simp [msL, hv]
    rw [hL]; clear hL
    cases hvt : teamsB ts legs
    · go_enter Try.func21, Try.ntmps21
      go_wp2_with fail
      refine (spec_l16Good (h.ext (by repeat (first | (with_reducible exact Ext.refl _) | (with_reducible assumption) | with_reducible refine Ext.drew ?_ | with_reducible refine Ext.alloc ?_ _ | with_reducible refine Ext.setCell ?_ (by first | (simp; done) | (simp; omega) | omega) _ | with_reducible refine Ext.trans ?_ (by with_reducible assumption)))) hn).mono ?_; rw [hvt]; rintro e w1 ⟨rfl, hx1⟩
      go_wp2
      go_ret2
      exact ⟨_, _, rfl, (by repeat (first | (with_reducible exact Ext.refl _) | (with_reducible assumption) | with_reducible refine Ext.drew ?_ | with_reducible refine Ext.alloc ?_ _ | with_reducible refine Ext.setCell ?_ (by first | (simp; done) | (simp; omega) | omega) _ | with_reducible refine Ext.trans ?_ (by with_reducible assumption))), (hst0.kept hx1).fresh0⟩
    · have hmm : inB mass 1 40000 = false := by
        cases e : inB mass 1 40000
        · rfl
        · simp [relB, hvt, e] at hv
      go_enter Try.func21, Try.ntmps21
      go_wp2_with fail
      refine (spec_l16Good (h.ext (by repeat (first | (with_reducible exact Ext.refl _) | (with_reducible assumption) | with_reducible refine Ext.drew ?_ | with_reducible refine Ext.alloc ?_ _ | with_reducible refine Ext.setCell ?_ (by first | (simp; done) | (simp; omega) | omega) _ | with_reducible refine Ext.trans ?_ (by with_reducible assumption)))) hn).mono ?_; rw [hvt]; rintro e w1 ⟨rfl, hx1⟩
      go_wp2_with fail
      refine spec_l16Mass.mono ?_; rw [hmm]; rintro e w2 ⟨rfl, rfl⟩
      go_wp2
      go_ret2
      exact ⟨_, _, rfl, (by repeat (first | (with_reducible exact Ext.refl _) | (with_reducible assumption) | with_reducible refine Ext.drew ?_ | with_reducible refine Ext.alloc ?_ _ | with_reducible refine Ext.setCell ?_ (by first | (simp; done) | (simp; omega) | omega) _ | with_reducible refine Ext.trans ?_ (by with_reducible assumption))), (hst0.kept hx1).fresh0⟩
  · have hL : msL ts legs mass = msA ts mass (legs - 1).toNat ts.length := by simp [msL, hv]
    have hvt : teamsB ts legs = true := by simp only [relB, Bool.and_eq_true] at hv; exact hv.1
    have hmb : inB mass 1 40000 = true := by simp only [relB, Bool.and_eq_true] at hv; exact hv.2
    have hmm := inB_iff.1 hmb
    have hl4 := (teamsB_at hvt).1
    have h8 := (teamsB_at hvt).2.1
    obtain ⟨m, rfl⟩ : ∃ m : Nat, legs = (m : Int) + 1 := ⟨(legs - 1).toNat, by omega⟩
    rw [show ((m : Int) + 1 - 1).toNat = m by omega] at hL
    rw [hL]
    have HOK := Lib.hid (fun k (hk : k < ts.length) => teamOk hvt hk)
    have hA := fun x hx => spec_l16Good (w := x) (cap := cap) (legs := (m : Int) + 1) (h.ext hx) hn
    rw [hvt] at hA
    have HM := Lib.hid hmb
    clear hL hv hvt hmb
    obtain ⟨n, hN⟩ : ∃ n, n = ts.length := ⟨_, rfl⟩
    rw [← hN] at hn h HOK hA h8 ⊢
    clear hN
    go_enter Try.func21, Try.ntmps21
    go_wp2_with fail
    refine (hA _ (by repeat (first | (with_reducible exact Ext.refl _) | (with_reducible assumption) | with_reducible refine Ext.drew ?_ | with_reducible refine Ext.alloc ?_ _ | with_reducible refine Ext.setCell ?_ (by first | (simp; done) | (simp; omega) | omega) _ | with_reducible refine Ext.trans ?_ (by with_reducible assumption)))).mono ?_; rintro e w1 ⟨rfl, hx1⟩
    go_wp2_with fail
    refine spec_l16Mass.mono ?_; rw [HM.out]; rintro e w2 ⟨rfl, rfl⟩
    clear hA
    have hst := hst0.kept hx1
    have hx2 : Ext w w1 := Ext.trans (by repeat (first | (with_reducible exact Ext.refl _) | (with_reducible assumption) | with_reducible refine Ext.drew ?_ | with_reducible refine Ext.alloc ?_ _ | with_reducible refine Ext.setCell ?_ (by first | (simp; done) | (simp; omega) | omega) _ | with_reducible refine Ext.trans ?_ (by with_reducible assumption))) hx1
    clear hx1 hst0
    go_wp2
    go_loopw [8, 9] (fun v i wr => ∃ k : Nat, k ≤ n ∧ i = .int .i64 k ∧ Ext w wr ∧ Owns wr w.heap.size 43 2 Par.c v (msA ts mass m k)) (fun _ i _ => n - (intOf i).toNat)
    case atStart => exact ⟨0, Nat.zero_le _, rfl, hx2, hst⟩
    case round =>
      clear hx2 hst
      obtain ⟨k, hk, rfl, hx, hown⟩ := hrel
      by_cases hlt : k < n
      · obtain ⟨b, off, rfl, hcell⟩ := h (by omega)
        obtain ⟨a1, c1, d0, d1, r1, n1, l1⟩ := teams_at (fun j hj => hcell k hlt j hj)
        have ho := HOK.out k hlt
        have hlenA := msA_len ts mass m k
        have hmk : m * k ≤ 3 * 8 := Nat.mul_le_mul (by omega) (by omega)
        have hol := ho.len
        clear hcell h
        obtain ⟨wo, rfl⟩ : ∃ wo : World, wo = wr := ⟨_, rfl⟩
        go_wp2
        go_loopw [8, 10] (fun v i wi => ∃ q : Nat, q ≤ m ∧ i = .int .i64 ((q : Int) + 1) ∧ Ext w wi ∧ Owns wi w.heap.size 43 2 Par.c v (msA ts mass m k ++ msU (nth ts k) mass q)) (fun _ i _ => m + 1 - (intOf i).toNat)
        case atStart => exact ⟨0, Nat.zero_le _, by go_num, hx, by simpa [msU] using hown⟩
        case round =>
          clear hx hown
          obtain ⟨q, hq, rfl, hX, hown⟩ := hrel
          have hlenU := msU_len (nth ts k) mass q
          by_cases hql : q < m
          · have hS1 := spec_l16Start (w := wr) (t := nth ts k) (ac := c1) (m := q) (r1.ext hX) (by omega) ho hmm.1 hmm.2
            have hS2 := fun x (hx : Ext wr x) => spec_l16Start (w := x) (t := nth ts k) (ac := c1) (m := q + 1) ((r1.ext hX).ext hx) (by omega) ho hmm.1 hmm.2
            rw [show ((q + 1 : Nat) : Int) = (q : Int) + 1 by omega] at hS2
            unfold TeamD.val at hS1 hS2
            have e0 := hX.cells d0
            have e1 := hX.cells d1
            cases hst : stU (nth ts k) mass q with
            | none =>
              rw [hst] at hS1
              rw [stU_none hst (q + 1) (by omega)] at hS2
              unfold stV at hS1 hS2
              have HN := Lib.hid (msU_stop (t := nth ts k) (mass := mass) (q := q) (stU_none hst (q + 1) (by omega)) m (by omega))
              clear hst
              go_wp2_with fail
              refine hS1.mono ?_; rintro e w2 ⟨rfl, hx2⟩
              have e0' := hx2.cells e0
              have e1' := hx2.cells e1
              go_wp2_with fail
              refine (hS2 _ hx2).mono ?_; rintro e w3 ⟨rfl, hx3⟩
              go_wp2
              go_roundw
              case rel => exact ⟨k + 1, by omega, by go_num, (by repeat (first | (with_reducible exact Ext.refl _) | (with_reducible assumption) | with_reducible refine Ext.drew ?_ | with_reducible refine Ext.alloc ?_ _ | with_reducible refine Ext.setCell ?_ (by first | (simp; done) | (simp; omega) | omega) _ | with_reducible refine Ext.trans ?_ (by with_reducible assumption))), by rw [msA, HN.out]; exact hown.kept (hx2.trans hx3)⟩
              case measure => simp [intOf]; omega
            | some s =>
              have hsb := stU_bd hmm.1 hmm.2 hst
              rw [hst] at hS1
              by_cases hin : q < (nth ts k).legs.length
              · obtain ⟨b1, o1, rfl, hc1⟩ := r1 (by omega)
                have e2 := hX.cells (hc1 q hin 0 (by decide))
                simp only [ic, Nat.mul_one, Nat.add_zero] at e2
                have hlb := ho.leg q hin
                have hTT := legT_in hin
                by_cases h0 : nth (nth ts k).legs q = 0
                · have hnn := stU_zero hst (by rw [hTT]; exact h0)
                  rw [hnn] at hS2
                  unfold stV at hS1 hS2
                  have HN := Lib.hid (msU_stop hnn m (by omega))
                  clear hst hTT h0 hc1 hnn
                  go_wp2_with fail
                  refine hS1.mono ?_; rintro e w2 ⟨rfl, hx2⟩
                  have e0' := hx2.cells e0
                  have e1' := hx2.cells e1
                  go_wp2_with fail
                  refine (hS2 _ hx2).mono ?_; rintro e w3 ⟨rfl, hx3⟩
                  go_wp2
                  go_roundw
                  case rel => exact ⟨k + 1, by omega, by go_num, (by repeat (first | (with_reducible exact Ext.refl _) | (with_reducible assumption) | with_reducible refine Ext.drew ?_ | with_reducible refine Ext.alloc ?_ _ | with_reducible refine Ext.setCell ?_ (by first | (simp; done) | (simp; omega) | omega) _ | with_reducible refine Ext.trans ?_ (by with_reducible assumption))), by rw [msA, HN.out]; exact hown.kept (hx2.trans hx3)⟩
                  case measure => simp [intOf]; omega
                · have hp : 0 < legT (nth ts k) q := by rw [hTT]; omega
                  rw [stU_pos hst hp] at hS2
                  unfold stV at hS1 hS2
                  have hmb := msB_pos hst hp
                  rw [hTT] at hmb
                  by_cases hgt : mass < s + nth (nth ts k).legs q
                  · have HN := Lib.hid (msU_yes (show msB (nth ts k) mass q = true by rw [hmb]; simpa using hgt))
                    clear hst hTT h0 hc1 hp hmb
                    have hrow2 := fun x => row_lit (w := x) (cs := #[.int .i64 (nth ts k).num, .int .i64 ((q : Int) + 1)]) (T := 43) (s := 2) (cc := Par.c) (x := ⟨(nth ts k).num, (q : Int) + 1⟩) (by intro j hj; match j, hj with | 0, _ => rfl | 1, _ => rfl)
                    go_wp2_with fail
                    refine hS1.mono ?_; rintro e w2 ⟨rfl, hx2⟩
                    have e0' := hx2.cells e0
                    have e1' := hx2.cells e1
                    go_wp2_with fail
                    refine (hS2 _ hx2).mono ?_; rintro e w3 ⟨rfl, hx3⟩
                    have f0 := hx3.cells e0'
                    have f1 := hx3.cells e1'
                    have f2 := hx3.cells (hx2.cells e2)
                    have hb := World.block_lt_of_cell? _ _ f2
                    have hb0 := World.block_lt_of_cell? _ _ f0
                    have hown3 := hown.kept (hx2.trans hx3)
                    have hX3 := hX.trans (hx2.trans hx3)
                    clear hown hx2 hx3 e0 e1 e2 e0' e1' hS1 hS2 hX
                    go_wp2_with (at_builtin; refine wpList_append_rows rfl _ _ 39 rfl w 43 i0 _ 2 16 Try.underlying39 hi hz0 hz1 hz2 rfl (by decide) Par.c par_one _ (msA ts mass m k ++ msU (nth ts k) mass q) [⟨(nth ts k).num, (q : Int) + 1⟩] rfl (hown3.kept ((Ext.refl _).alloc _)) (some ⟨w3.heap.size, 0, none⟩) 1 1 rfl rfl (fun h => by cases h) (hrow2 _) (by simp; omega) (by simp; omega) (hX3.alloc _) ?_; intro v1 w4 ho1 hx4)
                    rw [List.append_assoc, ← HN.out] at ho1
                    go_wp2
                    go_roundw
                    case rel => exact ⟨q + 1, by omega, by go_num, (by repeat (first | (with_reducible exact Ext.refl _) | (with_reducible assumption) | with_reducible refine Ext.drew ?_ | with_reducible refine Ext.alloc ?_ _ | with_reducible refine Ext.setCell ?_ (by first | (simp; done) | (simp; omega) | omega) _ | with_reducible refine Ext.trans ?_ (by with_reducible assumption))), ho1⟩
                    case measure => simp [intOf]; omega
                  · have HN := Lib.hid (msU_no (show msB (nth ts k) mass q = false by rw [hmb]; simpa using hgt))
                    clear hst hTT h0 hc1 hp hmb
                    go_wp2_with fail
                    refine hS1.mono ?_; rintro e w2 ⟨rfl, hx2⟩
                    have e0' := hx2.cells e0
                    have e1' := hx2.cells e1
                    go_wp2_with fail
                    refine (hS2 _ hx2).mono ?_; rintro e w3 ⟨rfl, hx3⟩
                    have f1 := hx3.cells e1'
                    have f2 := hx3.cells (hx2.cells e2)
                    go_wp2
                    go_roundw
                    case rel => exact ⟨q + 1, by omega, by go_num, (by repeat (first | (with_reducible exact Ext.refl _) | (with_reducible assumption) | with_reducible refine Ext.drew ?_ | with_reducible refine Ext.alloc ?_ _ | with_reducible refine Ext.setCell ?_ (by first | (simp; done) | (simp; omega) | omega) _ | with_reducible refine Ext.trans ?_ (by with_reducible assumption))), by rw [HN.out]; exact hown.kept (hx2.trans hx3)⟩
                    case measure => simp [intOf]; omega
              · have hneg : legT (nth ts k) q < 0 := by rw [legT_out hin]; omega
                rw [stU_neg hst hneg] at hS2
                unfold stV at hS1 hS2
                have HN := Lib.hid (msU_yes (msB_neg hst hneg))
                clear hst hneg
                have hrow2 := fun x => row_lit (w := x) (cs := #[.int .i64 (nth ts k).num, .int .i64 ((q : Int) + 1)]) (T := 43) (s := 2) (cc := Par.c) (x := ⟨(nth ts k).num, (q : Int) + 1⟩) (by intro j hj; match j, hj with | 0, _ => rfl | 1, _ => rfl)
                go_wp2_with fail
                refine hS1.mono ?_; rintro e w2 ⟨rfl, hx2⟩
                have e0' := hx2.cells e0
                have e1' := hx2.cells e1
                go_wp2_with fail
                refine (hS2 _ hx2).mono ?_; rintro e w3 ⟨rfl, hx3⟩
                have f0 := hx3.cells e0'
                have f1 := hx3.cells e1'
                have hb0 := World.block_lt_of_cell? _ _ f0
                have hown3 := hown.kept (hx2.trans hx3)
                have hX3 := hX.trans (hx2.trans hx3)
                clear hown hx2 hx3 e0 e1 e0' e1' hS1 hS2 hX
                go_wp2_with (at_builtin; refine wpList_append_rows rfl _ _ 39 rfl w 43 i0 _ 2 16 Try.underlying39 hi hz0 hz1 hz2 rfl (by decide) Par.c par_one _ (msA ts mass m k ++ msU (nth ts k) mass q) [⟨(nth ts k).num, (q : Int) + 1⟩] rfl (hown3.kept ((Ext.refl _).alloc _)) (some ⟨w3.heap.size, 0, none⟩) 1 1 rfl rfl (fun h => by cases h) (hrow2 _) (by simp; omega) (by simp; omega) (hX3.alloc _) ?_; intro v1 w4 ho1 hx4)
                rw [List.append_assoc, ← HN.out] at ho1
                go_wp2
                go_roundw
                case rel => exact ⟨q + 1, by omega, by go_num, (by repeat (first | (with_reducible exact Ext.refl _) | (with_reducible assumption) | with_reducible refine Ext.drew ?_ | with_reducible refine Ext.alloc ?_ _ | with_reducible refine Ext.setCell ?_ (by first | (simp; done) | (simp; omega) | omega) _ | with_reducible refine Ext.trans ?_ (by with_reducible assumption))), ho1⟩
                case measure => simp [intOf]; omega
          · obtain rfl : q = m := by omega
            go_wp2
            go_roundw
            case rel => exact ⟨k + 1, by omega, by go_num, (by repeat (first | (with_reducible exact Ext.refl _) | (with_reducible assumption) | with_reducible refine Ext.drew ?_ | with_reducible refine Ext.alloc ?_ _ | with_reducible refine Ext.setCell ?_ (by first | (simp; done) | (simp; omega) | omega) _ | with_reducible refine Ext.trans ?_ (by with_reducible assumption))), hown⟩
            case measure => simp [intOf]; omega
      · obtain rfl : k = n := by omega
        obtain ⟨bo, bc, rfl, hF, _, _, _⟩ := hown.fresh
        go_wp2
        go_ret2
        exact ⟨bo, bc, rfl, (by repeat (first | (with_reducible exact Ext.refl _) | (with_reducible assumption) | with_reducible refine Ext.drew ?_ | with_reducible refine Ext.alloc ?_ _ | with_reducible refine Ext.setCell ?_ (by first | (simp; done) | (simp; omega) | omega) _ | with_reducible refine Ext.trans ?_ (by with_reducible assumption))), hF⟩

theorem msL_len (ts : List TeamD) (legs mass : Int) : (msL ts legs mass).length ≤ 1048577 := by
  unfold msL
  split
  · rename_i hv
    have hvt : teamsB ts legs = true := by simp only [relB, Bool.and_eq_true] at hv; exact hv.1
    have h1 := teamsB_at hvt
    have h2 := msA_len ts mass (legs - 1).toNat ts.length
    have h3 : (legs - 1).toNat * ts.length ≤ 3 * 8 := Nat.mul_le_mul (by omega) h1.2.1
    omega
  · simp

end Go.Proofs.Ytlpogglcbphilaa
