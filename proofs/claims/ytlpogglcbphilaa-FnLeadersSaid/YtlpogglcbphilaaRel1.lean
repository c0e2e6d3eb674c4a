/-
  Proved here: what AreTeams and its reference return.
  Conditions: the number of teams fits an int.
-/
import Derived.Test.YtlpogglcbphilaaRel0
import Derived.Test.YtlpogglcbphilaaSmall
namespace Go.Proofs.Ytlpogglcbphilaa
open Go.RowKit

def okTeamI (ts : List TeamD) (legs : Int) (k : Nat) : Bool := inB (nth ts k).num 1 99 && decide (((nth ts k).legs.length : Int) ≤ legs) && stepB ts k && upto (okLegI (nth ts k).legs (nth ts k).legs.length) (nth ts k).legs.length
theorem okTeamI_eq (ts : List TeamD) (legs : Int) (k : Nat) : okTeamI ts legs k = okTeam ts legs k := by
  unfold okTeamI okTeam teamB
  rw [legs_same]
  cases upto (okLeg (nth ts k).legs) (nth ts k).legs.length <;> cases inB (nth ts k).num 1 99 <;> cases decide (((nth ts k).legs.length : Int) ≤ legs) <;> cases stepB ts k <;> rfl
theorem step_cases (ts : List TeamD) (k : Nat) : (stepB ts k = false ∧ 0 < k ∧ (nth ts k).num ≤ (nth ts (k - 1)).num) ∨ (stepB ts k = true ∧ ¬ 0 < k) ∨ (stepB ts k = true ∧ 0 < k ∧ ¬ (nth ts k).num ≤ (nth ts (k - 1)).num) := by
  by_cases h : 0 < k
  · by_cases h' : (nth ts k).num ≤ (nth ts (k - 1)).num
    · exact .inl ⟨by simp [stepB, h, h'], h, h'⟩
    · exact .inr (.inr ⟨by simp [stepB, h, h'], h, h'⟩)
  · exact .inr (.inl ⟨by simp [stepB, h], h⟩)

set_option maxRecDepth 100000 in
set_option maxHeartbeats 4000000 in
theorem impl_AreTeams {ao : Option Addr} {cap : Nat} {ts : List TeamD} {legs : Int} {w : World} (h : GRow w ao 2 ts.length (tsC ts)) (hn : ts.length ≤ 9223372036854775807) :
    Calls Try.prog 15 #[.slice ao ts.length cap, .int .i64 legs] w fun e w' => e = .returned (.bool (teamsB ts legs)) ∧ Ext w w' := by
  obtain ⟨n, hN⟩ : ∃ n, n = ts.length := ⟨_, rfl⟩
  have hfin : teamsB ts legs = (upto (okTeamI ts legs) n && inB legs 1 4 && decide (n ≤ 8)) := by
    rw [hN, teamsB, upto_congr (p := okTeamI ts legs) (q := okTeam ts legs) (fun k _ => okTeamI_eq ts legs k)]
  have HF := Lib.hid hfin; clear hfin
  rw [← hN] at hn h ⊢
  clear hN
  cases hl : inB legs 1 4
  · go_enter Try.func15, Try.ntmps15
    go_wp2_with fail
    refine impl_inside.mono ?_; rw [hl]; rintro e w1 ⟨rfl, rfl⟩
    go_wp2
    go_ret
    exact ⟨ret_b (by rw [HF.out, hl]; simp), (by repeat (first | (with_reducible exact Ext.refl _) | (with_reducible assumption) | with_reducible refine Ext.drew ?_ | with_reducible refine Ext.alloc ?_ _ | with_reducible refine Ext.setCell ?_ (by first | (simp; done) | (simp; omega) | omega) _ | with_reducible refine Ext.trans ?_ (by with_reducible assumption)))⟩
  · by_cases h8 : n ≤ 8
    · have HL := Lib.hid hl; clear hl
      go_enter Try.func15, Try.ntmps15
      go_wp2_with fail
      refine impl_inside.mono ?_; rw [HL.out]; rintro e w1 ⟨rfl, rfl⟩
      go_wp2
      go_loopw [19] (fun i wr => ∃ k : Nat, k ≤ n ∧ i = .int .i64 k ∧ Ext w wr ∧ upto (okTeamI ts legs) k = true) (fun i _ => n - (intOf i).toNat)
      case atStart => exact ⟨0, Nat.zero_le _, rfl, Ext.refl _, rfl⟩
      case round =>
        obtain ⟨k, hk, rfl, hx, hu⟩ := hrel
        have HU := Lib.hid hu; clear hu
        by_cases hlt : k < n
        · obtain ⟨b, off, rfl, hcell⟩ := h (by omega)
          obtain ⟨a1, c1, d0, d1, r1, n1, l1⟩ := teams_at (fun j hj => (hcell k hlt j hj).ext hx)
          have hx0 : Ext wr (wr.alloc (Obj.cells #[.int .i64 (nth ts k).num, .slice a1 (nth ts k).legs.length c1] 51)) := (Ext.refl _).alloc _
          have p0 : ∀ x : Grow (wr.alloc (Obj.cells #[.int .i64 (nth ts k).num, .slice a1 (nth ts k).legs.length c1] 51)), 0 < k → x.w.cell? ⟨b, off + (k - 1) * 2, none⟩ = some (.int .i64 (nth ts (k - 1)).num) :=
            fun x hk0 => x.h.cells (hx0.cells (hx.cells (hcell (k - 1) (by omega) 0 (by decide))))
          have g0 : ∀ x : Grow (wr.alloc (Obj.cells #[.int .i64 (nth ts k).num, .slice a1 (nth ts k).legs.length c1] 51)), x.w.cell? ⟨wr.heap.size, 0, none⟩ = some (.int .i64 (nth ts k).num) := Grow.cells (by go_simp)
          have g1 : ∀ x : Grow (wr.alloc (Obj.cells #[.int .i64 (nth ts k).num, .slice a1 (nth ts k).legs.length c1] 51)), x.w.cell? ⟨wr.heap.size, 1, none⟩ = some (.slice a1 (nth ts k).legs.length c1) := Grow.cells (by go_simp)
          clear hcell h
          by_cases hA : inB (nth ts k).num 1 99 = true
          · by_cases hB : legs < ((nth ts k).legs.length : Int)
            · go_wp2
              refine wp_region_ext (by kernel_rfl) (by kernel_rfl) ?_
              repeat (go_big_quiet_step ((go_at_call 40; exact Calls.ext_of_same (impl_inside))))
              refine wpQuiet_nil ?_
              rintro _ ⟨⟨w1, hx1⟩, rfl⟩
              clear g0 g1 p0
              go_wp2
              go_ret
              exact ⟨ret_b (by rw [HF.out, upto_false hlt (by simp [okTeamI]; intros; omega)]; simp), (by repeat (first | (with_reducible exact Ext.refl _) | (with_reducible assumption) | with_reducible refine Ext.drew ?_ | with_reducible refine Ext.alloc ?_ _ | with_reducible refine Ext.setCell ?_ (by first | (simp; done) | (simp; omega) | omega) _ | with_reducible refine Ext.trans ?_ (by with_reducible assumption)))⟩
            · have hB' : decide (legs < ((nth ts k).legs.length : Int)) = false := by simpa using hB
              rcases step_cases ts k with ⟨hs, hC, hD⟩ | ⟨hs, hC⟩ | ⟨hs, hC, hD⟩
              · have HS := Lib.hid hs; clear hs
                go_wp2
                refine wp_region_ext (by kernel_rfl) (by kernel_rfl) ?_
                repeat (go_big_quiet_step ((go_at_call 40; exact Calls.ext_of_same (impl_inside))))
                refine wpQuiet_nil ?_
                rintro _ ⟨⟨w1, hx1⟩, rfl⟩
                clear g0 g1 p0
                go_wp2
                go_ret
                exact ⟨ret_b (by rw [HF.out, upto_false hlt (by simp [okTeamI, HS.out])]; simp), (by repeat (first | (with_reducible exact Ext.refl _) | (with_reducible assumption) | with_reducible refine Ext.drew ?_ | with_reducible refine Ext.alloc ?_ _ | with_reducible refine Ext.setCell ?_ (by first | (simp; done) | (simp; omega) | omega) _ | with_reducible refine Ext.trans ?_ (by with_reducible assumption)))⟩
              · have hC' : decide ((0 : Int) < (k : Int)) = false := by simpa using hC
                have HS := Lib.hid hs; clear hs
                have hxw := hx.trans hx0
                have HA := Lib.hid hA
                have HB := Lib.hid hB
                have q1 := g1
                go_wp2
                refine wp_region_ext (by kernel_rfl) (by kernel_rfl) ?_
                repeat (go_big_quiet_step ((go_at_call 40; exact Calls.ext_of_same (impl_inside))))
                refine wpQuiet_nil ?_
                rintro _ ⟨⟨w1, hx1⟩, rfl⟩
                clear g0 g1 p0
                clear hC' hA hB' hB
                have f1 := hx1.cells (q1 ⟨_, Ext.refl _⟩)
                have hy1 := hx0.trans hx1
                have r1' := r1.ext hy1
                have hxw1 := hxw.trans hx1
                rename_i wi
                clear q1 hx1 hxw hx0 hx hy1 r1 d0 d1
                go_wp2
                go_loopw [53] (fun i wr => ∃ j : Nat, j ≤ (nth ts k).legs.length ∧ i = .int .i64 j ∧ Ext wi wr ∧ upto (okLegI (nth ts k).legs (nth ts k).legs.length) j = true) (fun i _ => (nth ts k).legs.length - (intOf i).toNat)
                case atStart => exact ⟨0, Nat.zero_le _, rfl, Ext.refl _, rfl⟩
                case round =>
                  obtain ⟨j, hj, rfl, hX, ha⟩ := hrel
                  have HA2 := Lib.hid ha; clear ha
                  have e0 := hX.cells f1
                  by_cases hjl : j < (nth ts k).legs.length
                  · obtain ⟨b1, o1, rfl, hc1⟩ := r1' (by omega)
                    have e1 := hX.cells (hc1 j hjl 0 (by decide))
                    simp only [ic, Nat.mul_one, Nat.add_zero] at e1
                    clear hc1 r1'
                    cases hE : inB (nth (nth ts k).legs j) 0 10000
                    · go_wp2_with fail
                      refine impl_inside.mono ?_; rw [hE]; rintro e w3 ⟨rfl, rfl⟩
                      go_wp2
                      go_ret
                      exact ⟨ret_b (by rw [HF.out, upto_false hlt (by simp only [okTeamI]; rw [upto_false hjl (by simp [okLegI, hE])]; simp)]; simp), (by repeat (first | (with_reducible exact Ext.refl _) | (with_reducible assumption) | with_reducible refine Ext.drew ?_ | with_reducible refine Ext.alloc ?_ _ | with_reducible refine Ext.setCell ?_ (by first | (simp; done) | (simp; omega) | omega) _ | with_reducible refine Ext.trans ?_ (by with_reducible assumption)))⟩
                    · have HE := Lib.hid hE; clear hE
                      by_cases hZ : nth (nth ts k).legs j = 0
                      · by_cases hJ : j + 1 < (nth ts k).legs.length
                        all_goals
                          have hz : (nth (nth ts k).legs j == 0) = true := by simp [hZ]
                          have HZ := Lib.hid hZ; clear hZ
                          go_wp2_with fail
                          refine impl_inside.mono ?_; rw [HE.out]; rintro e w3 ⟨rfl, rfl⟩
                          go_wp2
                        · go_ret
                          exact ⟨ret_b (by rw [HF.out, upto_false hlt (by simp only [okTeamI]; rw [upto_false hjl (by simp [okLegI, HZ.out, hJ])]; simp)]; simp), (by repeat (first | (with_reducible exact Ext.refl _) | (with_reducible assumption) | with_reducible refine Ext.drew ?_ | with_reducible refine Ext.alloc ?_ _ | with_reducible refine Ext.setCell ?_ (by first | (simp; done) | (simp; omega) | omega) _ | with_reducible refine Ext.trans ?_ (by with_reducible assumption)))⟩
                        · go_roundw
                          case rel => exact ⟨j + 1, by omega, by go_num, (by repeat (first | (with_reducible exact Ext.refl _) | (with_reducible assumption) | with_reducible refine Ext.drew ?_ | with_reducible refine Ext.alloc ?_ _ | with_reducible refine Ext.setCell ?_ (by first | (simp; done) | (simp; omega) | omega) _ | with_reducible refine Ext.trans ?_ (by with_reducible assumption))), upto_succ HA2.out (by simp [okLegI, HE.out, hJ])⟩
                          case measure => simp [intOf]; omega
                      · have hz : (nth (nth ts k).legs j == 0) = false := by simp [hZ]
                        have HZ := Lib.hid hZ; clear hZ
                        go_wp2_with fail
                        refine impl_inside.mono ?_; rw [HE.out]; rintro e w3 ⟨rfl, rfl⟩
                        go_wp2
                        go_roundw
                        case rel => exact ⟨j + 1, by omega, by go_num, (by repeat (first | (with_reducible exact Ext.refl _) | (with_reducible assumption) | with_reducible refine Ext.drew ?_ | with_reducible refine Ext.alloc ?_ _ | with_reducible refine Ext.setCell ?_ (by first | (simp; done) | (simp; omega) | omega) _ | with_reducible refine Ext.trans ?_ (by with_reducible assumption))), upto_succ HA2.out (by simp [okLegI, HE.out, HZ.out])⟩
                        case measure => simp [intOf]; omega
                  · obtain rfl : j = (nth ts k).legs.length := by omega
                    go_wp2
                    go_roundw
                    case rel => exact ⟨k + 1, by omega, by go_num, (by repeat (first | (with_reducible exact Ext.refl _) | (with_reducible assumption) | with_reducible refine Ext.drew ?_ | with_reducible refine Ext.alloc ?_ _ | with_reducible refine Ext.setCell ?_ (by first | (simp; done) | (simp; omega) | omega) _ | with_reducible refine Ext.trans ?_ (by with_reducible assumption))), upto_succ HU.out (by simp only [okTeamI, HA.out, HS.out, HA2.out]; simp; have := HB.out; omega)⟩
                    case measure => simp [intOf]; omega
              · have hC' : decide ((nth ts k).num ≤ (nth ts (k - 1)).num) = false := by simpa using hD
                have HS := Lib.hid hs; clear hs
                have hxw := hx.trans hx0
                have HA := Lib.hid hA
                have HB := Lib.hid hB
                have q1 := g1
                go_wp2
                refine wp_region_ext (by kernel_rfl) (by kernel_rfl) ?_
                repeat (go_big_quiet_step ((go_at_call 40; exact Calls.ext_of_same (impl_inside))))
                refine wpQuiet_nil ?_
                rintro _ ⟨⟨w1, hx1⟩, rfl⟩
                clear g0 g1 p0
                clear hC' hA hB' hB
                have f1 := hx1.cells (q1 ⟨_, Ext.refl _⟩)
                have hy1 := hx0.trans hx1
                have r1' := r1.ext hy1
                have hxw1 := hxw.trans hx1
                rename_i wi
                clear q1 hx1 hxw hx0 hx hy1 r1 d0 d1
                go_wp2
                go_loopw [53] (fun i wr => ∃ j : Nat, j ≤ (nth ts k).legs.length ∧ i = .int .i64 j ∧ Ext wi wr ∧ upto (okLegI (nth ts k).legs (nth ts k).legs.length) j = true) (fun i _ => (nth ts k).legs.length - (intOf i).toNat)
                case atStart => exact ⟨0, Nat.zero_le _, rfl, Ext.refl _, rfl⟩
                case round =>
                  obtain ⟨j, hj, rfl, hX, ha⟩ := hrel
                  have HA2 := Lib.hid ha; clear ha
                  have e0 := hX.cells f1
                  by_cases hjl : j < (nth ts k).legs.length
                  · obtain ⟨b1, o1, rfl, hc1⟩ := r1' (by omega)
                    have e1 := hX.cells (hc1 j hjl 0 (by decide))
                    simp only [ic, Nat.mul_one, Nat.add_zero] at e1
                    clear hc1 r1'
                    cases hE : inB (nth (nth ts k).legs j) 0 10000
                    · go_wp2_with fail
                      refine impl_inside.mono ?_; rw [hE]; rintro e w3 ⟨rfl, rfl⟩
                      go_wp2
                      go_ret
                      exact ⟨ret_b (by rw [HF.out, upto_false hlt (by simp only [okTeamI]; rw [upto_false hjl (by simp [okLegI, hE])]; simp)]; simp), (by repeat (first | (with_reducible exact Ext.refl _) | (with_reducible assumption) | with_reducible refine Ext.drew ?_ | with_reducible refine Ext.alloc ?_ _ | with_reducible refine Ext.setCell ?_ (by first | (simp; done) | (simp; omega) | omega) _ | with_reducible refine Ext.trans ?_ (by with_reducible assumption)))⟩
                    · have HE := Lib.hid hE; clear hE
                      by_cases hZ : nth (nth ts k).legs j = 0
                      · by_cases hJ : j + 1 < (nth ts k).legs.length
                        all_goals
                          have hz : (nth (nth ts k).legs j == 0) = true := by simp [hZ]
                          have HZ := Lib.hid hZ; clear hZ
                          go_wp2_with fail
                          refine impl_inside.mono ?_; rw [HE.out]; rintro e w3 ⟨rfl, rfl⟩
                          go_wp2
                        · go_ret
                          exact ⟨ret_b (by rw [HF.out, upto_false hlt (by simp only [okTeamI]; rw [upto_false hjl (by simp [okLegI, HZ.out, hJ])]; simp)]; simp), (by repeat (first | (with_reducible exact Ext.refl _) | (with_reducible assumption) | with_reducible refine Ext.drew ?_ | with_reducible refine Ext.alloc ?_ _ | with_reducible refine Ext.setCell ?_ (by first | (simp; done) | (simp; omega) | omega) _ | with_reducible refine Ext.trans ?_ (by with_reducible assumption)))⟩
                        · go_roundw
                          case rel => exact ⟨j + 1, by omega, by go_num, (by repeat (first | (with_reducible exact Ext.refl _) | (with_reducible assumption) | with_reducible refine Ext.drew ?_ | with_reducible refine Ext.alloc ?_ _ | with_reducible refine Ext.setCell ?_ (by first | (simp; done) | (simp; omega) | omega) _ | with_reducible refine Ext.trans ?_ (by with_reducible assumption))), upto_succ HA2.out (by simp [okLegI, HE.out, hJ])⟩
                          case measure => simp [intOf]; omega
                      · have hz : (nth (nth ts k).legs j == 0) = false := by simp [hZ]
                        have HZ := Lib.hid hZ; clear hZ
                        go_wp2_with fail
                        refine impl_inside.mono ?_; rw [HE.out]; rintro e w3 ⟨rfl, rfl⟩
                        go_wp2
                        go_roundw
                        case rel => exact ⟨j + 1, by omega, by go_num, (by repeat (first | (with_reducible exact Ext.refl _) | (with_reducible assumption) | with_reducible refine Ext.drew ?_ | with_reducible refine Ext.alloc ?_ _ | with_reducible refine Ext.setCell ?_ (by first | (simp; done) | (simp; omega) | omega) _ | with_reducible refine Ext.trans ?_ (by with_reducible assumption))), upto_succ HA2.out (by simp [okLegI, HE.out, HZ.out])⟩
                        case measure => simp [intOf]; omega
                  · obtain rfl : j = (nth ts k).legs.length := by omega
                    go_wp2
                    go_roundw
                    case rel => exact ⟨k + 1, by omega, by go_num, (by repeat (first | (with_reducible exact Ext.refl _) | (with_reducible assumption) | with_reducible refine Ext.drew ?_ | with_reducible refine Ext.alloc ?_ _ | with_reducible refine Ext.setCell ?_ (by first | (simp; done) | (simp; omega) | omega) _ | with_reducible refine Ext.trans ?_ (by with_reducible assumption))), upto_succ HU.out (by simp only [okTeamI, HA.out, HS.out, HA2.out]; simp; have := HB.out; omega)⟩
                    case measure => simp [intOf]; omega
          · go_wp2
            refine wp_region_ext (by kernel_rfl) (by kernel_rfl) ?_
            repeat (go_big_quiet_step ((go_at_call 40; exact Calls.ext_of_same (impl_inside))))
            refine wpQuiet_nil ?_
            rintro _ ⟨⟨w1, hx1⟩, rfl⟩
            clear g0 g1 p0
            go_wp2
            go_ret
            exact ⟨ret_b (by rw [HF.out, upto_false hlt (by simp [okTeamI, hA])]; simp), (by repeat (first | (with_reducible exact Ext.refl _) | (with_reducible assumption) | with_reducible refine Ext.drew ?_ | with_reducible refine Ext.alloc ?_ _ | with_reducible refine Ext.setCell ?_ (by first | (simp; done) | (simp; omega) | omega) _ | with_reducible refine Ext.trans ?_ (by with_reducible assumption)))⟩
        · obtain rfl : k = n := by omega
          go_wp2
          go_ret
          exact ⟨ret_b (by rw [HF.out, HU.out, HL.out]; simp [h8]), (by repeat (first | (with_reducible exact Ext.refl _) | (with_reducible assumption) | with_reducible refine Ext.drew ?_ | with_reducible refine Ext.alloc ?_ _ | with_reducible refine Ext.setCell ?_ (by first | (simp; done) | (simp; omega) | omega) _ | with_reducible refine Ext.trans ?_ (by with_reducible assumption)))⟩
    · have h8' : ¬ (n : Int) ≤ 8 := by omega
      go_enter Try.func15, Try.ntmps15
      go_wp2_with fail
      refine impl_inside.mono ?_; rw [hl]; rintro e w1 ⟨rfl, rfl⟩
      go_wp2
      go_ret
      exact ⟨ret_b (by rw [HF.out]; simp [h8]), (by repeat (first | (with_reducible exact Ext.refl _) | (with_reducible assumption) | with_reducible refine Ext.drew ?_ | with_reducible refine Ext.alloc ?_ _ | with_reducible refine Ext.setCell ?_ (by first | (simp; done) | (simp; omega) | omega) _ | with_reducible refine Ext.trans ?_ (by with_reducible assumption)))⟩

end Go.Proofs.Ytlpogglcbphilaa
