/-
  Proved here: what the reference of AreTeams returns.
  Conditions: the number of teams fits an int.
-/
import Derived.Test.YtlpogglcbphilaaRel1
namespace Go.Proofs.Ytlpogglcbphilaa
open Go.RowKit

set_option maxRecDepth 100000 in
set_option maxHeartbeats 2000000 in
theorem spec_l16One {t : TeamD} {ao : Option Addr} {ac : Nat} {legs : Int} {w : World} (hr : RowAt w ao 1 t.legs.length (ic t.legs)) (hn : t.legs.length ≤ 9223372036854775807) :
    Calls Try.prog 67 #[t.val ao ac, .int .i64 legs] w fun e w' => e = .returned (.bool (teamB t legs)) ∧ Ext w w' := by
  obtain ⟨num, l⟩ := t
  dsimp only [TeamD.val] at hr hn ⊢
  have hfin : teamB ⟨num, l⟩ legs = (upto (okLeg l) l.length && inB num 1 99 && decide ((l.length : Int) ≤ legs)) := rfl
  have HF := Lib.hid hfin; clear hfin
  have hw0 : Ext w (w.alloc (Obj.cells #[.int .i64 num, .slice ao l.length ac] 51)) := (Ext.refl _).alloc _
  go_enter Try.func67, Try.ntmps67
  go_wp2
  go_loopw [5] (fun i wr => ∃ k : Nat, k ≤ l.length ∧ i = .int .i64 k ∧ Ext (w.alloc (Obj.cells #[.int .i64 num, .slice ao l.length ac] 51)) wr ∧ upto (okLeg l) k = true) (fun i _ => l.length - (intOf i).toNat)
  case atStart => exact ⟨0, Nat.zero_le _, rfl, Ext.refl _, rfl⟩
  case round =>
    obtain ⟨k, hk, rfl, hx, hu⟩ := hrel
    have HU := Lib.hid hu; clear hu
    have f0 : wr.cell? ⟨w.heap.size, 0, none⟩ = some (.int .i64 num) := hx.cells (by go_simp)
    have f1 : wr.cell? ⟨w.heap.size, 1, none⟩ = some (.slice ao l.length ac) := hx.cells (by go_simp)
    by_cases hlt : k < l.length
    · obtain ⟨b, off, rfl, hcell⟩ := hr (by omega)
      have d0 := hx.cells (hw0.cells (hcell k hlt 0 (by decide)))
      have d1 : 0 < k → wr.cell? ⟨b, off + (k - 1), none⟩ = some (.int .i64 (nth l (k - 1))) := fun h0 => by
        have := hx.cells (hw0.cells (hcell (k - 1) (by omega) 0 (by decide)))
        simpa [ic] using this
      simp only [ic, Nat.mul_one, Nat.add_zero] at d0
      clear hcell hr
      cases hE : inB (nth l k) 0 10000
      · go_wp2_with fail
        refine spec_l1In.mono ?_; rw [hE]; rintro e w3 ⟨rfl, rfl⟩
        go_wp2
        go_ret
        exact ⟨ret_b (by rw [HF.out, upto_false hlt (by simp [okLeg, hE])]; simp), (by repeat (first | (with_reducible exact Ext.refl _) | (with_reducible assumption) | with_reducible refine Ext.drew ?_ | with_reducible refine Ext.alloc ?_ _ | with_reducible refine Ext.setCell ?_ (by first | (simp; done) | (simp; omega) | omega) _ | with_reducible refine Ext.trans ?_ (by with_reducible assumption)))⟩
      · have HE := Lib.hid hE; clear hE
        by_cases h0 : 0 < k
        · have d1 := d1 h0
          by_cases hZ : nth l (k - 1) = 0
          · have hz : (nth l (k - 1) == 0) = true := by simp [hZ]
            have HZ := Lib.hid hZ; clear hZ
            go_wp2_with fail
            refine spec_l1In.mono ?_; rw [HE.out]; rintro e w3 ⟨rfl, rfl⟩
            go_wp2
            go_ret
            exact ⟨ret_b (by rw [HF.out, upto_false hlt (by simp [okLeg, HZ.out, h0])]; simp), (by repeat (first | (with_reducible exact Ext.refl _) | (with_reducible assumption) | with_reducible refine Ext.drew ?_ | with_reducible refine Ext.alloc ?_ _ | with_reducible refine Ext.setCell ?_ (by first | (simp; done) | (simp; omega) | omega) _ | with_reducible refine Ext.trans ?_ (by with_reducible assumption)))⟩
          · have hz : (nth l (k - 1) == 0) = false := by simp [hZ]
            have HZ := Lib.hid hZ; clear hZ
            go_wp2_with fail
            refine spec_l1In.mono ?_; rw [HE.out]; rintro e w3 ⟨rfl, rfl⟩
            go_wp2
            go_roundw
            case rel => exact ⟨k + 1, by omega, by go_num, (by repeat (first | (with_reducible exact Ext.refl _) | (with_reducible assumption) | with_reducible refine Ext.drew ?_ | with_reducible refine Ext.alloc ?_ _ | with_reducible refine Ext.setCell ?_ (by first | (simp; done) | (simp; omega) | omega) _ | with_reducible refine Ext.trans ?_ (by with_reducible assumption))), upto_succ HU.out (by simp [okLeg, HE.out, HZ.out])⟩
            case measure => simp [intOf]; omega
        · clear d1
          go_wp2_with fail
          refine spec_l1In.mono ?_; rw [HE.out]; rintro e w3 ⟨rfl, rfl⟩
          go_wp2
          go_roundw
          case rel => exact ⟨k + 1, by omega, by go_num, (by repeat (first | (with_reducible exact Ext.refl _) | (with_reducible assumption) | with_reducible refine Ext.drew ?_ | with_reducible refine Ext.alloc ?_ _ | with_reducible refine Ext.setCell ?_ (by first | (simp; done) | (simp; omega) | omega) _ | with_reducible refine Ext.trans ?_ (by with_reducible assumption))), upto_succ HU.out (by simp [okLeg, HE.out, h0])⟩
          case measure => simp [intOf]; omega
    · obtain rfl : k = l.length := by omega
      cases hA : inB num 1 99
      · go_wp2_with fail
        refine spec_l1In.mono ?_; rw [hA]; rintro e w3 ⟨rfl, rfl⟩
        go_wp2
        go_ret
        exact ⟨ret_b (by rw [HF.out, hA]; simp), (by repeat (first | (with_reducible exact Ext.refl _) | (with_reducible assumption) | with_reducible refine Ext.drew ?_ | with_reducible refine Ext.alloc ?_ _ | with_reducible refine Ext.setCell ?_ (by first | (simp; done) | (simp; omega) | omega) _ | with_reducible refine Ext.trans ?_ (by with_reducible assumption)))⟩
      · have HA := Lib.hid hA; clear hA
        by_cases hB : (l.length : Int) ≤ legs
        all_goals
          have HB := Lib.hid hB
          go_wp2_with fail
          refine spec_l1In.mono ?_; rw [HA.out]; rintro e w3 ⟨rfl, rfl⟩
          go_wp2
          go_ret
          exact ⟨ret_b (by rw [HF.out, HU.out, HA.out]; have hq := HB.out; simp [hq]), (by repeat (first | (with_reducible exact Ext.refl _) | (with_reducible assumption) | with_reducible refine Ext.drew ?_ | with_reducible refine Ext.alloc ?_ _ | with_reducible refine Ext.setCell ?_ (by first | (simp; done) | (simp; omega) | omega) _ | with_reducible refine Ext.trans ?_ (by with_reducible assumption)))⟩

set_option maxRecDepth 100000 in
set_option maxHeartbeats 4000000 in
theorem spec_l16Good {ao : Option Addr} {cap : Nat} {ts : List TeamD} {legs : Int} {w : World} (h : GRow w ao 2 ts.length (tsC ts)) (hn : ts.length ≤ 9223372036854775807) :
    Calls Try.prog 43 #[.slice ao ts.length cap, .int .i64 legs] w fun e w' => e = .returned (.bool (teamsB ts legs)) ∧ Ext w w' := by
  obtain ⟨n, hN⟩ : ∃ n, n = ts.length := ⟨_, rfl⟩
  have hfin : teamsB ts legs = (upto (okTeam ts legs) n && inB legs 1 4 && decide (n ≤ 8)) := by rw [hN]; rfl
  have HF := Lib.hid hfin; clear hfin
  rw [← hN] at hn h ⊢
  clear hN
  go_enter Try.func43, Try.ntmps43
  go_wp2
  go_loopw [5] (fun i wr => ∃ k : Nat, k ≤ n ∧ i = .int .i64 k ∧ Ext w wr ∧ upto (okTeam ts legs) k = true) (fun i _ => n - (intOf i).toNat)
  case atStart => exact ⟨0, Nat.zero_le _, rfl, Ext.refl _, rfl⟩
  case round =>
    obtain ⟨k, hk, rfl, hx, hu⟩ := hrel
    have HU := Lib.hid hu; clear hu
    by_cases hlt : k < n
    · obtain ⟨b, off, rfl, hcell⟩ := h (by omega)
      obtain ⟨a1, c1, d0, d1, r1, n1, l1⟩ := teams_at (fun j hj => (hcell k hlt j hj).ext hx)
      have g0 := Grow.cells d0
      have g1 := Grow.cells d1
      have p0 : ∀ x : Grow wr, 0 < k → x.w.cell? ⟨b, off + (k - 1) * 2, none⟩ = some (.int .i64 (nth ts (k - 1)).num) :=
        fun x hk0 => x.h.cells (hx.cells (hcell (k - 1) (by omega) 0 (by decide)))
      have hone := fun x (hX : Ext wr x) => spec_l16One (w := x) (t := nth ts k) (ac := c1) (legs := legs) (r1.ext hX) n1
      unfold TeamD.val at hone
      clear hcell h d0 d1
      cases hA : teamB (nth ts k) legs
      · rw [hA] at hone
        go_wp2
        refine wp_region_ext (by kernel_rfl) (by kernel_rfl) ?_
        repeat (go_big_quiet_step ((go_at_call 67; with_reducible exact Calls.ext_of (hone _ (Grow.h _)))))
        refine wpQuiet_nil ?_
        rintro _ ⟨⟨w1, hx1⟩, rfl⟩
        clear g0 g1 p0
        go_wp2
        go_ret
        exact ⟨ret_b (by rw [HF.out, upto_false hlt (by simp [okTeam, hA])]; simp), (by repeat (first | (with_reducible exact Ext.refl _) | (with_reducible assumption) | with_reducible refine Ext.drew ?_ | with_reducible refine Ext.alloc ?_ _ | with_reducible refine Ext.setCell ?_ (by first | (simp; done) | (simp; omega) | omega) _ | with_reducible refine Ext.trans ?_ (by with_reducible assumption)))⟩
      · rw [hA] at hone
        have HA := Lib.hid hA; clear hA
        rcases step_cases ts k with ⟨hs, hC, hD⟩ | ⟨hs, hC⟩ | ⟨hs, hC, hD⟩
        · have HS := Lib.hid hs; clear hs
          go_wp2
          refine wp_region_ext (by kernel_rfl) (by kernel_rfl) ?_
          repeat (go_big_quiet_step ((go_at_call 67; with_reducible exact Calls.ext_of (hone _ (Grow.h _)))))
          refine wpQuiet_nil ?_
          rintro _ ⟨⟨w1, hx1⟩, rfl⟩
          clear g0 g1 p0
          go_wp2
          go_ret
          exact ⟨ret_b (by rw [HF.out, upto_false hlt (by simp [okTeam, HS.out])]; simp), (by repeat (first | (with_reducible exact Ext.refl _) | (with_reducible assumption) | with_reducible refine Ext.drew ?_ | with_reducible refine Ext.alloc ?_ _ | with_reducible refine Ext.setCell ?_ (by first | (simp; done) | (simp; omega) | omega) _ | with_reducible refine Ext.trans ?_ (by with_reducible assumption)))⟩
        · have hC' : decide ((0 : Int) < (k : Int)) = false := by simpa using hC
          have HS := Lib.hid hs; clear hs
          go_wp2
          refine wp_region_ext (by kernel_rfl) (by kernel_rfl) ?_
          repeat (go_big_quiet_step ((go_at_call 67; with_reducible exact Calls.ext_of (hone _ (Grow.h _)))))
          refine wpQuiet_nil ?_
          rintro _ ⟨⟨w1, hx1⟩, rfl⟩
          clear g0 g1 p0
          go_wp2
          go_roundw
          case rel => exact ⟨k + 1, by omega, by go_num, (by repeat (first | (with_reducible exact Ext.refl _) | (with_reducible assumption) | with_reducible refine Ext.drew ?_ | with_reducible refine Ext.alloc ?_ _ | with_reducible refine Ext.setCell ?_ (by first | (simp; done) | (simp; omega) | omega) _ | with_reducible refine Ext.trans ?_ (by with_reducible assumption))), upto_succ HU.out (by simp [okTeam, HA.out, HS.out])⟩
          case measure => simp [intOf]; omega
        · have hC' : decide ((nth ts k).num ≤ (nth ts (k - 1)).num) = false := by simpa using hD
          have HS := Lib.hid hs; clear hs
          go_wp2
          refine wp_region_ext (by kernel_rfl) (by kernel_rfl) ?_
          repeat (go_big_quiet_step ((go_at_call 67; with_reducible exact Calls.ext_of (hone _ (Grow.h _)))))
          refine wpQuiet_nil ?_
          rintro _ ⟨⟨w1, hx1⟩, rfl⟩
          clear g0 g1 p0
          go_wp2
          go_roundw
          case rel => exact ⟨k + 1, by omega, by go_num, (by repeat (first | (with_reducible exact Ext.refl _) | (with_reducible assumption) | with_reducible refine Ext.drew ?_ | with_reducible refine Ext.alloc ?_ _ | with_reducible refine Ext.setCell ?_ (by first | (simp; done) | (simp; omega) | omega) _ | with_reducible refine Ext.trans ?_ (by with_reducible assumption))), upto_succ HU.out (by simp [okTeam, HA.out, HS.out])⟩
          case measure => simp [intOf]; omega
    · obtain rfl : k = n := by omega
      cases hl : inB legs 1 4
      · go_wp2_with fail
        refine spec_l1In.mono ?_; rw [hl]; rintro e w1 ⟨rfl, rfl⟩
        go_wp2
        go_ret
        exact ⟨ret_b (by rw [HF.out, hl]; simp), (by repeat (first | (with_reducible exact Ext.refl _) | (with_reducible assumption) | with_reducible refine Ext.drew ?_ | with_reducible refine Ext.alloc ?_ _ | with_reducible refine Ext.setCell ?_ (by first | (simp; done) | (simp; omega) | omega) _ | with_reducible refine Ext.trans ?_ (by with_reducible assumption)))⟩
      · have HL := Lib.hid hl; clear hl
        by_cases h8 : k ≤ 8
        all_goals
          have H8 := Lib.hid h8
          go_wp2_with fail
          refine spec_l1In.mono ?_; rw [HL.out]; rintro e w1 ⟨rfl, rfl⟩
          go_wp2
          go_ret
          exact ⟨ret_b (by rw [HF.out, HU.out, HL.out]; have hq := H8.out; first | (simp [hq]; done) | (simp; omega)), (by repeat (first | (with_reducible exact Ext.refl _) | (with_reducible assumption) | with_reducible refine Ext.drew ?_ | with_reducible refine Ext.alloc ?_ _ | with_reducible refine Ext.setCell ?_ (by first | (simp; done) | (simp; omega) | omega) _ | with_reducible refine Ext.trans ?_ (by with_reducible assumption)))⟩

end Go.Proofs.Ytlpogglcbphilaa
