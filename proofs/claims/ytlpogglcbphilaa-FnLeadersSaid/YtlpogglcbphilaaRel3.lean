/-
  Proved here: what FastestOn and its reference return.
  Conditions: the number of teams fits an int.
-/
import Derived.Test.YtlpogglcbphilaaRel2
namespace Go.Proofs.Ytlpogglcbphilaa
open Go.RowKit

theorem impl_legTime {t : TeamD} {ao : Option Addr} {ac m : Nat} {w : World} (hr : RowAt w ao 1 t.legs.length (ic t.legs)) (hn : t.legs.length ≤ 9223372036854775807) (hm : m ≤ 1000) :
    Calls Try.prog 47 #[t.val ao ac, .int .i64 m] w fun e w' => e = .returned (.int .i64 (legT t m)) ∧ Ext w w' := by
  obtain ⟨num, l⟩ := t
  dsimp only [TeamD.val] at hr hn ⊢
  by_cases hlt : m < l.length
  · rw [legT_in hlt]
    have hw0 : Ext w (w.alloc (Obj.cells #[.int .i64 num, .slice ao l.length ac] 51)) := (Ext.refl _).alloc _
    obtain ⟨b, off, rfl, hcell⟩ := hr (by omega)
    have d0 := hw0.cells (hcell m hlt 0 (by decide))
    have d1 := hcell m hlt 0 (by decide)
    have hb := World.block_lt_of_cell? _ _ d1
    simp only [ic, Nat.mul_one, Nat.add_zero] at d0 d1
    clear hcell hr
    go_enter Try.func47, Try.ntmps47
    go_wp2
    go_ret
    exact ⟨rfl, (by repeat (first | (with_reducible exact Ext.refl _) | (with_reducible assumption) | with_reducible refine Ext.drew ?_ | with_reducible refine Ext.alloc ?_ _ | with_reducible refine Ext.setCell ?_ (by first | (simp; done) | (simp; omega) | omega) _ | with_reducible refine Ext.trans ?_ (by with_reducible assumption)))⟩
  · rw [legT_out hlt]
    go_enter Try.func47, Try.ntmps47
    go_wp2
    go_ret
    exact ⟨rfl, (by repeat (first | (with_reducible exact Ext.refl _) | (with_reducible assumption) | with_reducible refine Ext.drew ?_ | with_reducible refine Ext.alloc ?_ _ | with_reducible refine Ext.setCell ?_ (by first | (simp; done) | (simp; omega) | omega) _ | with_reducible refine Ext.trans ?_ (by with_reducible assumption)))⟩

theorem fastU_bd {ts : List TeamD} {legs : Int} (h : teamsB ts legs = true) (m : Nat) : ∀ k, k ≤ ts.length → ∀ b l, fastU ts m k = some (b, l) → 1 ≤ b ∧ b ≤ 99 ∧ 0 < l ∧ l ≤ 10000 := by
  intro k
  induction k with
  | zero => intro _ b l e; cases e
  | succ k ih =>
    intro hk b l e
    have hok := teamOk h (show k < ts.length by omega)
    have h1 := hok.num
    have h2 := legT_bd hok m
    rw [fastU] at e
    split at e
    · cases hf : fastU ts m k with
      | none => rw [hf] at e; injection e with e; injection e with e1 e2; omega
      | some p =>
        obtain ⟨b', l'⟩ := p
        rw [hf] at e
        simp only at e
        split at e
        · injection e with e; injection e with e1 e2; omega
        · injection e with e; injection e with e1 e2
          have := ih (by omega) b' l' hf
          omega
    · exact ih (by omega) b l e
theorem fastU_no {ts : List TeamD} {m k : Nat} (h : ¬ 0 < legT (nth ts k) m) : fastU ts m (k + 1) = fastU ts m k := by rw [fastU, if_neg h]
theorem fastU_first {ts : List TeamD} {m k : Nat} (h : 0 < legT (nth ts k) m) (hf : fastU ts m k = none) : fastU ts m (k + 1) = some ((nth ts k).num, legT (nth ts k) m) := by rw [fastU, if_pos h, hf]
theorem fastU_less {ts : List TeamD} {m k : Nat} {b l : Int} (h : 0 < legT (nth ts k) m) (hf : fastU ts m k = some (b, l)) (hl : legT (nth ts k) m < l) : fastU ts m (k + 1) = some ((nth ts k).num, legT (nth ts k) m) := by
  rw [fastU, if_pos h, hf]; simp [hl]
theorem fastU_more {ts : List TeamD} {m k : Nat} {b l : Int} (h : 0 < legT (nth ts k) m) (hf : fastU ts m k = some (b, l)) (hl : ¬ legT (nth ts k) m < l) : fastU ts m (k + 1) = some (b, l) := by
  rw [fastU, if_pos h, hf]; simp [hl]

/-- what the variables of the loop hold: the program's, the reference's -/
def fastI : Option (Int × Int) → Int × Int
  | none => (0, 0)
  | some p => p
def fastS : Option (Int × Int) → Int × Int
  | none => (0, -1)
  | some p => p

set_option maxRecDepth 100000 in
set_option maxHeartbeats 4000000 in
theorem impl_FastestOn {ao : Option Addr} {cap : Nat} {ts : List TeamD} {legs leg : Int} {w : World} (h : GRow w ao 2 ts.length (tsC ts)) (hn : ts.length ≤ 9223372036854775807) (_h1 : I64 legs) (_h2 : I64 leg) :
    Calls Try.prog 31 #[.slice ao ts.length cap, .int .i64 legs, .int .i64 leg] w fun e w' => e = .returned (gFast ts legs leg) ∧ Ext w w' := by
  cases hv : teamsB ts legs
  · have hfin : gFast ts legs leg = .tuple #[.int .i64 0, .int .i64 0, .bool false] := by simp [gFast, hv, fastV]
    rw [hfin]; clear hfin
    go_enter Try.func31, Try.ntmps31
    go_wp2_with fail
    refine (impl_AreTeams h hn).mono ?_; rw [hv]; rintro e w1 ⟨rfl, hx1⟩
    go_wp2
    go_ret3
    exact ⟨rfl, (by repeat (first | (with_reducible exact Ext.refl _) | (with_reducible assumption) | with_reducible refine Ext.drew ?_ | with_reducible refine Ext.alloc ?_ _ | with_reducible refine Ext.setCell ?_ (by first | (simp; done) | (simp; omega) | omega) _ | with_reducible refine Ext.trans ?_ (by with_reducible assumption)))⟩
  · have hl4 := (teamsB_at hv).1
    cases hg : inB leg 0 (legs - 1)
    · have hfin : gFast ts legs leg = .tuple #[.int .i64 0, .int .i64 0, .bool false] := by simp [gFast, hg, fastV]
      rw [hfin]; clear hfin
      go_enter Try.func31, Try.ntmps31
      go_wp2_with fail
      refine (impl_AreTeams h hn).mono ?_; rw [hv]; rintro e w1 ⟨rfl, hx1⟩
      go_wp2_with fail
      refine impl_inside.mono ?_; rw [hg]; rintro e w2 ⟨rfl, rfl⟩
      go_wp2
      go_ret3
      exact ⟨rfl, (by repeat (first | (with_reducible exact Ext.refl _) | (with_reducible assumption) | with_reducible refine Ext.drew ?_ | with_reducible refine Ext.alloc ?_ _ | with_reducible refine Ext.setCell ?_ (by first | (simp; done) | (simp; omega) | omega) _ | with_reducible refine Ext.trans ?_ (by with_reducible assumption)))⟩
    · have hgb := inB_iff.1 hg
      obtain ⟨m, rfl⟩ : ∃ m : Nat, leg = m := ⟨leg.toNat, by omega⟩
      have hm4 : m ≤ 1000 := by omega
      have hfin : gFast ts legs m = fastV (fastU ts m ts.length) := by simp [gFast, hv, hg]
      have HF := Lib.hid hfin; clear hfin
      have hbd := fastU_bd hv m
      have HB := Lib.hid hbd; clear hbd
      have hok := fun k (hk : k < ts.length) => teamOk hv hk
      have HOK := Lib.hid hok; clear hok
      have HV := Lib.hid hv; clear hv
      have HG := Lib.hid hg; clear hg
      obtain ⟨n, hN⟩ : ∃ n, n = ts.length := ⟨_, rfl⟩
      have h8 : n ≤ 8 := by rw [hN]; exact (teamsB_at HV.out).2.1
      rw [← hN] at hn h HB HOK HF ⊢
      have hA := impl_AreTeams (cap := cap) (legs := legs) (w := w) (ts := ts) (ao := ao) (by rw [← hN]; exact h) (by rw [← hN]; exact hn)
      rw [← hN, HV.out] at hA
      clear hN
      go_enter Try.func31, Try.ntmps31
      go_wp2_with fail
      refine hA.mono ?_; rintro e w1 ⟨rfl, hx1⟩
      go_wp2_with fail
      refine impl_inside.mono ?_; rw [HG.out]; rintro e w2 ⟨rfl, rfl⟩
      clear hA
      go_wp2
      go_loopw [9, 10, 27] (fun b l i wr => ∃ k : Nat, k ≤ n ∧ i = .int .i64 k ∧ b = .int .i64 (fastI (fastU ts m k)).1 ∧ l = .int .i64 (fastI (fastU ts m k)).2 ∧ Ext w wr) (fun _ _ i _ => n - (intOf i).toNat)
      case atStart => exact ⟨0, Nat.zero_le _, rfl, rfl, rfl, hx1⟩
      case round =>
        clear hx1
        obtain ⟨k, hk, rfl, rfl, rfl, hx⟩ := hrel
        by_cases hlt : k < n
        · obtain ⟨b, off, rfl, hcell⟩ := h (by omega)
          obtain ⟨a1, c1, d0, d1, r1, n1, l1⟩ := teams_at (fun j hj => (hcell k hlt j hj).ext hx)
          have hT := fun x (hX : Ext wr x) => impl_legTime (w := x) (t := nth ts k) (ac := c1) (r1.ext hX) n1 hm4
          unfold TeamD.val at hT
          have ho := HOK.out k hlt
          have hnum := ho.num
          have hlb := legT_bd ho m
          clear hcell h ho
          cases hf : fastU ts m k with
          | none =>
            simp only [fastI]
            have HFU := Lib.hid hf; clear hf
            by_cases hp : 0 < legT (nth ts k) m
            · have hnx := fastU_first hp HFU.out
              have HN := Lib.hid hnx; clear hnx
              go_wp2_with fail
              refine (hT _ (by repeat (first | (with_reducible exact Ext.refl _) | (with_reducible assumption) | with_reducible refine Ext.drew ?_ | with_reducible refine Ext.alloc ?_ _ | with_reducible refine Ext.setCell ?_ (by first | (simp; done) | (simp; omega) | omega) _ | with_reducible refine Ext.trans ?_ (by with_reducible assumption)))).mono ?_; rintro e w2 ⟨rfl, hx2⟩
              have f0 : w2.cell? ⟨wr.heap.size, 0, none⟩ = some (.int .i64 (nth ts k).num) := hx2.cells (by go_simp)
              go_wp2
              go_roundw
              case rel => exact ⟨k + 1, by omega, by go_num, by rw [HN.out]; try rfl, by rw [HN.out]; try rfl, (by repeat (first | (with_reducible exact Ext.refl _) | (with_reducible assumption) | with_reducible refine Ext.drew ?_ | with_reducible refine Ext.alloc ?_ _ | with_reducible refine Ext.setCell ?_ (by first | (simp; done) | (simp; omega) | omega) _ | with_reducible refine Ext.trans ?_ (by with_reducible assumption)))⟩
              case measure => simp [intOf]; omega
            · have hnx := (fastU_no hp).trans HFU.out
              have HN := Lib.hid hnx; clear hnx
              go_wp2_with fail
              refine (hT _ (by repeat (first | (with_reducible exact Ext.refl _) | (with_reducible assumption) | with_reducible refine Ext.drew ?_ | with_reducible refine Ext.alloc ?_ _ | with_reducible refine Ext.setCell ?_ (by first | (simp; done) | (simp; omega) | omega) _ | with_reducible refine Ext.trans ?_ (by with_reducible assumption)))).mono ?_; rintro e w2 ⟨rfl, hx2⟩
              go_wp2
              go_roundw
              case rel => exact ⟨k + 1, by omega, by go_num, by rw [HN.out]; try rfl, by rw [HN.out]; try rfl, (by repeat (first | (with_reducible exact Ext.refl _) | (with_reducible assumption) | with_reducible refine Ext.drew ?_ | with_reducible refine Ext.alloc ?_ _ | with_reducible refine Ext.setCell ?_ (by first | (simp; done) | (simp; omega) | omega) _ | with_reducible refine Ext.trans ?_ (by with_reducible assumption)))⟩
              case measure => simp [intOf]; omega
          | some p =>
            obtain ⟨fb, fll⟩ := p
            have hfb := HB.out k (by omega) fb fll hf
            simp only [fastI]
            have hz : (fb == 0) = false := by simp; omega
            have HFU := Lib.hid hf; clear hf
            by_cases hp : 0 < legT (nth ts k) m
            · by_cases hq : legT (nth ts k) m < fll
              · have hnx := fastU_less hp HFU.out hq
                have HN := Lib.hid hnx; clear hnx
                go_wp2_with fail
                refine (hT _ (by repeat (first | (with_reducible exact Ext.refl _) | (with_reducible assumption) | with_reducible refine Ext.drew ?_ | with_reducible refine Ext.alloc ?_ _ | with_reducible refine Ext.setCell ?_ (by first | (simp; done) | (simp; omega) | omega) _ | with_reducible refine Ext.trans ?_ (by with_reducible assumption)))).mono ?_; rintro e w2 ⟨rfl, hx2⟩
                have f0 : w2.cell? ⟨wr.heap.size, 0, none⟩ = some (.int .i64 (nth ts k).num) := hx2.cells (by go_simp)
                go_wp2
                go_roundw
                case rel => exact ⟨k + 1, by omega, by go_num, by rw [HN.out]; try rfl, by rw [HN.out]; try rfl, (by repeat (first | (with_reducible exact Ext.refl _) | (with_reducible assumption) | with_reducible refine Ext.drew ?_ | with_reducible refine Ext.alloc ?_ _ | with_reducible refine Ext.setCell ?_ (by first | (simp; done) | (simp; omega) | omega) _ | with_reducible refine Ext.trans ?_ (by with_reducible assumption)))⟩
                case measure => simp [intOf]; omega
              · have hnx := fastU_more hp HFU.out hq
                have HN := Lib.hid hnx; clear hnx
                go_wp2_with fail
                refine (hT _ (by repeat (first | (with_reducible exact Ext.refl _) | (with_reducible assumption) | with_reducible refine Ext.drew ?_ | with_reducible refine Ext.alloc ?_ _ | with_reducible refine Ext.setCell ?_ (by first | (simp; done) | (simp; omega) | omega) _ | with_reducible refine Ext.trans ?_ (by with_reducible assumption)))).mono ?_; rintro e w2 ⟨rfl, hx2⟩
                go_wp2
                go_roundw
                case rel => exact ⟨k + 1, by omega, by go_num, by rw [HN.out]; try rfl, by rw [HN.out]; try rfl, (by repeat (first | (with_reducible exact Ext.refl _) | (with_reducible assumption) | with_reducible refine Ext.drew ?_ | with_reducible refine Ext.alloc ?_ _ | with_reducible refine Ext.setCell ?_ (by first | (simp; done) | (simp; omega) | omega) _ | with_reducible refine Ext.trans ?_ (by with_reducible assumption)))⟩
                case measure => simp [intOf]; omega
            · have hnx := (fastU_no hp).trans HFU.out
              have HN := Lib.hid hnx; clear hnx
              go_wp2_with fail
              refine (hT _ (by repeat (first | (with_reducible exact Ext.refl _) | (with_reducible assumption) | with_reducible refine Ext.drew ?_ | with_reducible refine Ext.alloc ?_ _ | with_reducible refine Ext.setCell ?_ (by first | (simp; done) | (simp; omega) | omega) _ | with_reducible refine Ext.trans ?_ (by with_reducible assumption)))).mono ?_; rintro e w2 ⟨rfl, hx2⟩
              go_wp2
              go_roundw
              case rel => exact ⟨k + 1, by omega, by go_num, by rw [HN.out]; try rfl, by rw [HN.out]; try rfl, (by repeat (first | (with_reducible exact Ext.refl _) | (with_reducible assumption) | with_reducible refine Ext.drew ?_ | with_reducible refine Ext.alloc ?_ _ | with_reducible refine Ext.setCell ?_ (by first | (simp; done) | (simp; omega) | omega) _ | with_reducible refine Ext.trans ?_ (by with_reducible assumption)))⟩
              case measure => simp [intOf]; omega
        · obtain rfl : k = n := by omega
          cases hf : fastU ts m k with
          | none =>
            simp only [fastI]
            have HFU := Lib.hid hf; clear hf
            go_wp2
            go_ret3
            exact ⟨by rw [HF.out, HFU.out]; rfl, (by repeat (first | (with_reducible exact Ext.refl _) | (with_reducible assumption) | with_reducible refine Ext.drew ?_ | with_reducible refine Ext.alloc ?_ _ | with_reducible refine Ext.setCell ?_ (by first | (simp; done) | (simp; omega) | omega) _ | with_reducible refine Ext.trans ?_ (by with_reducible assumption)))⟩
          | some p =>
            obtain ⟨fb, fll⟩ := p
            have hfb := HB.out k (by omega) fb fll hf
            simp only [fastI]
            have HFU := Lib.hid hf; clear hf
            have hpos : decide (0 < fb) = true := by simp; omega
            go_wp2
            go_ret3
            exact ⟨by rw [HF.out, HFU.out]; rfl, (by repeat (first | (with_reducible exact Ext.refl _) | (with_reducible assumption) | with_reducible refine Ext.drew ?_ | with_reducible refine Ext.alloc ?_ _ | with_reducible refine Ext.setCell ?_ (by first | (simp; done) | (simp; omega) | omega) _ | with_reducible refine Ext.trans ?_ (by with_reducible assumption)))⟩

set_option maxRecDepth 100000 in
set_option maxHeartbeats 4000000 in
theorem spec_FastestOn {ao : Option Addr} {cap : Nat} {ts : List TeamD} {legs leg : Int} {w : World} (h : GRow w ao 2 ts.length (tsC ts)) (hn : ts.length ≤ 9223372036854775807) (_h1 : I64 legs) (_h2 : I64 leg) :
    Calls Try.prog 32 #[.slice ao ts.length cap, .int .i64 legs, .int .i64 leg] w fun e w' => e = .returned (gFast ts legs leg) ∧ Ext w w' := by
  cases hv : teamsB ts legs
  · have hfin : gFast ts legs leg = .tuple #[.int .i64 0, .int .i64 0, .bool false] := by simp [gFast, hv, fastV]
    rw [hfin]; clear hfin
    go_enter Try.func32, Try.ntmps32
    go_wp2_with fail
    refine (spec_l16Good h hn).mono ?_; rw [hv]; rintro e w1 ⟨rfl, hx1⟩
    go_wp2
    go_ret3
    exact ⟨rfl, (by repeat (first | (with_reducible exact Ext.refl _) | (with_reducible assumption) | with_reducible refine Ext.drew ?_ | with_reducible refine Ext.alloc ?_ _ | with_reducible refine Ext.setCell ?_ (by first | (simp; done) | (simp; omega) | omega) _ | with_reducible refine Ext.trans ?_ (by with_reducible assumption)))⟩
  · have hl4 := (teamsB_at hv).1
    cases hg : inB leg 0 (legs - 1)
    · have hfin : gFast ts legs leg = .tuple #[.int .i64 0, .int .i64 0, .bool false] := by simp [gFast, hg, fastV]
      rw [hfin]; clear hfin
      go_enter Try.func32, Try.ntmps32
      go_wp2_with fail
      refine (spec_l16Good h hn).mono ?_; rw [hv]; rintro e w1 ⟨rfl, hx1⟩
      go_wp2_with fail
      refine spec_l1In.mono ?_; rw [hg]; rintro e w2 ⟨rfl, rfl⟩
      go_wp2
      go_ret3
      exact ⟨rfl, (by repeat (first | (with_reducible exact Ext.refl _) | (with_reducible assumption) | with_reducible refine Ext.drew ?_ | with_reducible refine Ext.alloc ?_ _ | with_reducible refine Ext.setCell ?_ (by first | (simp; done) | (simp; omega) | omega) _ | with_reducible refine Ext.trans ?_ (by with_reducible assumption)))⟩
    · have hgb := inB_iff.1 hg
      obtain ⟨m, rfl⟩ : ∃ m : Nat, leg = m := ⟨leg.toNat, by omega⟩
      have hm4 : m ≤ 1000 := by omega
      have hfin : gFast ts legs m = fastV (fastU ts m ts.length) := by simp [gFast, hv, hg]
      have HF := Lib.hid hfin; clear hfin
      have hbd := fastU_bd hv m
      have HB := Lib.hid hbd; clear hbd
      have hok := fun k (hk : k < ts.length) => teamOk hv hk
      have HOK := Lib.hid hok; clear hok
      have HV := Lib.hid hv; clear hv
      have HG := Lib.hid hg; clear hg
      obtain ⟨n, hN⟩ : ∃ n, n = ts.length := ⟨_, rfl⟩
      have h8 : n ≤ 8 := by rw [hN]; exact (teamsB_at HV.out).2.1
      rw [← hN] at hn h HB HOK HF ⊢
      have hA := spec_l16Good (cap := cap) (legs := legs) (w := w) (ts := ts) (ao := ao) (by rw [← hN]; exact h) (by rw [← hN]; exact hn)
      rw [← hN, HV.out] at hA
      clear hN
      go_enter Try.func32, Try.ntmps32
      go_wp2_with fail
      refine hA.mono ?_; rintro e w1 ⟨rfl, hx1⟩
      go_wp2_with fail
      refine spec_l1In.mono ?_; rw [HG.out]; rintro e w2 ⟨rfl, rfl⟩
      clear hA
      go_wp2
      go_loopw [9, 10, 11] (fun b l i wr => ∃ k : Nat, k ≤ n ∧ i = .int .i64 k ∧ b = .int .i64 (fastS (fastU ts m k)).1 ∧ l = .int .i64 (fastS (fastU ts m k)).2 ∧ Ext w wr) (fun _ _ i _ => n - (intOf i).toNat)
      case atStart => exact ⟨0, Nat.zero_le _, rfl, rfl, rfl, hx1⟩
      case round =>
        clear hx1
        obtain ⟨k, hk, rfl, rfl, rfl, hx⟩ := hrel
        by_cases hlt : k < n
        · obtain ⟨b, off, rfl, hcell⟩ := h (by omega)
          obtain ⟨a1, c1, d0, d1, r1, n1, l1⟩ := teams_at (fun j hj => (hcell k hlt j hj).ext hx)
          have ho := HOK.out k hlt
          have hnum := ho.num
          clear hcell h
          by_cases hin : m < (nth ts k).legs.length
          · obtain ⟨b1, o1, rfl, hc1⟩ := r1 (by omega)
            have e1 := hc1 m hin 0 (by decide)
            simp only [ic, Nat.mul_one, Nat.add_zero] at e1
            have hlb := ho.leg m hin
            have hTT := legT_in hin
            clear hc1 r1 ho
            by_cases hz0 : nth (nth ts k).legs m = 0
            · have hz : (nth (nth ts k).legs m == 0) = true := by simp [hz0]
              have hnx : fastU ts m (k + 1) = fastU ts m k := fastU_no (by rw [hTT]; omega)
              have HN := Lib.hid hnx; clear hnx hTT
              have HZ := Lib.hid hz0; clear hz0
              go_wp2
              go_roundw
              case rel => exact ⟨k + 1, by omega, by go_num, by rw [HN.out], by rw [HN.out], (by repeat (first | (with_reducible exact Ext.refl _) | (with_reducible assumption) | with_reducible refine Ext.drew ?_ | with_reducible refine Ext.alloc ?_ _ | with_reducible refine Ext.setCell ?_ (by first | (simp; done) | (simp; omega) | omega) _ | with_reducible refine Ext.trans ?_ (by with_reducible assumption)))⟩
              case measure => simp [intOf]; omega
            · have hz : (nth (nth ts k).legs m == 0) = false := by simp [hz0]
              have hp : 0 < legT (nth ts k) m := by rw [hTT]; omega
              cases hf : fastU ts m k with
              | none =>
                simp only [fastS]
                have hnx := fastU_first hp hf
                rw [hTT] at hnx
                have HN := Lib.hid hnx; clear hnx hTT hp
                have HFU := Lib.hid hf; clear hf hz0
                go_wp2
                go_roundw
                case rel => exact ⟨k + 1, by omega, by go_num, by rw [HN.out]; try rfl, by rw [HN.out]; try rfl, (by repeat (first | (with_reducible exact Ext.refl _) | (with_reducible assumption) | with_reducible refine Ext.drew ?_ | with_reducible refine Ext.alloc ?_ _ | with_reducible refine Ext.setCell ?_ (by first | (simp; done) | (simp; omega) | omega) _ | with_reducible refine Ext.trans ?_ (by with_reducible assumption)))⟩
                case measure => simp [intOf]; omega
              | some p =>
                obtain ⟨fb, fll⟩ := p
                have hfb := HB.out k (by omega) fb fll hf
                simp only [fastS]
                by_cases hq : nth (nth ts k).legs m < fll
                · have hnx := fastU_less hp hf (by rw [hTT]; exact hq)
                  rw [hTT] at hnx
                  have HN := Lib.hid hnx; clear hnx hTT hp
                  have HFU := Lib.hid hf; clear hf hz0
                  go_wp2
                  go_roundw
                  case rel => exact ⟨k + 1, by omega, by go_num, by rw [HN.out]; try rfl, by rw [HN.out]; try rfl, (by repeat (first | (with_reducible exact Ext.refl _) | (with_reducible assumption) | with_reducible refine Ext.drew ?_ | with_reducible refine Ext.alloc ?_ _ | with_reducible refine Ext.setCell ?_ (by first | (simp; done) | (simp; omega) | omega) _ | with_reducible refine Ext.trans ?_ (by with_reducible assumption)))⟩
                  case measure => simp [intOf]; omega
                · have hnx := fastU_more hp hf (by rw [hTT]; exact hq)
                  have HN := Lib.hid hnx; clear hnx hTT hp
                  have HFU := Lib.hid hf; clear hf hz0
                  go_wp2
                  go_roundw
                  case rel => exact ⟨k + 1, by omega, by go_num, by rw [HN.out]; try rfl, by rw [HN.out]; try rfl, (by repeat (first | (with_reducible exact Ext.refl _) | (with_reducible assumption) | with_reducible refine Ext.drew ?_ | with_reducible refine Ext.alloc ?_ _ | with_reducible refine Ext.setCell ?_ (by first | (simp; done) | (simp; omega) | omega) _ | with_reducible refine Ext.trans ?_ (by with_reducible assumption)))⟩
                  case measure => simp [intOf]; omega
          · have hnx : fastU ts m (k + 1) = fastU ts m k := fastU_no (by rw [legT_out hin]; omega)
            have HN := Lib.hid hnx; clear hnx ho
            go_wp2
            go_roundw
            case rel => exact ⟨k + 1, by omega, by go_num, by rw [HN.out], by rw [HN.out], (by repeat (first | (with_reducible exact Ext.refl _) | (with_reducible assumption) | with_reducible refine Ext.drew ?_ | with_reducible refine Ext.alloc ?_ _ | with_reducible refine Ext.setCell ?_ (by first | (simp; done) | (simp; omega) | omega) _ | with_reducible refine Ext.trans ?_ (by with_reducible assumption)))⟩
            case measure => simp [intOf]; omega
        · obtain rfl : k = n := by omega
          cases hf : fastU ts m k with
          | none =>
            simp only [fastS]
            have HFU := Lib.hid hf; clear hf
            go_wp2
            go_ret3
            exact ⟨by rw [HF.out, HFU.out]; rfl, (by repeat (first | (with_reducible exact Ext.refl _) | (with_reducible assumption) | with_reducible refine Ext.drew ?_ | with_reducible refine Ext.alloc ?_ _ | with_reducible refine Ext.setCell ?_ (by first | (simp; done) | (simp; omega) | omega) _ | with_reducible refine Ext.trans ?_ (by with_reducible assumption)))⟩
          | some p =>
            obtain ⟨fb, fll⟩ := p
            have hfb := HB.out k (by omega) fb fll hf
            simp only [fastS]
            have HFU := Lib.hid hf; clear hf
            go_wp2
            go_ret3
            exact ⟨by rw [HF.out, HFU.out]; rfl, (by repeat (first | (with_reducible exact Ext.refl _) | (with_reducible assumption) | with_reducible refine Ext.drew ?_ | with_reducible refine Ext.alloc ?_ _ | with_reducible refine Ext.setCell ?_ (by first | (simp; done) | (simp; omega) | omega) _ | with_reducible refine Ext.trans ?_ (by with_reducible assumption)))⟩

end Go.Proofs.Ytlpogglcbphilaa
