/-
  Proved here: what IsRound and its reference return.
  Conditions: no more than 1048576 heats.
-/
import Derived.Test.YtdbibdecnepobaaTHeatS
import Derived.Test.YtdbibdecnepobaaOwn
namespace Go.Proofs.Ytdbibdecnepobaa
open Go.RowKit

theorem nth_get {α : Type} [Inhabited α] {xs : List α} {k : Nat} (h : k < xs.length) : nth xs k = xs[k] := by simp [nth, List.getD, h]
theorem hasI_mem {xs : List Int} {v : Int} : hasI xs xs.length v = true ↔ v ∈ xs := by
  constructor
  · intro h
    refine Classical.byContradiction fun hn => ?_
    rw [hasI_no fun k hk e => hn ?_] at h
    · cases h
    · rw [← e, nth_get hk]; exact List.getElem_mem hk
  · intro h
    obtain ⟨k, hk, e⟩ := List.mem_iff_getElem.1 h
    exact hasI_yes hk (by rw [nth_get hk, e])
theorem hasI_lt {xs : List Int} {n : Nat} {v : Int} : hasI xs n v = true ↔ ∃ k, k < n ∧ nth xs k = v := by
  constructor
  · intro h
    refine Classical.byContradiction fun hn => ?_
    rw [hasI_no fun k hk e => hn ⟨k, hk, e⟩] at h
    cases h
  · rintro ⟨k, hk, e⟩; exact hasI_yes hk e
theorem onceU_nodup {xs : List Int} : onceU xs xs.length = true ↔ xs.Nodup := by
  rw [onceU, upto_true, List.Nodup, List.pairwise_iff_getElem]
  constructor
  · intro h i j hi hj hij e
    have := h j hj
    rw [hasI_yes hij (by rw [nth_get hi, nth_get hj, e])] at this
    cases this
  · intro h k hk
    rw [hasI_no fun j hj e => ?_]
    · rfl
    · rw [nth_get hk, nth_get (show j < xs.length by omega)] at e
      exact h j k (by omega) hk hj e

/-- all runners of the first k heats -/
def allR (hs : List HeatD) : Nat → List Int
  | 0 => []
  | k + 1 => allR hs k ++ (nth hs k).rs
def okRound (hs : List HeatD) (k : Nat) : Bool := heatB (nth hs k) && onceU (allR hs (k + 1)) (allR hs (k + 1)).length
def roundB (hs : List HeatD) : Bool := upto (okRound hs) hs.length && inB hs.length 1 4
theorem heatB_len {h : HeatD} (hh : heatB h = true) : 2 ≤ h.rs.length ∧ h.rs.length ≤ 6 := by
  simp only [heatB, headH, Bool.and_eq_true] at hh
  have := inB_iff.1 hh.1.1.1
  omega
theorem heatB_nodup {h : HeatD} (hh : heatB h = true) : h.rs.Nodup := by
  simp only [heatB, headH, Bool.and_eq_true] at hh
  exact onceU_nodup.1 hh.1.2
theorem allR_len {hs : List HeatD} {k : Nat} (h : upto (okRound hs) k = true) : (allR hs k).length ≤ 6 * k := by
  induction k with
  | zero => simp [allR]
  | succ k ih =>
    simp only [upto, Bool.and_eq_true, okRound] at h
    have h1 := ih h.1
    have h2 := heatB_len h.2.1
    simp only [allR, List.length_append]
    omega
/-- none of the runners stands in the list -/
def apart (xs ys : List Int) : Nat → Bool := upto fun j => !hasI xs xs.length (nth ys j)
def okRoundS (hs : List HeatD) (k : Nat) : Bool := heatB (nth hs k) && apart (allR hs k) (nth hs k).rs (nth hs k).rs.length
theorem apart_iff {xs ys : List Int} : apart xs ys ys.length = true ↔ ∀ a, a ∈ xs → ∀ b, b ∈ ys → a ≠ b := by
  rw [apart, upto_true]
  constructor
  · intro h a ha b hb e
    obtain ⟨k, hk, e'⟩ := List.mem_iff_getElem.1 hb
    have := h k hk
    rw [nth_get hk, e', ← e, hasI_mem.2 ha] at this
    cases this
  · intro h k hk
    cases e : hasI xs xs.length (nth ys k)
    · rfl
    · exact absurd rfl (h _ (hasI_mem.1 e) _ (by rw [nth_get hk]; exact List.getElem_mem hk))
theorem round_same (hs : List HeatD) (n : Nat) : upto (okRound hs) n = upto (okRoundS hs) n ∧ (upto (okRound hs) n = true → (allR hs n).Nodup) := by
  induction n with
  | zero => exact ⟨rfl, fun _ => by simp [allR]⟩
  | succ n ih =>
    obtain ⟨h1, h2⟩ := ih
    cases hu : upto (okRound hs) n
    · have hu' := h1.symm.trans hu
      simp [upto, hu, hu']
    · have hu' := h1.symm.trans hu
      have hn := h2 hu
      have e : okRound hs n = okRoundS hs n := by
        unfold okRound okRoundS
        cases hh : heatB (nth hs n)
        · rfl
        · rw [Bool.eq_iff_iff]
          simp only [Bool.true_and]
          rw [onceU_nodup, apart_iff, allR, List.nodup_append]
          exact ⟨fun h => h.2.2, fun h => ⟨hn, heatB_nodup hh, h⟩⟩
      refine ⟨by simp [upto, hu, hu', e], fun h => ?_⟩
      simp only [upto, Bool.and_eq_true, okRound] at h
      exact onceU_nodup.1 h.2.2
theorem roundB_spec (hs : List HeatD) : roundB hs = (upto (okRoundS hs) hs.length && inB hs.length 1 4) := by rw [roundB, (round_same hs _).1]

def icc (x : Int) (_ : Nat) : Value := .int .i64 x
theorem icc_one : ∀ (x : Int) (j : Nat), j < 1 → (icc x j).oneCell' = true := fun _ _ _ => rfl

set_option maxRecDepth 100000 in
set_option maxHeartbeats 2000000 in
theorem impl_IsRound {ao : Option Addr} {cap : Nat} {hs : List HeatD} {w : World} (h : GRow w ao 2 hs.length (hsC hs)) (hn : hs.length ≤ 1048576) :
    Calls Try.prog 25 #[.slice ao hs.length cap] w fun e w' => e = .returned (.bool (roundB hs)) ∧ Ext w w' := by
  obtain ⟨i0, hi, hz0, hz1, hz2⟩ := info_parts infoInt
  obtain ⟨n, hN⟩ : ∃ n, n = hs.length := ⟨_, rfl⟩
  have hfin : roundB hs = (upto (okRound hs) n && inB n 1 4) := by rw [hN]; rfl
  have HF := Lib.hid hfin; clear hfin
  rw [← hN] at hn h ⊢
  clear hN
  go_enter Try.func25, Try.ntmps25
  go_wp2
  go_loopw [3, 9] (fun v i wr => ∃ k : Nat, k ≤ n ∧ i = .int .i64 k ∧ Ext w wr ∧ upto (okRound hs) k = true ∧ Owns wr w.heap.size 3 1 icc v (allR hs k)) (fun _ i _ => n - (intOf i).toNat)
  case atStart => exact ⟨0, Nat.zero_le _, rfl, (by repeat (first | (with_reducible exact Ext.refl _) | (with_reducible assumption) | with_reducible refine Ext.drew ?_ | with_reducible refine Ext.alloc ?_ _ | with_reducible refine Ext.setCell ?_ (by first | (simp; done) | (simp; omega) | omega) _ | with_reducible refine Ext.trans ?_ (by with_reducible assumption))), rfl, Owns.start (Ext.refl _)⟩
  case round =>
    obtain ⟨k, hk, rfl, hx, hu, hown⟩ := hrel
    have HU := Lib.hid hu; clear hu
    by_cases hlt : k < n
    · obtain ⟨b, off, rfl, hcell⟩ := h (by omega)
      obtain ⟨a1, c1, a2, c2, d0, d1, r1, r2, n1, n2, l1, l2⟩ := heats_at (fun j hj => (hcell k hlt j hj).ext hx)
      have hH := fun x (hX : Ext wr x) => impl_IsHeat (w := x) (h := nth hs k) (r1.ext hX) (r2.ext hX) n1 n2 l1 l2
      unfold HeatD.val at hH
      clear hcell h
      cases hh : heatB (nth hs k)
      · rw [hh] at hH
        go_wp2_with fail
        refine (hH _ (by repeat (first | (with_reducible exact Ext.refl _) | (with_reducible assumption) | with_reducible refine Ext.drew ?_ | with_reducible refine Ext.alloc ?_ _ | with_reducible refine Ext.setCell ?_ (by first | (simp; done) | (simp; omega) | omega) _ | with_reducible refine Ext.trans ?_ (by with_reducible assumption)))).mono ?_; rintro e w2 ⟨rfl, hx2⟩
        go_wp2
        go_ret
        exact ⟨ret_b (by rw [HF.out, upto_false hlt (by simp [okRound, hh])]; rfl), (by repeat (first | (with_reducible exact Ext.refl _) | (with_reducible assumption) | with_reducible refine Ext.drew ?_ | with_reducible refine Ext.alloc ?_ _ | with_reducible refine Ext.setCell ?_ (by first | (simp; done) | (simp; omega) | omega) _ | with_reducible refine Ext.trans ?_ (by with_reducible assumption)))⟩
      · rw [hh] at hH
        have hl6 := heatB_len hh
        have hal := allR_len HU.out
        have hnil : a1 = none → c1 = 0 := fun e => by obtain ⟨_, _, e', _⟩ := r1 (by omega); rw [e] at e'; cases e'
        have HN := Lib.hid hnil; clear hnil
        have hlA : (allR hs (k + 1)).length ≤ 9223372036854775807 := by simp only [allR, List.length_append]; omega
        go_wp2_with fail
        refine (hH _ (by repeat (first | (with_reducible exact Ext.refl _) | (with_reducible assumption) | with_reducible refine Ext.drew ?_ | with_reducible refine Ext.alloc ?_ _ | with_reducible refine Ext.setCell ?_ (by first | (simp; done) | (simp; omega) | omega) _ | with_reducible refine Ext.trans ?_ (by with_reducible assumption)))).mono ?_; rintro e w2 ⟨rfl, hx2⟩
        have f0 : w2.cell? ⟨wr.heap.size, 0, none⟩ = some (.slice a1 (nth hs k).rs.length c1) := hx2.cells (by go_simp)
        have hX : Ext wr w2 := Ext.trans (by repeat (first | (with_reducible exact Ext.refl _) | (with_reducible assumption) | with_reducible refine Ext.drew ?_ | with_reducible refine Ext.alloc ?_ _ | with_reducible refine Ext.setCell ?_ (by first | (simp; done) | (simp; omega) | omega) _ | with_reducible refine Ext.trans ?_ (by with_reducible assumption))) hx2
        have hown2 := hown.kept hX
        have hxw := hx.trans hX
        have r1' := r1.ext hX
        clear hown hX hx2 d0 d1 r1 r2 hH hx
        go_wp2_with (at_builtin; refine wpList_append_rows rfl _ _ 22 rfl w 3 i0 _ 1 8 Try.underlying22 hi hz0 hz1 hz2 rfl (by decide) icc icc_one _ (allR hs k) (nth hs k).rs rfl hown2 a1 _ c1 rfl rfl HN.out r1' (by omega) (by omega) hxw ?_; intro v1 w3 ho1 hx3)
        change Owns w3 w.heap.size 3 1 icc v1 (allR hs (k + 1)) at ho1
        obtain ⟨ao1, cp1, rfl, hf1, _, hle1, _⟩ := ho1.fresh
        cases ht : onceU (allR hs (k + 1)) (allR hs (k + 1)).length
        all_goals
          go_wp2_with fail
          refine (impl_hasTwice hf1.row hlA hle1).mono ?_; rw [ht]; rintro e w4 ⟨rfl, hx4⟩
          go_wp2
        · go_ret
          exact ⟨ret_b (by rw [HF.out, upto_false hlt (by simp [okRound, ht])]; rfl), (by repeat (first | (with_reducible exact Ext.refl _) | (with_reducible assumption) | with_reducible refine Ext.drew ?_ | with_reducible refine Ext.alloc ?_ _ | with_reducible refine Ext.setCell ?_ (by first | (simp; done) | (simp; omega) | omega) _ | with_reducible refine Ext.trans ?_ (by with_reducible assumption)))⟩
        · go_roundw
          case rel => exact ⟨k + 1, by omega, by go_num, (by repeat (first | (with_reducible exact Ext.refl _) | (with_reducible assumption) | with_reducible refine Ext.drew ?_ | with_reducible refine Ext.alloc ?_ _ | with_reducible refine Ext.setCell ?_ (by first | (simp; done) | (simp; omega) | omega) _ | with_reducible refine Ext.trans ?_ (by with_reducible assumption))), upto_succ HU.out (by simp [okRound, hh, ht]), ho1.kept hx4⟩
          case measure => simp [intOf]; omega
    · obtain rfl : k = n := by omega
      go_wp2_with (go_at_call 29; refine (impl_inside).mono ?_; rintro e w1 ⟨rfl, rfl⟩)
      go_ret
      exact ⟨ret_b (by rw [HF.out, HU.out]; rfl), (by repeat (first | (with_reducible exact Ext.refl _) | (with_reducible assumption) | with_reducible refine Ext.drew ?_ | with_reducible refine Ext.alloc ?_ _ | with_reducible refine Ext.setCell ?_ (by first | (simp; done) | (simp; omega) | omega) _ | with_reducible refine Ext.trans ?_ (by with_reducible assumption)))⟩

set_option maxRecDepth 100000 in
set_option maxHeartbeats 2000000 in
theorem spec_l18Good {ao : Option Addr} {cap : Nat} {hs : List HeatD} {w : World} (h : GRow w ao 2 hs.length (hsC hs)) (hn : hs.length ≤ 1048576) :
    Calls Try.prog 40 #[.slice ao hs.length cap] w fun e w' => e = .returned (.bool (roundB hs)) ∧ Ext w w' := by
  obtain ⟨i0, hi, hz0, hz1, hz2⟩ := info_parts infoInt
  obtain ⟨n, hN⟩ : ∃ n, n = hs.length := ⟨_, rfl⟩
  have hfin : roundB hs = (upto (okRoundS hs) n && inB n 1 4) := by rw [hN]; exact roundB_spec hs
  have HF := Lib.hid hfin; clear hfin
  rw [← hN] at hn h ⊢
  clear hN
  go_enter Try.func40, Try.ntmps40
  go_wp2
  go_loopw [3, 4] (fun v i wr => ∃ k : Nat, k ≤ n ∧ i = .int .i64 k ∧ Ext w wr ∧ upto (okRoundS hs) k = true ∧ Owns wr w.heap.size 3 1 icc v (allR hs k)) (fun _ i _ => n - (intOf i).toNat)
  case atStart => exact ⟨0, Nat.zero_le _, rfl, (by repeat (first | (with_reducible exact Ext.refl _) | (with_reducible assumption) | with_reducible refine Ext.drew ?_ | with_reducible refine Ext.alloc ?_ _ | with_reducible refine Ext.setCell ?_ (by first | (simp; done) | (simp; omega) | omega) _ | with_reducible refine Ext.trans ?_ (by with_reducible assumption))), rfl, Owns.start (Ext.refl _)⟩
  case round =>
    obtain ⟨k, hk, rfl, hx, hu, hown⟩ := hrel
    have HU := Lib.hid hu; clear hu
    by_cases hlt : k < n
    · obtain ⟨b, off, rfl, hcell⟩ := h (by omega)
      obtain ⟨a1, c1, a2, c2, d0, d1, r1, r2, n1, n2, l1, l2⟩ := heats_at (fun j hj => (hcell k hlt j hj).ext hx)
      have hH := fun x (hX : Ext wr x) => spec_l18One (w := x) (h := nth hs k) (r1.ext hX) (r2.ext hX) n1 n2 l1 l2
      unfold HeatD.val at hH
      clear hcell h
      cases hh : heatB (nth hs k)
      · rw [hh] at hH
        go_wp2_with fail
        refine (hH _ (by repeat (first | (with_reducible exact Ext.refl _) | (with_reducible assumption) | with_reducible refine Ext.drew ?_ | with_reducible refine Ext.alloc ?_ _ | with_reducible refine Ext.setCell ?_ (by first | (simp; done) | (simp; omega) | omega) _ | with_reducible refine Ext.trans ?_ (by with_reducible assumption)))).mono ?_; rintro e w2 ⟨rfl, hx2⟩
        go_wp2
        go_ret
        exact ⟨ret_b (by rw [HF.out, upto_false hlt (by simp [okRoundS, hh])]; rfl), (by repeat (first | (with_reducible exact Ext.refl _) | (with_reducible assumption) | with_reducible refine Ext.drew ?_ | with_reducible refine Ext.alloc ?_ _ | with_reducible refine Ext.setCell ?_ (by first | (simp; done) | (simp; omega) | omega) _ | with_reducible refine Ext.trans ?_ (by with_reducible assumption)))⟩
      · rw [hh] at hH
        have hl6 := heatB_len hh
        have hal := allR_len ((round_same hs k).1.trans HU.out)
        have hsome := r1 (by omega)
        obtain ⟨b1, o1, rfl, hc1⟩ := hsome
        obtain ⟨v0, cp0, rfl, hf0, _, hle0, _⟩ := hown.fresh
        obtain ⟨wo, rfl⟩ : ∃ wo : World, wo = wr := ⟨_, rfl⟩
        go_wp2_with fail
        refine (hH _ (by repeat (first | (with_reducible exact Ext.refl _) | (with_reducible assumption) | with_reducible refine Ext.drew ?_ | with_reducible refine Ext.alloc ?_ _ | with_reducible refine Ext.setCell ?_ (by first | (simp; done) | (simp; omega) | omega) _ | with_reducible refine Ext.trans ?_ (by with_reducible assumption)))).mono ?_; rintro e w2 ⟨rfl, hx2⟩
        clear hH
        go_wp2
        go_loopw [5] (fun i wr => ∃ j : Nat, j ≤ (nth hs k).rs.length ∧ i = .int .i64 j ∧ Ext wo wr ∧ apart (allR hs k) (nth hs k).rs j = true) (fun i _ => (nth hs k).rs.length - (intOf i).toNat)
        case atStart => exact ⟨0, Nat.zero_le _, rfl, (by repeat (first | (with_reducible exact Ext.refl _) | (with_reducible assumption) | with_reducible refine Ext.drew ?_ | with_reducible refine Ext.alloc ?_ _ | with_reducible refine Ext.setCell ?_ (by first | (simp; done) | (simp; omega) | omega) _ | with_reducible refine Ext.trans ?_ (by with_reducible assumption))), rfl⟩
        case round =>
          clear hx2
          obtain ⟨j, hj, rfl, hX, ha⟩ := hrel
          have HA := Lib.hid ha; clear ha
          have e0 := hX.cells d0
          by_cases hjl : j < (nth hs k).rs.length
          · have e1 := hX.cells (hc1 j hjl 0 (by decide))
            simp only [ic, Nat.mul_one, Nat.add_zero] at e1
            have hhas := fun x (hx' : Ext wr x) => spec_l1Has (w := x) (v := nth (nth hs k).rs j) (cap := cp0) ((hf0.row.ext hX).ext hx') (by omega)
            cases ht : hasI (allR hs k) (allR hs k).length (nth (nth hs k).rs j)
            all_goals
              rw [ht] at hhas
              go_wp2_with fail
              refine (hhas _ (Ext.refl _)).mono ?_; rintro e w3 ⟨rfl, hx3⟩
              go_wp2
            · go_roundw
              case rel => exact ⟨j + 1, by omega, by go_num, (by repeat (first | (with_reducible exact Ext.refl _) | (with_reducible assumption) | with_reducible refine Ext.drew ?_ | with_reducible refine Ext.alloc ?_ _ | with_reducible refine Ext.setCell ?_ (by first | (simp; done) | (simp; omega) | omega) _ | with_reducible refine Ext.trans ?_ (by with_reducible assumption))), upto_succ HA.out (by simp [ht])⟩
              case measure => simp [intOf]; omega
            · go_ret
              exact ⟨ret_b (by rw [HF.out, upto_false hlt (by simp only [okRoundS, hh, Bool.true_and]; exact upto_false hjl (by simp [ht]))]; rfl), (by repeat (first | (with_reducible exact Ext.refl _) | (with_reducible assumption) | with_reducible refine Ext.drew ?_ | with_reducible refine Ext.alloc ?_ _ | with_reducible refine Ext.setCell ?_ (by first | (simp; done) | (simp; omega) | omega) _ | with_reducible refine Ext.trans ?_ (by with_reducible assumption)))⟩
          · obtain rfl : j = (nth hs k).rs.length := by omega
            have hown2 := hown.kept hX
            have r1' : RowAt wr (some ⟨b1, o1, none⟩) 1 (nth hs k).rs.length (ic (nth hs k).rs) := RowAt.ext (fun _ => ⟨b1, o1, rfl, hc1⟩) hX
            have hxw := hx.trans hX
            clear hown hX hx hf0 r1 r2 d0
            go_wp2_with (at_builtin; refine wpList_append_rows rfl _ _ 22 rfl w 3 i0 _ 1 8 Try.underlying22 hi hz0 hz1 hz2 rfl (by decide) icc icc_one _ (allR hs k) (nth hs k).rs rfl hown2 _ _ c1 rfl rfl (fun h => by cases h) r1' (by omega) (by omega) hxw ?_; intro v1 w3 ho1 hx3)
            change Owns w3 w.heap.size 3 1 icc v1 (allR hs (k + 1)) at ho1
            go_wp2
            go_roundw
            case rel => exact ⟨k + 1, by omega, by go_num, (by repeat (first | (with_reducible exact Ext.refl _) | (with_reducible assumption) | with_reducible refine Ext.drew ?_ | with_reducible refine Ext.alloc ?_ _ | with_reducible refine Ext.setCell ?_ (by first | (simp; done) | (simp; omega) | omega) _ | with_reducible refine Ext.trans ?_ (by with_reducible assumption))), upto_succ HU.out (by simp only [okRoundS, hh, Bool.true_and]; exact HA.out), ho1⟩
            case measure => simp [intOf]; omega
    · obtain rfl : k = n := by omega
      go_wp2_with (go_at_call 35; refine (spec_l1In).mono ?_; rintro e w1 ⟨rfl, rfl⟩)
      go_ret
      exact ⟨ret_b (by rw [HF.out, HU.out]; rfl), (by repeat (first | (with_reducible exact Ext.refl _) | (with_reducible assumption) | with_reducible refine Ext.drew ?_ | with_reducible refine Ext.alloc ?_ _ | with_reducible refine Ext.setCell ?_ (by first | (simp; done) | (simp; omega) | omega) _ | with_reducible refine Ext.trans ?_ (by with_reducible assumption)))⟩

theorem spec_IsRound {ao : Option Addr} {cap : Nat} {hs : List HeatD} {w : World} (h : GRow w ao 2 hs.length (hsC hs)) (hn : hs.length ≤ 1048576) :
    Calls Try.prog 23 #[.slice ao hs.length cap] w fun e w' => e = .returned (.bool (roundB hs)) ∧ Ext w w' := by
  go_enter Try.func23, Try.ntmps23
  go_wp2_with fail
  refine (spec_l18Good h hn).mono ?_; rintro e w1 ⟨rfl, hx1⟩
  go_wp2
  go_ret
  exact ⟨rfl, (by repeat (first | (with_reducible exact Ext.refl _) | (with_reducible assumption) | with_reducible refine Ext.drew ?_ | with_reducible refine Ext.alloc ?_ _ | with_reducible refine Ext.setCell ?_ (by first | (simp; done) | (simp; omega) | omega) _ | with_reducible refine Ext.trans ?_ (by with_reducible assumption)))⟩

end Go.Proofs.Ytdbibdecnepobaa
