/-
  Proved here: what TotalPoints and its reference return.
  Conditions: the lengths fit an int.
-/
import Derived.Test.YtidcfohlhamgmaaSco2
namespace Go.Proofs.Ytidcfohlhamgmaa
open Go.RowKit

def gTot (m : MapD) (xs : List Ctl) (r : RuleD) : Value := if ruleB m xs r then .tuple #[.int .i64 (sumU r.pts r.pts.length), .bool true] else .tuple #[.int .i64 0, .bool false]
theorem sum_bd {r : List Int} {n : Nat} (h : ∀ k, k < n → inB (nth r k) 0 100 = true) : ∀ k, k ≤ n → 0 ≤ sumU r k ∧ sumU r k ≤ 100 * k := by
  intro k
  induction k with
  | zero => intro _; simp [sumU]
  | succ k ih =>
    intro hk
    have h1 := ih (by omega)
    have h2 := h k (by omega)
    rw [inB_iff] at h2
    simp only [sumU]
    omega

theorem spec_l8Sum {ao : Option Addr} {cap : Nat} {xs : List Int} {w : World} (h : RowAt w ao 1 xs.length (ic xs)) (hn : xs.length ≤ 9223372036854775807) (hs : ∀ k, k ≤ xs.length → I64 (sumU xs k)) :
    Calls Try.prog 90 #[.slice ao xs.length cap] w fun e w' => e = .returned (.int .i64 (sumU xs xs.length)) ∧ Ext w w' := by
  go_enter Try.func90, Try.ntmps90
  go_wp2
  go_loopw [3, 4] (fun s i wr => ∃ k : Nat, k ≤ xs.length ∧ i = .int .i64 k ∧ s = .int .i64 (sumU xs k) ∧ Ext w wr) (fun _ i _ => xs.length - (intOf i).toNat)
  case atStart => exact ⟨0, Nat.zero_le _, rfl, rfl, Ext.refl _⟩
  case round =>
    obtain ⟨k, hk, rfl, rfl, hx⟩ := hrel
    by_cases hlt : k < xs.length
    · obtain ⟨b, off, rfl, hcell⟩ := ints_at' h (by omega)
      have d0 := hx.cells (hcell k hlt)
      have hb := hs (k + 1) (by omega)
      simp only [sumU, I64] at hb
      clear hcell h hs
      go_wp2
      go_roundw
      case rel => exact ⟨k + 1, by omega, by go_num, rfl, (by repeat (first | (with_reducible exact Ext.refl _) | (with_reducible assumption) | with_reducible refine Ext.drew ?_ | with_reducible refine Ext.alloc ?_ _ | with_reducible refine Ext.setCell ?_ (by first | (simp; done) | (simp; omega) | omega) _ | with_reducible refine Ext.trans ?_ (by with_reducible assumption)))⟩
      case measure => simp [intOf]; omega
    · have hkn : k = xs.length := by omega
      subst hkn
      go_wp2
      go_ret
      exact ⟨rfl, (by repeat (first | (with_reducible exact Ext.refl _) | (with_reducible assumption) | with_reducible refine Ext.drew ?_ | with_reducible refine Ext.alloc ?_ _ | with_reducible refine Ext.setCell ?_ (by first | (simp; done) | (simp; omega) | omega) _ | with_reducible refine Ext.trans ?_ (by with_reducible assumption)))⟩

set_option maxHeartbeats 2000000 in
theorem impl_TotalPoints {m : MapD} {ao bo : Option Addr} {ac bc : Nat} {co : Option Addr} {cap : Nat} {xs : List Ctl} {r : RuleD} {po : Option Addr} {pc : Nat} {w : World} (h : Site w m ao bo xs co cap) (hp : RowAt w po 1 r.pts.length (ic r.pts)) (hn : r.pts.length ≤ 9223372036854775807) :
    Calls Try.prog 39 #[m.val ao ac bo bc, .slice co xs.length cap, r.val po pc] w fun e w' => e = .returned (gTot m xs r) ∧ Ext w w' := by
  have H := fun y hx => impl_IsScoreRule (w := y) (ao := ao) (bo := bo) (co := co) (po := po) (ac := ac) (bc := bc) (cap := cap) (pc := pc) (h.ext hx) (hp.ext hx) hn
  cases hb : ruleB m xs r
  · have hfin : gTot m xs r = .tuple #[.int .i64 0, .bool false] := by simp [gTot, hb]
    rw [hfin]
    rw [hb] at H
    clear hfin hb
    unfold MapD.val RuleD.val at H ⊢
    go_enter Try.func39, Try.ntmps39
    go_wp2_with fail
    refine (H _ (by repeat (first | (with_reducible exact Ext.refl _) | (with_reducible assumption) | with_reducible refine Ext.drew ?_ | with_reducible refine Ext.alloc ?_ _ | with_reducible refine Ext.setCell ?_ (by first | (simp; done) | (simp; omega) | omega) _ | with_reducible refine Ext.trans ?_ (by with_reducible assumption)))).mono ?_; rintro e w1 ⟨rfl, hx1⟩
    go_wp2
    go_ret2
    exact ⟨rfl, (by repeat (first | (with_reducible exact Ext.refl _) | (with_reducible assumption) | with_reducible refine Ext.drew ?_ | with_reducible refine Ext.alloc ?_ _ | with_reducible refine Ext.setCell ?_ (by first | (simp; done) | (simp; omega) | omega) _ | with_reducible refine Ext.trans ?_ (by with_reducible assumption)))⟩
  · have hfin : gTot m xs r = .tuple #[.int .i64 (sumU r.pts r.pts.length), .bool true] := by simp [gTot, hb]
    rw [hfin]
    have hr := rule_len hb
    have hbd := sum_bd hr.2.2.2.2
    have hl10 : r.pts.length ≤ 10 := by omega
    have HS := fun y hx => impl_sumInts (w := y) (cap := pc) (hp.ext hx) hn (fun k hk => ⟨by have := hbd k hk; omega, by have := hbd k hk; omega⟩)
    rw [hb] at H
    clear hfin hb hr hbd
    unfold MapD.val RuleD.val at H ⊢
    go_enter Try.func39, Try.ntmps39
    go_wp2_with fail
    refine (H _ (by repeat (first | (with_reducible exact Ext.refl _) | (with_reducible assumption) | with_reducible refine Ext.drew ?_ | with_reducible refine Ext.alloc ?_ _ | with_reducible refine Ext.setCell ?_ (by first | (simp; done) | (simp; omega) | omega) _ | with_reducible refine Ext.trans ?_ (by with_reducible assumption)))).mono ?_; rintro e w1 ⟨rfl, hx1⟩
    have c0 : w1.cell? ⟨w.heap.size + 1, 0, none⟩ = some (.slice po r.pts.length pc) := hx1.cells (by go_simp)
    have cl := World.block_lt_of_cell? _ _ c0
    have hE : Ext w w1 := (by repeat (first | (with_reducible exact Ext.refl _) | (with_reducible assumption) | with_reducible refine Ext.drew ?_ | with_reducible refine Ext.alloc ?_ _ | with_reducible refine Ext.setCell ?_ (by first | (simp; done) | (simp; omega) | omega) _ | with_reducible refine Ext.trans ?_ (by with_reducible assumption)))
    clear hx1
    go_wp2_with fail
    refine (HS _ hE).mono ?_; rintro e w2 ⟨rfl, hx2⟩
    go_wp2
    go_ret2
    exact ⟨rfl, hE.trans hx2⟩

set_option maxHeartbeats 2000000 in
theorem spec_TotalPoints {m : MapD} {ao bo : Option Addr} {ac bc : Nat} {co : Option Addr} {cap : Nat} {xs : List Ctl} {r : RuleD} {po : Option Addr} {pc : Nat} {w : World} (h : Site w m ao bo xs co cap) (hp : RowAt w po 1 r.pts.length (ic r.pts)) (hn : r.pts.length ≤ 9223372036854775807) :
    Calls Try.prog 40 #[m.val ao ac bo bc, .slice co xs.length cap, r.val po pc] w fun e w' => e = .returned (gTot m xs r) ∧ Ext w w' := by
  have H := fun y hx => spec_l17Rule (w := y) (ao := ao) (bo := bo) (co := co) (po := po) (ac := ac) (bc := bc) (cap := cap) (pc := pc) (h.ext hx) (hp.ext hx) hn
  cases hb : ruleB m xs r
  · have hfin : gTot m xs r = .tuple #[.int .i64 0, .bool false] := by simp [gTot, hb]
    rw [hfin]
    rw [hb] at H
    clear hfin hb
    unfold MapD.val RuleD.val at H ⊢
    go_enter Try.func40, Try.ntmps40
    go_wp2_with fail
    refine (H _ (by repeat (first | (with_reducible exact Ext.refl _) | (with_reducible assumption) | with_reducible refine Ext.drew ?_ | with_reducible refine Ext.alloc ?_ _ | with_reducible refine Ext.setCell ?_ (by first | (simp; done) | (simp; omega) | omega) _ | with_reducible refine Ext.trans ?_ (by with_reducible assumption)))).mono ?_; rintro e w1 ⟨rfl, hx1⟩
    go_wp2
    go_ret2
    exact ⟨rfl, (by repeat (first | (with_reducible exact Ext.refl _) | (with_reducible assumption) | with_reducible refine Ext.drew ?_ | with_reducible refine Ext.alloc ?_ _ | with_reducible refine Ext.setCell ?_ (by first | (simp; done) | (simp; omega) | omega) _ | with_reducible refine Ext.trans ?_ (by with_reducible assumption)))⟩
  · have hfin : gTot m xs r = .tuple #[.int .i64 (sumU r.pts r.pts.length), .bool true] := by simp [gTot, hb]
    rw [hfin]
    have hr := rule_len hb
    have hbd := sum_bd hr.2.2.2.2
    have hl10 : r.pts.length ≤ 10 := by omega
    have HS := fun y hx => spec_l8Sum (w := y) (cap := pc) (hp.ext hx) hn (fun k hk => ⟨by have := hbd k hk; omega, by have := hbd k hk; omega⟩)
    rw [hb] at H
    clear hfin hb hr hbd
    unfold MapD.val RuleD.val at H ⊢
    go_enter Try.func40, Try.ntmps40
    go_wp2_with fail
    refine (H _ (by repeat (first | (with_reducible exact Ext.refl _) | (with_reducible assumption) | with_reducible refine Ext.drew ?_ | with_reducible refine Ext.alloc ?_ _ | with_reducible refine Ext.setCell ?_ (by first | (simp; done) | (simp; omega) | omega) _ | with_reducible refine Ext.trans ?_ (by with_reducible assumption)))).mono ?_; rintro e w1 ⟨rfl, hx1⟩
    have c0 : w1.cell? ⟨w.heap.size + 1, 0, none⟩ = some (.slice po r.pts.length pc) := hx1.cells (by go_simp)
    have cl := World.block_lt_of_cell? _ _ c0
    have hE : Ext w w1 := (by repeat (first | (with_reducible exact Ext.refl _) | (with_reducible assumption) | with_reducible refine Ext.drew ?_ | with_reducible refine Ext.alloc ?_ _ | with_reducible refine Ext.setCell ?_ (by first | (simp; done) | (simp; omega) | omega) _ | with_reducible refine Ext.trans ?_ (by with_reducible assumption)))
    clear hx1
    go_wp2_with fail
    refine (HS _ hE).mono ?_; rintro e w2 ⟨rfl, hx2⟩
    go_wp2
    go_ret2
    exact ⟨rfl, hE.trans hx2⟩

end Go.Proofs.Ytidcfohlhamgmaa
