/-
  Proved here: what IsScoreRule and its reference, TotalPoints and its reference return.
  Conditions: the lengths fit an int.
-/
import Derived.Test.YtidcfohlhamgmaaCtl3
namespace Go.Proofs.Ytidcfohlhamgmaa
open Go.RowKit

def ptsB (r : RuleD) : Bool := upto (fun k => inB (nth r.pts k) 0 100) r.pts.length
def ruleB (m : MapD) (xs : List Ctl) (r : RuleD) : Bool := ctlsB m xs && decide (r.pts.length = xs.length) && inB r.lim 1 200 && inB r.pen 0 50 && ptsB r
theorem rule_len {m : MapD} {xs : List Ctl} {r : RuleD} (h : ruleB m xs r = true) : r.pts.length = xs.length ∧ xs.length ≤ 10 ∧ inB r.lim 1 200 = true ∧ inB r.pen 0 50 = true ∧ (∀ k, k < r.pts.length → inB (nth r.pts k) 0 100 = true) := by
  simp only [ruleB, ctlsB, Bool.and_eq_true, decide_eq_true_eq] at h
  exact ⟨h.1.1.1.2, h.1.1.1.1.1.2, h.1.1.2, h.1.2, upto_true.1 h.2⟩

theorem impl_IsScoreRule_1 {a : Int} {w : World} :
    Calls Try.prog 88 #[.int .i64 a] w fun e w' => e = .returned (.bool (!inB a 0 100)) ∧ Ext w w' := by
  go_enter Try.func88, Try.ntmps88
  go_wp2_with (go_at_call 83; refine (impl_inside).mono ?_; rintro e w1 ⟨rfl, rfl⟩)
  go_ret
  exact ⟨rfl, (by repeat (first | (with_reducible exact Ext.refl _) | (with_reducible assumption) | with_reducible refine Ext.drew ?_ | with_reducible refine Ext.alloc ?_ _ | with_reducible refine Ext.setCell ?_ (by first | (simp; done) | (simp; omega) | omega) _ | with_reducible refine Ext.trans ?_ (by with_reducible assumption)))⟩

/-- The slices of a map, controls and a rule, where they lie. -/
structure Site (w : World) (m : MapD) (ao bo : Option Addr) (xs : List Ctl) (co : Option Addr) (cap : Nat) : Prop where
  rise : RowAt w ao 1 m.rise.length (ic m.rise)
  cost : RowAt w bo 1 m.cost.length (ic m.cost)
  ctls : RowAt w co 2 xs.length (fun k => (nth xs k).c)
  n1 : m.rise.length ≤ 9223372036854775807
  n2 : m.cost.length ≤ 9223372036854775807
  n3 : xs.length ≤ 9223372036854775807
  cap : xs.length ≤ cap
theorem Site.ext {w w' : World} {m : MapD} {ao bo : Option Addr} {xs : List Ctl} {co : Option Addr} {cap : Nat} (h : Site w m ao bo xs co cap) (hx : Ext w w') : Site w' m ao bo xs co cap :=
  ⟨h.rise.ext hx, h.cost.ext hx, h.ctls.ext hx, h.n1, h.n2, h.n3, h.cap⟩

set_option maxRecDepth 100000 in
set_option maxHeartbeats 4000000 in
theorem impl_IsScoreRule {m : MapD} {ao bo : Option Addr} {ac bc : Nat} {co : Option Addr} {cap : Nat} {xs : List Ctl} {r : RuleD} {po : Option Addr} {pc : Nat} {w : World} (h : Site w m ao bo xs co cap) (hp : RowAt w po 1 r.pts.length (ic r.pts)) (hn : r.pts.length ≤ 9223372036854775807) :
    Calls Try.prog 37 #[m.val ao ac bo bc, .slice co xs.length cap, r.val po pc] w fun e w' => e = .returned (.bool (ruleB m xs r)) ∧ Ext w w' := by
  have H := fun y hx => impl_AreControls (w := y) (ac := ac) (bc := bc) (cap := cap) (h.rise.ext hx) (h.cost.ext hx) h.n1 h.n2 (h.ctls.ext hx) h.n3 h.cap
  have HP := fun x hx => containsFunc_Int (w := x) (cap := pc) (caps := #[]) (p := fun x => !inB x 0 100) (hp.ext hx) hn (entersF_of Try.func88 (by kernel_rfl) rfl) (fun a w' _ => impl_IsScoreRule_1)
  have h3 := h.n3
  simp only [Bool.not_not] at HP
  have e1 : upto (fun k => inB (nth r.pts k) 0 100) r.pts.length = ptsB r := rfl
  rw [e1] at HP
  clear e1 h hp
  cases hc : ctlsB m xs
  · have hfin : ruleB m xs r = false := by simp [ruleB, hc]
    rw [hfin]; clear hfin
    rw [hc] at H
    clear hc
    unfold MapD.val at H ⊢
    unfold RuleD.val
    go_enter Try.func37, Try.ntmps37
    go_wp2_with fail
    refine (H _ (by repeat (first | (with_reducible exact Ext.refl _) | (with_reducible assumption) | with_reducible refine Ext.drew ?_ | with_reducible refine Ext.alloc ?_ _ | with_reducible refine Ext.setCell ?_ (by first | (simp; done) | (simp; omega) | omega) _ | with_reducible refine Ext.trans ?_ (by with_reducible assumption)))).mono ?_; rintro e w1 ⟨rfl, hx1⟩
    go_wp2
    go_ret
    exact ⟨rfl, (by repeat (first | (with_reducible exact Ext.refl _) | (with_reducible assumption) | with_reducible refine Ext.drew ?_ | with_reducible refine Ext.alloc ?_ _ | with_reducible refine Ext.setCell ?_ (by first | (simp; done) | (simp; omega) | omega) _ | with_reducible refine Ext.trans ?_ (by with_reducible assumption)))⟩
  · have hfin : ruleB m xs r = (decide (r.pts.length = xs.length) && inB r.lim 1 200 && inB r.pen 0 50 && ptsB r) := by simp [ruleB, hc]
    rw [hfin]; clear hfin
    rw [hc] at H
    clear hc
    unfold MapD.val at H ⊢
    unfold RuleD.val
    by_cases hl : r.pts.length = xs.length
    · have hl' : ((r.pts.length : Int) != (xs.length : Int)) = false := by simp [hl]
      have hlD : decide (r.pts.length = xs.length) = true := by simp [hl]
      rw [hlD]
      clear hl hlD
      cases hL : inB r.lim 1 200
      · go_enter Try.func37, Try.ntmps37
        go_wp2_with fail
        refine (H _ (by repeat (first | (with_reducible exact Ext.refl _) | (with_reducible assumption) | with_reducible refine Ext.drew ?_ | with_reducible refine Ext.alloc ?_ _ | with_reducible refine Ext.setCell ?_ (by first | (simp; done) | (simp; omega) | omega) _ | with_reducible refine Ext.trans ?_ (by with_reducible assumption)))).mono ?_; rintro e w1 ⟨rfl, hx1⟩
        have c0 : w1.cell? ⟨w.heap.size + 1, 0, none⟩ = some (.slice po r.pts.length pc) := hx1.cells (by go_simp)
        have c1 : w1.cell? ⟨w.heap.size + 1, 1, none⟩ = some (.int .i64 r.lim) := hx1.cells (by go_simp)
        have cl := World.block_lt_of_cell? _ _ c0
        have hE : Ext w w1 := (by repeat (first | (with_reducible exact Ext.refl _) | (with_reducible assumption) | with_reducible refine Ext.drew ?_ | with_reducible refine Ext.alloc ?_ _ | with_reducible refine Ext.setCell ?_ (by first | (simp; done) | (simp; omega) | omega) _ | with_reducible refine Ext.trans ?_ (by with_reducible assumption)))
        clear hx1
        go_wp2_with fail
        refine impl_inside.mono ?_; rintro e w2 ⟨rfl, rfl⟩
        rw [hL]
        go_wp2
        go_ret
        exact ⟨by simp, hE⟩
      · cases hP : inB r.pen 0 50
        · go_enter Try.func37, Try.ntmps37
          go_wp2_with fail
          refine (H _ (by repeat (first | (with_reducible exact Ext.refl _) | (with_reducible assumption) | with_reducible refine Ext.drew ?_ | with_reducible refine Ext.alloc ?_ _ | with_reducible refine Ext.setCell ?_ (by first | (simp; done) | (simp; omega) | omega) _ | with_reducible refine Ext.trans ?_ (by with_reducible assumption)))).mono ?_; rintro e w1 ⟨rfl, hx1⟩
          have c0 : w1.cell? ⟨w.heap.size + 1, 0, none⟩ = some (.slice po r.pts.length pc) := hx1.cells (by go_simp)
          have c1 : w1.cell? ⟨w.heap.size + 1, 1, none⟩ = some (.int .i64 r.lim) := hx1.cells (by go_simp)
          have c2 : w1.cell? ⟨w.heap.size + 1, 2, none⟩ = some (.int .i64 r.pen) := hx1.cells (by go_simp)
          have cl := World.block_lt_of_cell? _ _ c0
          have hE : Ext w w1 := (by repeat (first | (with_reducible exact Ext.refl _) | (with_reducible assumption) | with_reducible refine Ext.drew ?_ | with_reducible refine Ext.alloc ?_ _ | with_reducible refine Ext.setCell ?_ (by first | (simp; done) | (simp; omega) | omega) _ | with_reducible refine Ext.trans ?_ (by with_reducible assumption)))
          clear hx1
          go_wp2_with fail
          refine impl_inside.mono ?_; rintro e w2 ⟨rfl, rfl⟩
          rw [hL]
          go_wp2_with fail
          refine impl_inside.mono ?_; rintro e w3 ⟨rfl, rfl⟩
          rw [hP]
          go_wp2
          go_ret
          exact ⟨by simp, hE⟩
        · go_enter Try.func37, Try.ntmps37
          go_wp2_with fail
          refine (H _ (by repeat (first | (with_reducible exact Ext.refl _) | (with_reducible assumption) | with_reducible refine Ext.drew ?_ | with_reducible refine Ext.alloc ?_ _ | with_reducible refine Ext.setCell ?_ (by first | (simp; done) | (simp; omega) | omega) _ | with_reducible refine Ext.trans ?_ (by with_reducible assumption)))).mono ?_; rintro e w1 ⟨rfl, hx1⟩
          have c0 : w1.cell? ⟨w.heap.size + 1, 0, none⟩ = some (.slice po r.pts.length pc) := hx1.cells (by go_simp)
          have c1 : w1.cell? ⟨w.heap.size + 1, 1, none⟩ = some (.int .i64 r.lim) := hx1.cells (by go_simp)
          have c2 : w1.cell? ⟨w.heap.size + 1, 2, none⟩ = some (.int .i64 r.pen) := hx1.cells (by go_simp)
          have cl := World.block_lt_of_cell? _ _ c0
          have hE : Ext w w1 := (by repeat (first | (with_reducible exact Ext.refl _) | (with_reducible assumption) | with_reducible refine Ext.drew ?_ | with_reducible refine Ext.alloc ?_ _ | with_reducible refine Ext.setCell ?_ (by first | (simp; done) | (simp; omega) | omega) _ | with_reducible refine Ext.trans ?_ (by with_reducible assumption)))
          clear hx1
          go_wp2_with fail
          refine impl_inside.mono ?_; rintro e w2 ⟨rfl, rfl⟩
          rw [hL]
          go_wp2_with fail
          refine impl_inside.mono ?_; rintro e w3 ⟨rfl, rfl⟩
          rw [hP]
          clear hL hP
          go_wp2_with fail
          refine (HP _ hE).mono ?_; rintro e w4 ⟨rfl, hx4⟩
          go_wp2
          go_ret
          exact ⟨by simp, hE.trans hx4⟩
    · have hl' : ((r.pts.length : Int) != (xs.length : Int)) = true := by simp; omega
      have hlD : decide (r.pts.length = xs.length) = false := by simp [hl]
      rw [hlD]
      clear hl hlD
      go_enter Try.func37, Try.ntmps37
      go_wp2_with fail
      refine (H _ (by repeat (first | (with_reducible exact Ext.refl _) | (with_reducible assumption) | with_reducible refine Ext.drew ?_ | with_reducible refine Ext.alloc ?_ _ | with_reducible refine Ext.setCell ?_ (by first | (simp; done) | (simp; omega) | omega) _ | with_reducible refine Ext.trans ?_ (by with_reducible assumption)))).mono ?_; rintro e w1 ⟨rfl, hx1⟩
      have c0 : w1.cell? ⟨w.heap.size + 1, 0, none⟩ = some (.slice po r.pts.length pc) := hx1.cells (by go_simp)
      have cl := World.block_lt_of_cell? _ _ c0
      have hE : Ext w w1 := (by repeat (first | (with_reducible exact Ext.refl _) | (with_reducible assumption) | with_reducible refine Ext.drew ?_ | with_reducible refine Ext.alloc ?_ _ | with_reducible refine Ext.setCell ?_ (by first | (simp; done) | (simp; omega) | omega) _ | with_reducible refine Ext.trans ?_ (by with_reducible assumption)))
      clear hx1
      go_wp2
      go_ret
      exact ⟨by simp, hE⟩

end Go.Proofs.Ytidcfohlhamgmaa
