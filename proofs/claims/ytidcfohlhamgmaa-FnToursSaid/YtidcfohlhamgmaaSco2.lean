/-
  Proved here: what l17Rule returns.
  Conditions: the lengths fit an int.
-/
import Derived.Test.YtidcfohlhamgmaaSco1
namespace Go.Proofs.Ytidcfohlhamgmaa
open Go.RowKit

set_option maxRecDepth 100000 in
set_option maxHeartbeats 4000000 in
theorem spec_l17Rule {m : MapD} {ao bo : Option Addr} {ac bc : Nat} {co : Option Addr} {cap : Nat} {xs : List Ctl} {r : RuleD} {po : Option Addr} {pc : Nat} {w : World} (h : Site w m ao bo xs co cap) (hp : RowAt w po 1 r.pts.length (ic r.pts)) (hn : r.pts.length ≤ 9223372036854775807) :
    Calls Try.prog 58 #[m.val ao ac bo bc, .slice co xs.length cap, r.val po pc] w fun e w' => e = .returned (.bool (ruleB m xs r)) ∧ Ext w w' := by
  have H := fun y hx => spec_l6Good (w := y) (ac := ac) (bc := bc) (cap := cap) (h.rise.ext hx) (h.cost.ext hx) h.n1 h.n2 (h.ctls.ext hx) h.n3
  have h3 := h.n3
  have hfin : ruleB m xs r = (ctlsB m xs && decide (r.pts.length = xs.length) && inB r.lim 1 200 && inB r.pen 0 50 && upto (fun k => inB (nth r.pts k) 0 100) r.pts.length) := rfl
  have HF := Lib.hid hfin; clear hfin h
  have hx0 : Ext w ((w.alloc (Obj.cells #[.int .i64 m.wid, .int .i64 m.hei, .slice ao m.rise.length ac, .slice bo m.cost.length bc] 30)).alloc (Obj.cells #[.slice po r.pts.length pc, .int .i64 r.lim, .int .i64 r.pen] 43)) := (by repeat (first | (with_reducible exact Ext.refl _) | (with_reducible assumption) | with_reducible refine Ext.drew ?_ | with_reducible refine Ext.alloc ?_ _ | with_reducible refine Ext.setCell ?_ (by first | (simp; done) | (simp; omega) | omega) _ | with_reducible refine Ext.trans ?_ (by with_reducible assumption)))
  obtain ⟨wb, hwb⟩ : ∃ wb, wb = (w.alloc (Obj.cells #[.int .i64 m.wid, .int .i64 m.hei, .slice ao m.rise.length ac, .slice bo m.cost.length bc] 30)).alloc (Obj.cells #[.slice po r.pts.length pc, .int .i64 r.lim, .int .i64 r.pen] 43) := ⟨_, rfl⟩
  have m0 : wb.cell? ⟨w.heap.size, 0, none⟩ = some (.int .i64 m.wid) := by rw [hwb]; exact ((Ext.refl _).alloc _).cells (by go_simp)
  have m1 : wb.cell? ⟨w.heap.size, 1, none⟩ = some (.int .i64 m.hei) := by rw [hwb]; exact ((Ext.refl _).alloc _).cells (by go_simp)
  have m2 : wb.cell? ⟨w.heap.size, 2, none⟩ = some (.slice ao m.rise.length ac) := by rw [hwb]; exact ((Ext.refl _).alloc _).cells (by go_simp)
  have m3 : wb.cell? ⟨w.heap.size, 3, none⟩ = some (.slice bo m.cost.length bc) := by rw [hwb]; exact ((Ext.refl _).alloc _).cells (by go_simp)
  have c0 : wb.cell? ⟨w.heap.size + 1, 0, none⟩ = some (.slice po r.pts.length pc) := by rw [hwb]; go_simp
  have c1 : wb.cell? ⟨w.heap.size + 1, 1, none⟩ = some (.int .i64 r.lim) := by rw [hwb]; go_simp
  have c2 : wb.cell? ⟨w.heap.size + 1, 2, none⟩ = some (.int .i64 r.pen) := by rw [hwb]; go_simp
  rw [← hwb] at hx0
  unfold MapD.val at H ⊢
  unfold RuleD.val
  go_enter Try.func58, Try.ntmps58
  go_wp2
  rw [← hwb]
  clear hwb
  go_loopw [7] (fun i wr => ∃ k : Nat, k ≤ r.pts.length ∧ i = .int .i64 k ∧ Ext wb wr ∧ upto (fun k => inB (nth r.pts k) 0 100) k = true) (fun i _ => r.pts.length - (intOf i).toNat)
  case atStart => exact ⟨0, by omega, rfl, Ext.refl _, rfl⟩
  case round =>
    obtain ⟨k, hk, rfl, hx, hu⟩ := hrel
    have HU := Lib.hid hu; clear hu
    have c0 := hx.cells c0
    have cl := World.block_lt_of_cell? _ _ c0
    have hX := hx0.trans hx
    by_cases hlt : k < r.pts.length
    · obtain ⟨b, off, rfl, hcell⟩ := ints_at' hp (by omega)
      have d0 := hX.cells (hcell k hlt)
      clear hcell
      cases hA : inB (nth r.pts k) 0 100
      all_goals
        go_wp2_with fail
        refine spec_l1In.mono ?_; rintro e w1 ⟨rfl, rfl⟩
        rw [hA]
        go_wp2
      · go_ret
        exact ⟨ret_b (by rw [HF.out, upto_false hlt hA, Bool.and_false]), hX⟩
      · go_roundw
        case rel => exact ⟨k + 1, by omega, by go_num, hx, upto_succ HU.out hA⟩
        case measure => simp [intOf] <;> omega
    · have hkn : k = r.pts.length := by omega
      have hU2 := HU.out
      rw [hkn] at hU2
      have hfin : ruleB m xs r = (ctlsB m xs && decide (r.pts.length = xs.length) && inB r.lim 1 200 && inB r.pen 0 50) := by rw [HF.out, hU2, Bool.and_true]
      have HF2 := Lib.hid hfin; clear hfin hU2 HU HF hkn
      have m0 := hx.cells m0
      have m1 := hx.cells m1
      have m2 := hx.cells m2
      have m3 := hx.cells m3
      have c1 := hx.cells c1
      have c2 := hx.cells c2
      have ml := World.block_lt_of_cell? _ _ m0
      cases hc : ctlsB m xs
      · rw [hc] at H
        go_wp2_with fail
        refine (H _ hX).mono ?_; rintro e w1 ⟨rfl, hx1⟩
        go_wp2
        go_ret
        exact ⟨ret_b (by rw [HF2.out, hc]; rfl), hX.trans hx1⟩
      · rw [hc] at H
        by_cases hl : r.pts.length = xs.length
        · have hl' : ((r.pts.length : Int) == (xs.length : Int)) = true := by simp [hl]
          have hfin : ruleB m xs r = (inB r.lim 1 200 && inB r.pen 0 50) := by rw [HF2.out, hc]; simp [hl]
          have HF3 := Lib.hid hfin; clear hfin hl HF2 hc
          go_wp2_with fail
          refine (H _ hX).mono ?_; rintro e w1 ⟨rfl, hx1⟩
          have c0 := hx1.cells c0
          have c1 := hx1.cells c1
          have c2 := hx1.cells c2
          have cl := World.block_lt_of_cell? _ _ c0
          clear m0 m1 m2 m3 ml
          cases hL : inB r.lim 1 200
          · go_wp2_with fail
            refine spec_l1In.mono ?_; rintro e w2 ⟨rfl, rfl⟩
            rw [hL]
            go_wp2
            go_ret
            exact ⟨ret_b (by rw [HF3.out, hL]; rfl), hX.trans hx1⟩
          · cases hP : inB r.pen 0 50
            all_goals
              go_wp2_with fail
              refine spec_l1In.mono ?_; rintro e w2 ⟨rfl, rfl⟩
              rw [hL]
              go_wp2_with fail
              refine spec_l1In.mono ?_; rintro e w3 ⟨rfl, rfl⟩
              rw [hP]
              go_wp2
              go_ret
              exact ⟨ret_b (by rw [HF3.out, hL, hP]; rfl), hX.trans hx1⟩
        · have hl' : ((r.pts.length : Int) == (xs.length : Int)) = false := by simp; omega
          have hfin : ruleB m xs r = false := by rw [HF2.out, hc]; simp [hl]
          have HF3 := Lib.hid hfin; clear hfin hl HF2 hc
          go_wp2_with fail
          refine (H _ hX).mono ?_; rintro e w1 ⟨rfl, hx1⟩
          have c0 := hx1.cells c0
          have cl := World.block_lt_of_cell? _ _ c0
          clear m0 m1 m2 m3 ml
          go_wp2
          go_ret
          exact ⟨ret_b (by rw [HF3.out]), hX.trans hx1⟩

theorem spec_IsScoreRule {m : MapD} {ao bo : Option Addr} {ac bc : Nat} {co : Option Addr} {cap : Nat} {xs : List Ctl} {r : RuleD} {po : Option Addr} {pc : Nat} {w : World} (h : Site w m ao bo xs co cap) (hp : RowAt w po 1 r.pts.length (ic r.pts)) (hn : r.pts.length ≤ 9223372036854775807) :
    Calls Try.prog 38 #[m.val ao ac bo bc, .slice co xs.length cap, r.val po pc] w fun e w' => e = .returned (.bool (ruleB m xs r)) ∧ Ext w w' := by
  have H := fun y hx => spec_l17Rule (w := y) (ao := ao) (bo := bo) (co := co) (po := po) (ac := ac) (bc := bc) (cap := cap) (pc := pc) (h.ext hx) (hp.ext hx) hn
  unfold MapD.val RuleD.val at H ⊢
  go_enter Try.func38, Try.ntmps38
  go_wp2_with fail
  refine (H _ (by repeat (first | (with_reducible exact Ext.refl _) | (with_reducible assumption) | with_reducible refine Ext.drew ?_ | with_reducible refine Ext.alloc ?_ _ | with_reducible refine Ext.setCell ?_ (by first | (simp; done) | (simp; omega) | omega) _ | with_reducible refine Ext.trans ?_ (by with_reducible assumption)))).mono ?_; rintro e w1 ⟨rfl, hx1⟩
  go_wp2
  go_ret
  exact ⟨rfl, (by repeat (first | (with_reducible exact Ext.refl _) | (with_reducible assumption) | with_reducible refine Ext.drew ?_ | with_reducible refine Ext.alloc ?_ _ | with_reducible refine Ext.setCell ?_ (by first | (simp; done) | (simp; omega) | omega) _ | with_reducible refine Ext.trans ?_ (by with_reducible assumption)))⟩

end Go.Proofs.Ytidcfohlhamgmaa
