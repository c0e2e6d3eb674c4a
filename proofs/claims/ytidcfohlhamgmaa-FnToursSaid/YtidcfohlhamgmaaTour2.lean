/-
  Proved here: what absOf, gapOf, stepTime and cellsNextTo return.
  Conditions: the map is valid; the cells are cells of it.
-/
import Derived.Test.YtidcfohlhamgmaaTour1
import Derived.Test.YtidcfohlhamgmaaForm
import Derived.Deep.RegionWith
namespace Go.Proofs.Ytidcfohlhamgmaa
open Go.RowKit

theorem Ext.drewM (w : World) (q : Nat) : Ext w (w.drewN q) := by
  induction q with
  | zero => exact Ext.refl _
  | succ q ih => exact (Below.drew ih)
theorem impl_absOf {x : Int} {w : World} (h1 : -1000000 ≤ x) (h2 : x ≤ 1000000) :
    Calls Try.prog 131 #[.int .i64 x] w fun e w' => e = .returned (.int .i64 (absI x)) ∧ w = w' := by
  by_cases h : x < 0
  · go_enter Try.func131, Try.ntmps131
    go_wp2
    go_ret
    exact ⟨ret_i (by unfold absI; rw [if_pos h]), rfl⟩
  · go_enter Try.func131, Try.ntmps131
    go_wp2
    go_ret
    exact ⟨ret_i (by unfold absI; rw [if_neg (by omega)]), rfl⟩

set_option maxHeartbeats 1000000 in
theorem impl_gapOf {m : MapD} {ao bo : Option Addr} {ac bc : Nat} {a b : Nat} {w : World} (hm : mapB m = true) (ha : a < m.cost.length) (hb : b < m.cost.length) :
    Calls Try.prog 130 #[m.val ao ac bo bc, .int .i64 a, .int .i64 b] w fun e w' => e = .returned (.int .i64 (gapI m a b)) ∧ Ext w w' := by
  obtain ⟨W, H, hw, hh, w1, w6, h1, h6, hn⟩ := map_dims hm
  have h36 := (map_len hm).2.2.1
  unfold MapD.val
  have hgap : gapI m a b = absI ((a : Int) % W - (b : Int) % W) + absI ((a : Int) / W - (b : Int) / W) := by unfold gapI; rw [hw]
  rw [hgap, hw]
  have q1 : 0 ≤ (a : Int) % W := Int.emod_nonneg _ (by omega)
  have q2 : (a : Int) % W < W := Int.emod_lt_of_pos _ (by omega)
  have q3 : 0 ≤ (b : Int) % W := Int.emod_nonneg _ (by omega)
  have q4 : (b : Int) % W < W := Int.emod_lt_of_pos _ (by omega)
  have q5 : 0 ≤ (a : Int) / W := Int.ediv_nonneg (by omega) (by omega)
  have q6 : (a : Int) / W ≤ a := Int.ediv_le_self _ (by omega)
  have q7 : 0 ≤ (b : Int) / W := Int.ediv_nonneg (by omega) (by omega)
  have q8 : (b : Int) / W ≤ b := Int.ediv_le_self _ (by omega)
  have hW0 : ¬ (W : Int) = 0 := by omega
  have HA1 := Lib.hid (fun y => impl_absOf (x := (a : Int) % W - (b : Int) % W) (w := y) (by omega) (by omega))
  have HA2 := Lib.hid (fun y => impl_absOf (x := (a : Int) / W - (b : Int) / W) (w := y) (by omega) (by omega))
  have hB1 : 0 ≤ absI ((a : Int) % W - (b : Int) % W) ∧ absI ((a : Int) % W - (b : Int) % W) ≤ 100 := by unfold absI; split <;> omega
  have hB2 : 0 ≤ absI ((a : Int) / W - (b : Int) / W) ∧ absI ((a : Int) / W - (b : Int) / W) ≤ 100 := by unfold absI; split <;> omega
  have hX := (Ext.refl w).alloc (.cells #[.int .i64 W, .int .i64 m.hei, .slice ao m.rise.length ac, .slice bo m.cost.length bc] 30)
  have g0 := Grow.cells (show (w.alloc (.cells #[.int .i64 W, .int .i64 m.hei, .slice ao m.rise.length ac, .slice bo m.cost.length bc] 30)).cell? ⟨w.heap.size, 0, none⟩ = some (.int .i64 W) by go_simp)
  have HX := Lib.hid hX
  clear hX hgap hm hn h1 h6 hh hw
  have hs1 : wrap64 ((a : Int) % W - (b : Int) % W) = (a : Int) % W - (b : Int) % W := IntWalk.wrap64_in _ (by omega)
  have hs2 : wrap64 ((a : Int) / W - (b : Int) / W) = (a : Int) / W - (b : Int) / W := IntWalk.wrap64_in _ (by omega)
  go_enter Try.func130, Try.ntmps130
  go_wp2
  refine wp_region_ext (by kernel_rfl) (by kernel_rfl) ?_
  repeat (go_big_quiet_step ((first | (go_at_call 131; with_reducible exact Calls.ext_of_same (HA1.out _)) | (go_at_call 131; with_reducible exact Calls.ext_of_same (HA2.out _)))))
  refine wpQuiet_nil ?_
  rintro _ ⟨⟨w1, hx1⟩, rfl⟩
  clear g0
  have HX1 := Lib.hid (HX.out.trans hx1)
  clear hx1
  go_wp2
  go_ret
  exact ⟨rfl, HX1.out⟩

set_option maxHeartbeats 1000000 in
theorem impl_stepTime {m : MapD} {ao bo : Option Addr} {ac bc : Nat} {a b : Nat} {w : World} (hr : RowAt w ao 1 m.rise.length (ic m.rise)) (ht : RowAt w bo 1 m.cost.length (ic m.cost)) (hm : mapB m = true) (ha : a < m.cost.length) (hb : b < m.cost.length) :
    Calls Try.prog 125 #[m.val ao ac bo bc, .int .i64 a, .int .i64 b] w fun e w' => e = .returned (.int .i64 (stI m a b)) ∧ Ext w w' := by
  have hl := map_len hm
  have ma := map_at hm ha
  have mb := map_at hm hb
  obtain ⟨rb, roff, rfl, rcell⟩ := ints_at' hr (by omega)
  obtain ⟨cb, coff, rfl, ccell⟩ := ints_at' ht (by omega)
  have hX := (Ext.refl w).alloc (.cells #[.int .i64 m.wid, .int .i64 m.hei, .slice (some ⟨rb, roff, none⟩) m.rise.length ac, .slice (some ⟨cb, coff, none⟩) m.cost.length bc] 30)
  have d0 := hX.cells (rcell a (by omega))
  have d1 := hX.cells (rcell b (by omega))
  have d2 := hX.cells (ccell b hb)
  have hst : stI m a b = nth m.cost b + 2 * max (nth m.rise b - nth m.rise a) 0 + max (-(nth m.rise b - nth m.rise a) - 2) 0 := rfl
  have hlr := hl.1
  have h36 := hl.2.2.1
  rw [hst]
  have ma1 := ma.2.1; have ma2 := ma.2.2; have mb1 := mb.2.1; have mb2 := mb.2.2; have mc1 := mb.1.1; have mc2 := mb.1.2
  have ha0 : (0 : Int) ≤ (a : Int) := by omega
  have ha1 : (a : Int) < (m.rise.length : Int) := by omega
  have hb0 : (0 : Int) ≤ (b : Int) := by omega
  have hb1 : (b : Int) < (m.rise.length : Int) := by omega
  have hb2 : (b : Int) < (m.cost.length : Int) := by omega
  have HX := Lib.hid hX
  unfold MapD.val
  generalize nth m.rise a = ra at *
  generalize nth m.rise b = rc at *
  generalize nth m.cost b = cc at *
  clear hst hl hlr ma mb rcell ccell hr ht hX hm ha hb
  go_enter Try.func125, Try.ntmps125
  go_wp2
  go_quiet (fail)
  go_wp2
  all_goals
    go_ret
    exact ⟨ret_i (by omega), HX.out.trans (Ext.drewM _ _)⟩

end Go.Proofs.Ytidcfohlhamgmaa
