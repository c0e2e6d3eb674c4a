/-
  Proved here: what BreakEven and its reference return.
  Conditions: the lengths fit an int.
-/
import Derived.Test.YtidcfohlhamgmaaSco2
namespace Go.Proofs.Ytidcfohlhamgmaa
open Go.RowKit

def evenV (xs : List Ctl) (r : RuleD) (code : Int) : Value := if r.pen = 0 then .tuple #[.int .i64 36000, .bool true] else .tuple #[.int .i64 (nth r.pts (ofI xs xs.length code).toNat / r.pen), .bool true]
def gEven (m : MapD) (xs : List Ctl) (r : RuleD) (code : Int) : Value := if ruleB m xs r && decide (0 ≤ ofI xs xs.length code) then evenV xs r code else .tuple #[.int .i64 0, .bool false]
theorem of_at {xs : List Ctl} {n : Nat} {x : Int} (h : 0 ≤ ofI xs n x) : ∃ k : Nat, k < n ∧ ofI xs n x = k := by
  rcases idxU_cases (fun k => (nth xs k).code == x) n with ⟨e, _⟩ | ⟨k, hk, e, _⟩
  · unfold ofI at h; omega
  · exact ⟨k, hk, e⟩

set_option maxHeartbeats 2000000 in
theorem impl_BreakEven {m : MapD} {ao bo : Option Addr} {ac bc : Nat} {co : Option Addr} {cap : Nat} {xs : List Ctl} {r : RuleD} {po : Option Addr} {pc : Nat} {code : Int} {w : World} (h : Site w m ao bo xs co cap) (hp : RowAt w po 1 r.pts.length (ic r.pts)) (hn : r.pts.length ≤ 9223372036854775807) :
    Calls Try.prog 43 #[m.val ao ac bo bc, .slice co xs.length cap, r.val po pc, .int .i64 code] w fun e w' => e = .returned (gEven m xs r code) ∧ Ext w w' := by
  have H := fun y hx => impl_IsScoreRule (w := y) (ao := ao) (bo := bo) (co := co) (po := po) (ac := ac) (bc := bc) (cap := cap) (pc := pc) (h.ext hx) (hp.ext hx) hn
  have HF := fun y hx => impl_controlOf (w := y) (cap := cap) (x := code) ((h.ext hx).ctls) h.n3
  have h3 := h.n3
  cases hb : ruleB m xs r
  · have hfin : gEven m xs r code = .tuple #[.int .i64 0, .bool false] := by simp [gEven, hb]
    rw [hfin]
    rw [hb] at H
    clear hfin hb
    unfold MapD.val RuleD.val at H ⊢
    go_enter Try.func43, Try.ntmps43
    go_wp2_with fail
    refine (HF _ (by repeat (first | (with_reducible exact Ext.refl _) | (with_reducible assumption) | with_reducible refine Ext.drew ?_ | with_reducible refine Ext.alloc ?_ _ | with_reducible refine Ext.setCell ?_ (by first | (simp; done) | (simp; omega) | omega) _ | with_reducible refine Ext.trans ?_ (by with_reducible assumption)))).mono ?_; rintro e w0 ⟨rfl, hx0⟩
    have m0 : w0.cell? ⟨w.heap.size, 0, none⟩ = some (.int .i64 m.wid) := hx0.cells (((Ext.refl _).alloc _).cells (by go_simp))
    have m1 : w0.cell? ⟨w.heap.size, 1, none⟩ = some (.int .i64 m.hei) := hx0.cells (((Ext.refl _).alloc _).cells (by go_simp))
    have m2 : w0.cell? ⟨w.heap.size, 2, none⟩ = some (.slice ao m.rise.length ac) := hx0.cells (((Ext.refl _).alloc _).cells (by go_simp))
    have m3 : w0.cell? ⟨w.heap.size, 3, none⟩ = some (.slice bo m.cost.length bc) := hx0.cells (((Ext.refl _).alloc _).cells (by go_simp))
    have c0 : w0.cell? ⟨w.heap.size + 1, 0, none⟩ = some (.slice po r.pts.length pc) := hx0.cells (by go_simp)
    have c1 : w0.cell? ⟨w.heap.size + 1, 1, none⟩ = some (.int .i64 r.lim) := hx0.cells (by go_simp)
    have c2 : w0.cell? ⟨w.heap.size + 1, 2, none⟩ = some (.int .i64 r.pen) := hx0.cells (by go_simp)
    have cl : w.heap.size + 1 < w0.heap.size := World.block_lt_of_cell? _ _ c0
    have cm : w.heap.size < w0.heap.size := by omega
    have hE0 : Ext w w0 := (by repeat (first | (with_reducible exact Ext.refl _) | (with_reducible assumption) | with_reducible refine Ext.drew ?_ | with_reducible refine Ext.alloc ?_ _ | with_reducible refine Ext.setCell ?_ (by first | (simp; done) | (simp; omega) | omega) _ | with_reducible refine Ext.trans ?_ (by with_reducible assumption)))
    clear hx0
    go_wp2_with fail
    refine (H _ hE0).mono ?_; rintro e w1 ⟨rfl, hx1⟩
    have c0 := hx1.cells c0
    have c2 := hx1.cells c2
    have cl : w.heap.size + 1 < w1.heap.size := World.block_lt_of_cell? _ _ c0
    have hE := hE0.trans hx1
    clear hx1 m0 m1 m2 m3 c1 cm hE0
    go_wp2
    go_ret2
    exact ⟨rfl, hE⟩
  · by_cases h0 : 0 ≤ ofI xs xs.length code
    · obtain ⟨i, hi, hI⟩ := of_at h0
      have hr := rule_len hb
      have hil : i < r.pts.length := by omega
      have hl10 : r.pts.length ≤ 10 := by omega
      have hpt := hr.2.2.2.2 i hil
      have hpn := hr.2.2.2.1
      rw [inB_iff] at hpt hpn
      obtain ⟨b, off, rfl, hcell⟩ := ints_at' hp (by omega)
      have hfin : gEven m xs r code = evenV xs r code := by simp [gEven, hb, h0]
      rw [hfin]
      rw [hb] at H
      rw [hI] at HF
      unfold evenV
      rw [hI]
      clear hfin hb hr h0 hI
      by_cases hz : r.pen = 0
      · rw [if_pos hz]
        have hz' : (r.pen == 0) = true := by simp [hz]
        clear hz
        unfold MapD.val RuleD.val at H ⊢
        go_enter Try.func43, Try.ntmps43
        go_wp2_with fail
        refine (HF _ (by repeat (first | (with_reducible exact Ext.refl _) | (with_reducible assumption) | with_reducible refine Ext.drew ?_ | with_reducible refine Ext.alloc ?_ _ | with_reducible refine Ext.setCell ?_ (by first | (simp; done) | (simp; omega) | omega) _ | with_reducible refine Ext.trans ?_ (by with_reducible assumption)))).mono ?_; rintro e w0 ⟨rfl, hx0⟩
        have m0 : w0.cell? ⟨w.heap.size, 0, none⟩ = some (.int .i64 m.wid) := hx0.cells (((Ext.refl _).alloc _).cells (by go_simp))
        have m1 : w0.cell? ⟨w.heap.size, 1, none⟩ = some (.int .i64 m.hei) := hx0.cells (((Ext.refl _).alloc _).cells (by go_simp))
        have m2 : w0.cell? ⟨w.heap.size, 2, none⟩ = some (.slice ao m.rise.length ac) := hx0.cells (((Ext.refl _).alloc _).cells (by go_simp))
        have m3 : w0.cell? ⟨w.heap.size, 3, none⟩ = some (.slice bo m.cost.length bc) := hx0.cells (((Ext.refl _).alloc _).cells (by go_simp))
        have c0 : w0.cell? ⟨w.heap.size + 1, 0, none⟩ = some (.slice (some ⟨b, off, none⟩) r.pts.length pc) := hx0.cells (by go_simp)
        have c1 : w0.cell? ⟨w.heap.size + 1, 1, none⟩ = some (.int .i64 r.lim) := hx0.cells (by go_simp)
        have c2 : w0.cell? ⟨w.heap.size + 1, 2, none⟩ = some (.int .i64 r.pen) := hx0.cells (by go_simp)
        have cl : w.heap.size + 1 < w0.heap.size := World.block_lt_of_cell? _ _ c0
        have cm : w.heap.size < w0.heap.size := by omega
        have hE0 : Ext w w0 := (by repeat (first | (with_reducible exact Ext.refl _) | (with_reducible assumption) | with_reducible refine Ext.drew ?_ | with_reducible refine Ext.alloc ?_ _ | with_reducible refine Ext.setCell ?_ (by first | (simp; done) | (simp; omega) | omega) _ | with_reducible refine Ext.trans ?_ (by with_reducible assumption)))
        clear hx0
        go_wp2_with fail
        refine (H _ hE0).mono ?_; rintro e w1 ⟨rfl, hx1⟩
        have c0 := hx1.cells c0
        have c2 := hx1.cells c2
        have cl : w.heap.size + 1 < w1.heap.size := World.block_lt_of_cell? _ _ c0
        have hE := hE0.trans hx1
        clear hx1 m0 m1 m2 m3 c1 cm hE0
        go_wp2
        go_ret2
        exact ⟨rfl, hE⟩
      · rw [if_neg hz]
        have hz' : (r.pen == 0) = false := by simpa using hz
        have hp1 : 1 ≤ r.pen := by omega
        have hq0 := Int.ediv_nonneg hpt.1 (show 0 ≤ r.pen by omega)
        have hq1 : nth r.pts i / r.pen ≤ nth r.pts i := Int.ediv_le_self _ hpt.1
        have hii : (i : Int) < (r.pts.length : Int) := by omega
        have hi0 : (0 : Int) ≤ (i : Int) := by omega
        rw [Int.toNat_natCast]
        clear hz
        unfold MapD.val RuleD.val at H ⊢
        go_enter Try.func43, Try.ntmps43
        go_wp2_with fail
        refine (HF _ (by repeat (first | (with_reducible exact Ext.refl _) | (with_reducible assumption) | with_reducible refine Ext.drew ?_ | with_reducible refine Ext.alloc ?_ _ | with_reducible refine Ext.setCell ?_ (by first | (simp; done) | (simp; omega) | omega) _ | with_reducible refine Ext.trans ?_ (by with_reducible assumption)))).mono ?_; rintro e w0 ⟨rfl, hx0⟩
        have m0 : w0.cell? ⟨w.heap.size, 0, none⟩ = some (.int .i64 m.wid) := hx0.cells (((Ext.refl _).alloc _).cells (by go_simp))
        have m1 : w0.cell? ⟨w.heap.size, 1, none⟩ = some (.int .i64 m.hei) := hx0.cells (((Ext.refl _).alloc _).cells (by go_simp))
        have m2 : w0.cell? ⟨w.heap.size, 2, none⟩ = some (.slice ao m.rise.length ac) := hx0.cells (((Ext.refl _).alloc _).cells (by go_simp))
        have m3 : w0.cell? ⟨w.heap.size, 3, none⟩ = some (.slice bo m.cost.length bc) := hx0.cells (((Ext.refl _).alloc _).cells (by go_simp))
        have c0 : w0.cell? ⟨w.heap.size + 1, 0, none⟩ = some (.slice (some ⟨b, off, none⟩) r.pts.length pc) := hx0.cells (by go_simp)
        have c1 : w0.cell? ⟨w.heap.size + 1, 1, none⟩ = some (.int .i64 r.lim) := hx0.cells (by go_simp)
        have c2 : w0.cell? ⟨w.heap.size + 1, 2, none⟩ = some (.int .i64 r.pen) := hx0.cells (by go_simp)
        have cl : w.heap.size + 1 < w0.heap.size := World.block_lt_of_cell? _ _ c0
        have cm : w.heap.size < w0.heap.size := by omega
        have hE0 : Ext w w0 := (by repeat (first | (with_reducible exact Ext.refl _) | (with_reducible assumption) | with_reducible refine Ext.drew ?_ | with_reducible refine Ext.alloc ?_ _ | with_reducible refine Ext.setCell ?_ (by first | (simp; done) | (simp; omega) | omega) _ | with_reducible refine Ext.trans ?_ (by with_reducible assumption)))
        clear hx0
        go_wp2_with fail
        refine (H _ hE0).mono ?_; rintro e w1 ⟨rfl, hx1⟩
        have c0 := hx1.cells c0
        have c2 := hx1.cells c2
        have cl : w.heap.size + 1 < w1.heap.size := World.block_lt_of_cell? _ _ c0
        have hE := hE0.trans hx1
        clear hx1 m0 m1 m2 m3 c1 cm hE0
        have d0 := hE.cells (hcell i hil)
        have g0 := Grow.cells c0
        have g2 := Grow.cells c2
        have gd := Grow.cells d0
        clear hcell H HF
        go_wp2
        refine wp_region_ext (by kernel_rfl) (by kernel_rfl) ?_
        repeat (go_big_quiet_step (fail))
        refine wpQuiet_nil ?_
        rintro _ ⟨⟨w1, hx1⟩, rfl⟩
        clear g0 g2 gd
        go_wp2
        go_ret2
        exact ⟨ret_ib (by first | rfl | omega) rfl, hE.trans hx1⟩
    · have hfin : gEven m xs r code = .tuple #[.int .i64 0, .bool false] := by simp [gEven, h0]
      rw [hfin]
      rw [hb] at H
      clear hfin hb
      have hneg : ofI xs xs.length code < 0 := by omega
      clear h0
      unfold MapD.val RuleD.val at H ⊢
      go_enter Try.func43, Try.ntmps43
      go_wp2_with fail
      refine (HF _ (by repeat (first | (with_reducible exact Ext.refl _) | (with_reducible assumption) | with_reducible refine Ext.drew ?_ | with_reducible refine Ext.alloc ?_ _ | with_reducible refine Ext.setCell ?_ (by first | (simp; done) | (simp; omega) | omega) _ | with_reducible refine Ext.trans ?_ (by with_reducible assumption)))).mono ?_; rintro e w0 ⟨rfl, hx0⟩
      have m0 : w0.cell? ⟨w.heap.size, 0, none⟩ = some (.int .i64 m.wid) := hx0.cells (((Ext.refl _).alloc _).cells (by go_simp))
      have m1 : w0.cell? ⟨w.heap.size, 1, none⟩ = some (.int .i64 m.hei) := hx0.cells (((Ext.refl _).alloc _).cells (by go_simp))
      have m2 : w0.cell? ⟨w.heap.size, 2, none⟩ = some (.slice ao m.rise.length ac) := hx0.cells (((Ext.refl _).alloc _).cells (by go_simp))
      have m3 : w0.cell? ⟨w.heap.size, 3, none⟩ = some (.slice bo m.cost.length bc) := hx0.cells (((Ext.refl _).alloc _).cells (by go_simp))
      have c0 : w0.cell? ⟨w.heap.size + 1, 0, none⟩ = some (.slice po r.pts.length pc) := hx0.cells (by go_simp)
      have c1 : w0.cell? ⟨w.heap.size + 1, 1, none⟩ = some (.int .i64 r.lim) := hx0.cells (by go_simp)
      have c2 : w0.cell? ⟨w.heap.size + 1, 2, none⟩ = some (.int .i64 r.pen) := hx0.cells (by go_simp)
      have cl : w.heap.size + 1 < w0.heap.size := World.block_lt_of_cell? _ _ c0
      have cm : w.heap.size < w0.heap.size := by omega
      have hE0 : Ext w w0 := (by repeat (first | (with_reducible exact Ext.refl _) | (with_reducible assumption) | with_reducible refine Ext.drew ?_ | with_reducible refine Ext.alloc ?_ _ | with_reducible refine Ext.setCell ?_ (by first | (simp; done) | (simp; omega) | omega) _ | with_reducible refine Ext.trans ?_ (by with_reducible assumption)))
      clear hx0
      go_wp2_with fail
      refine (H _ hE0).mono ?_; rintro e w1 ⟨rfl, hx1⟩
      have c0 := hx1.cells c0
      have c2 := hx1.cells c2
      have cl : w.heap.size + 1 < w1.heap.size := World.block_lt_of_cell? _ _ c0
      have hE := hE0.trans hx1
      clear hx1 m0 m1 m2 m3 c1 cm hE0
      go_wp2
      go_ret2
      exact ⟨rfl, hE⟩

set_option maxHeartbeats 2000000 in
theorem spec_BreakEven {m : MapD} {ao bo : Option Addr} {ac bc : Nat} {co : Option Addr} {cap : Nat} {xs : List Ctl} {r : RuleD} {po : Option Addr} {pc : Nat} {code : Int} {w : World} (h : Site w m ao bo xs co cap) (hp : RowAt w po 1 r.pts.length (ic r.pts)) (hn : r.pts.length ≤ 9223372036854775807) :
    Calls Try.prog 44 #[m.val ao ac bo bc, .slice co xs.length cap, r.val po pc, .int .i64 code] w fun e w' => e = .returned (gEven m xs r code) ∧ Ext w w' := by
  have H := fun y hx => spec_l17Rule (w := y) (ao := ao) (bo := bo) (co := co) (po := po) (ac := ac) (bc := bc) (cap := cap) (pc := pc) (h.ext hx) (hp.ext hx) hn
  have HF := fun y hx => spec_l6Find (w := y) (cap := cap) (x := code) ((h.ext hx).ctls) h.n3
  have h3 := h.n3
  cases hb : ruleB m xs r
  · have hfin : gEven m xs r code = .tuple #[.int .i64 0, .bool false] := by simp [gEven, hb]
    rw [hfin]
    rw [hb] at H
    clear hfin hb
    unfold MapD.val RuleD.val at H ⊢
    go_enter Try.func44, Try.ntmps44
    go_wp2_with fail
    refine (H _ (by repeat (first | (with_reducible exact Ext.refl _) | (with_reducible assumption) | with_reducible refine Ext.drew ?_ | with_reducible refine Ext.alloc ?_ _ | with_reducible refine Ext.setCell ?_ (by first | (simp; done) | (simp; omega) | omega) _ | with_reducible refine Ext.trans ?_ (by with_reducible assumption)))).mono ?_; rintro e w0 ⟨rfl, hx0⟩
    go_wp2
    go_ret2
    exact ⟨rfl, (by repeat (first | (with_reducible exact Ext.refl _) | (with_reducible assumption) | with_reducible refine Ext.drew ?_ | with_reducible refine Ext.alloc ?_ _ | with_reducible refine Ext.setCell ?_ (by first | (simp; done) | (simp; omega) | omega) _ | with_reducible refine Ext.trans ?_ (by with_reducible assumption)))⟩
  · by_cases h0 : 0 ≤ ofI xs xs.length code
    · obtain ⟨i, hi, hI⟩ := of_at h0
      have hr := rule_len hb
      have hil : i < r.pts.length := by omega
      have hl10 : r.pts.length ≤ 10 := by omega
      have hpt := hr.2.2.2.2 i hil
      have hpn := hr.2.2.2.1
      rw [inB_iff] at hpt hpn
      obtain ⟨b, off, rfl, hcell⟩ := ints_at' hp (by omega)
      have hfin : gEven m xs r code = evenV xs r code := by simp [gEven, hb, h0]
      rw [hfin]
      rw [hb] at H
      rw [hI] at HF
      unfold evenV
      rw [hI]
      clear hfin hb hr h0 hI
      by_cases hz : r.pen = 0
      · rw [if_pos hz]
        have hz' : (r.pen == 0) = true := by simp [hz]
        clear hz
        unfold MapD.val RuleD.val at H ⊢
        go_enter Try.func44, Try.ntmps44
        go_wp2_with fail
        refine (H _ (by repeat (first | (with_reducible exact Ext.refl _) | (with_reducible assumption) | with_reducible refine Ext.drew ?_ | with_reducible refine Ext.alloc ?_ _ | with_reducible refine Ext.setCell ?_ (by first | (simp; done) | (simp; omega) | omega) _ | with_reducible refine Ext.trans ?_ (by with_reducible assumption)))).mono ?_; rintro e w0 ⟨rfl, hx0⟩
        have c0 : w0.cell? ⟨w.heap.size + 1, 0, none⟩ = some (.slice (some ⟨b, off, none⟩) r.pts.length pc) := hx0.cells (by go_simp)
        have c2 : w0.cell? ⟨w.heap.size + 1, 2, none⟩ = some (.int .i64 r.pen) := hx0.cells (by go_simp)
        have cl : w.heap.size + 1 < w0.heap.size := World.block_lt_of_cell? _ _ c0
        have hE0 : Ext w w0 := (by repeat (first | (with_reducible exact Ext.refl _) | (with_reducible assumption) | with_reducible refine Ext.drew ?_ | with_reducible refine Ext.alloc ?_ _ | with_reducible refine Ext.setCell ?_ (by first | (simp; done) | (simp; omega) | omega) _ | with_reducible refine Ext.trans ?_ (by with_reducible assumption)))
        clear hx0
        go_wp2_with fail
        refine (HF _ hE0).mono ?_; rintro e w1 ⟨rfl, hx1⟩
        have c0 := hx1.cells c0
        have c2 := hx1.cells c2
        have cl : w.heap.size + 1 < w1.heap.size := World.block_lt_of_cell? _ _ c0
        have hE := hE0.trans hx1
        clear hx1 hE0
        go_wp2
        go_ret2
        exact ⟨rfl, hE⟩
      · rw [if_neg hz]
        have hz' : (r.pen == 0) = false := by simpa using hz
        have hp1 : 1 ≤ r.pen := by omega
        have hq0 := Int.ediv_nonneg hpt.1 (show 0 ≤ r.pen by omega)
        have hq1 : nth r.pts i / r.pen ≤ nth r.pts i := Int.ediv_le_self _ hpt.1
        have hii : (i : Int) < (r.pts.length : Int) := by omega
        have hi0 : (0 : Int) ≤ (i : Int) := by omega
        rw [Int.toNat_natCast]
        clear hz
        unfold MapD.val RuleD.val at H ⊢
        go_enter Try.func44, Try.ntmps44
        go_wp2_with fail
        refine (H _ (by repeat (first | (with_reducible exact Ext.refl _) | (with_reducible assumption) | with_reducible refine Ext.drew ?_ | with_reducible refine Ext.alloc ?_ _ | with_reducible refine Ext.setCell ?_ (by first | (simp; done) | (simp; omega) | omega) _ | with_reducible refine Ext.trans ?_ (by with_reducible assumption)))).mono ?_; rintro e w0 ⟨rfl, hx0⟩
        have c0 : w0.cell? ⟨w.heap.size + 1, 0, none⟩ = some (.slice (some ⟨b, off, none⟩) r.pts.length pc) := hx0.cells (by go_simp)
        have c2 : w0.cell? ⟨w.heap.size + 1, 2, none⟩ = some (.int .i64 r.pen) := hx0.cells (by go_simp)
        have cl : w.heap.size + 1 < w0.heap.size := World.block_lt_of_cell? _ _ c0
        have hE0 : Ext w w0 := (by repeat (first | (with_reducible exact Ext.refl _) | (with_reducible assumption) | with_reducible refine Ext.drew ?_ | with_reducible refine Ext.alloc ?_ _ | with_reducible refine Ext.setCell ?_ (by first | (simp; done) | (simp; omega) | omega) _ | with_reducible refine Ext.trans ?_ (by with_reducible assumption)))
        clear hx0
        go_wp2_with fail
        refine (HF _ hE0).mono ?_; rintro e w1 ⟨rfl, hx1⟩
        have c0 := hx1.cells c0
        have c2 := hx1.cells c2
        have cl : w.heap.size + 1 < w1.heap.size := World.block_lt_of_cell? _ _ c0
        have hE := hE0.trans hx1
        clear hx1 hE0
        have g0 := Grow.cells c0
        have g2 := Grow.cells c2
        have gd := Grow.cells (hE.cells (hcell i hil))
        have HF2 := fun y (hy : Ext w1 y) => HF y (hE.trans hy)
        clear hcell H HF
        go_wp2
        refine wp_region_ext (by kernel_rfl) (by kernel_rfl) ?_
        repeat (go_big_quiet_step (first | (go_at_call 94; exact Calls.ext_of ((HF2 _ (Grow.h _))))))
        refine wpQuiet_nil ?_
        rintro _ ⟨⟨w1, hx1⟩, rfl⟩
        clear g0 g2 gd
        go_wp2
        go_ret2
        exact ⟨ret_ib (by first | rfl | omega) rfl, hE.trans hx1⟩
    · have hfin : gEven m xs r code = .tuple #[.int .i64 0, .bool false] := by simp [gEven, h0]
      rw [hfin]
      rw [hb] at H
      clear hfin hb
      have hneg : ofI xs xs.length code < 0 := by omega
      clear h0
      unfold MapD.val RuleD.val at H ⊢
      go_enter Try.func44, Try.ntmps44
      go_wp2_with fail
      refine (H _ (by repeat (first | (with_reducible exact Ext.refl _) | (with_reducible assumption) | with_reducible refine Ext.drew ?_ | with_reducible refine Ext.alloc ?_ _ | with_reducible refine Ext.setCell ?_ (by first | (simp; done) | (simp; omega) | omega) _ | with_reducible refine Ext.trans ?_ (by with_reducible assumption)))).mono ?_; rintro e w0 ⟨rfl, hx0⟩
      have c0 : w0.cell? ⟨w.heap.size + 1, 0, none⟩ = some (.slice po r.pts.length pc) := hx0.cells (by go_simp)
      have c2 : w0.cell? ⟨w.heap.size + 1, 2, none⟩ = some (.int .i64 r.pen) := hx0.cells (by go_simp)
      have cl : w.heap.size + 1 < w0.heap.size := World.block_lt_of_cell? _ _ c0
      have hE0 : Ext w w0 := (by repeat (first | (with_reducible exact Ext.refl _) | (with_reducible assumption) | with_reducible refine Ext.drew ?_ | with_reducible refine Ext.alloc ?_ _ | with_reducible refine Ext.setCell ?_ (by first | (simp; done) | (simp; omega) | omega) _ | with_reducible refine Ext.trans ?_ (by with_reducible assumption)))
      clear hx0
      go_wp2_with fail
      refine (HF _ hE0).mono ?_; rintro e w1 ⟨rfl, hx1⟩
      have c0 := hx1.cells c0
      have c2 := hx1.cells c2
      have cl : w.heap.size + 1 < w1.heap.size := World.block_lt_of_cell? _ _ c0
      have hE := hE0.trans hx1
      clear hx1 hE0
      go_wp2
      go_ret2
      exact ⟨rfl, hE⟩

end Go.Proofs.Ytidcfohlhamgmaa
