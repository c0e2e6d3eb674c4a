/-
  Proved here: what GapIn returns.
  Conditions: the lengths fit an int; no slice is longer than its capacity.
-/
import Derived.Test.YtdbibdecnepobaaHeat4
namespace Go.Proofs.Ytdbibdecnepobaa
open Go.RowKit

set_option maxHeartbeats 2000000 in
theorem impl_GapIn {h : HeatD} {ao bo : Option Addr} {ac bc : Nat} {a b : Int} {w : World} (hr : RowAt w ao 1 h.rs.length (ic h.rs)) (ht : RowAt w bo 1 h.ts.length (ic h.ts))
    (n1 : h.rs.length ≤ 9223372036854775807) (n2 : h.ts.length ≤ 9223372036854775807) (c1 : h.rs.length ≤ ac) (c2 : h.ts.length ≤ bc) :
    Calls Try.prog 13 #[h.val ao ac bo bc, .int .i64 a, .int .i64 b] w fun e w' => e = .returned (gGap h a b) ∧ Ext w w' := by
  have hw0 : Ext w (w.alloc (Obj.cells #[.slice ao h.rs.length ac, .slice bo h.ts.length bc] 27)) := (Ext.refl _).alloc _
  have H := fun x hx => impl_IsHeat (w := x) (h := h) (hr.ext hx) (ht.ext hx) n1 n2 c1 c2
  have hA := fun x (hx : Ext _ x) => slices_Index (w := x) (v := a) (cap := ac) ((hr.ext hw0).ext hx) n1
  have hB := fun x (hx : Ext _ x) => slices_Index (w := x) (v := b) (cap := ac) ((hr.ext hw0).ext hx) n1
  unfold HeatD.val at H ⊢
  have g0 : ∀ x : Grow (w.alloc (Obj.cells #[.slice ao h.rs.length ac, .slice bo h.ts.length bc] 27)), x.w.cell? ⟨w.heap.size, 0, none⟩ = some (.slice ao h.rs.length ac) := Grow.cells (by go_simp)
  have g1 : ∀ x : Grow (w.alloc (Obj.cells #[.slice ao h.rs.length ac, .slice bo h.ts.length bc] 27)), x.w.cell? ⟨w.heap.size, 1, none⟩ = some (.slice bo h.ts.length bc) := Grow.cells (by go_simp)
  cases hh : heatB h
  · rw [hh] at H
    go_enter Try.func13, Try.ntmps13
    go_wp2
    refine wp_region_ext (by kernel_rfl) (by kernel_rfl) ?_
    repeat (go_big_quiet_step ((first | (go_at_call 34; with_reducible exact Calls.ext_of (hA _ (Grow.h _))) | (go_at_call 34; with_reducible exact Calls.ext_of (hB _ (Grow.h _))))))
    refine wpQuiet_nil ?_
    rintro _ ⟨⟨w1, hx1⟩, rfl⟩
    have f0 := hx1.cells (g0 ⟨_, Ext.refl _⟩)
    have f1 := hx1.cells (g1 ⟨_, Ext.refl _⟩)
    clear g0 g1 hA hB
    go_wp2_with fail
    refine (H _ (by repeat (first | (with_reducible exact Ext.refl _) | (with_reducible assumption) | with_reducible refine Ext.drew ?_ | with_reducible refine Ext.alloc ?_ _ | with_reducible refine Ext.setCell ?_ (by first | (simp; done) | (simp; omega) | omega) _ | with_reducible refine Ext.trans ?_ (by with_reducible assumption)))).mono ?_; rintro e w2 ⟨rfl, hx2⟩
    go_wp2
    go_ret2
    exact ⟨by simp [gGap, gapB, hh], (by repeat (first | (with_reducible exact Ext.refl _) | (with_reducible assumption) | with_reducible refine Ext.drew ?_ | with_reducible refine Ext.alloc ?_ _ | with_reducible refine Ext.setCell ?_ (by first | (simp; done) | (simp; omega) | omega) _ | with_reducible refine Ext.trans ?_ (by with_reducible assumption)))⟩
  · rw [hh] at H
    have hl : h.ts.length = h.rs.length := by simp only [heatB, headH, Bool.and_eq_true, decide_eq_true_eq] at hh; exact hh.1.1.2
    have hbd := fun v => timeL_bd hh v (Nat.le_refl _)
    have hgap : gGap h a b = if timeL h a h.rs.length = 0 then .tuple #[.int .i64 0, .bool false] else if timeL h b h.rs.length = 0 then .tuple #[.int .i64 0, .bool false] else .tuple #[.int .i64 (timeL h b h.rs.length - timeL h a h.rs.length), .bool true] := by
      unfold gGap gapB
      rw [hh]
      by_cases e : timeL h a h.rs.length = 0 <;> by_cases e' : timeL h b h.rs.length = 0 <;> simp [e, e']
    have hcell : ∀ k, k < h.rs.length → ∃ b2 off', bo = some ⟨b2, off', none⟩ ∧ w.cell? ⟨b2, off' + k, none⟩ = some (.int .i64 (nth h.ts k)) := fun k hk => by
      obtain ⟨b2, off', rfl, hcell'⟩ := intsN ht (by omega)
      exact ⟨b2, off', rfl, hcell' k (by omega)⟩
    have HG := Lib.hid hgap; clear hgap
    have HL := Lib.hid hl; clear hl
    have HC := Lib.hid hcell; clear hcell
    rcases timeL_idx hh a with ⟨ea, ta⟩ | ⟨ka, hka, ea, ta⟩
    · rw [ea] at hA
      have HT := Lib.hid ta; clear ta
      clear ea hbd
      go_enter Try.func13, Try.ntmps13
      go_wp2
      refine wp_region_ext (by kernel_rfl) (by kernel_rfl) ?_
      repeat (go_big_quiet_step ((first | (go_at_call 34; with_reducible exact Calls.ext_of (hA _ (Grow.h _))) | (go_at_call 34; with_reducible exact Calls.ext_of (hB _ (Grow.h _))))))
      refine wpQuiet_nil ?_
      rintro _ ⟨⟨w1, hx1⟩, rfl⟩
      have f0 := hx1.cells (g0 ⟨_, Ext.refl _⟩)
      have f1 := hx1.cells (g1 ⟨_, Ext.refl _⟩)
      clear g0 g1 hA hB
      go_wp2_with fail
      refine (H _ (by repeat (first | (with_reducible exact Ext.refl _) | (with_reducible assumption) | with_reducible refine Ext.drew ?_ | with_reducible refine Ext.alloc ?_ _ | with_reducible refine Ext.setCell ?_ (by first | (simp; done) | (simp; omega) | omega) _ | with_reducible refine Ext.trans ?_ (by with_reducible assumption)))).mono ?_; rintro e w2 ⟨rfl, hx2⟩
      go_wp2
      go_ret2
      exact ⟨by rw [HG.out, if_pos HT.out]; try rfl, (by repeat (first | (with_reducible exact Ext.refl _) | (with_reducible assumption) | with_reducible refine Ext.drew ?_ | with_reducible refine Ext.alloc ?_ _ | with_reducible refine Ext.setCell ?_ (by first | (simp; done) | (simp; omega) | omega) _ | with_reducible refine Ext.trans ?_ (by with_reducible assumption)))⟩
    · rcases timeL_idx hh b with ⟨eb, tb⟩ | ⟨kb, hkb, eb, tb⟩
      · rw [ea] at hA
        rw [eb] at hB
        have HT := Lib.hid tb; clear tb
        clear ea eb hbd ta
        go_enter Try.func13, Try.ntmps13
        go_wp2
        refine wp_region_ext (by kernel_rfl) (by kernel_rfl) ?_
        repeat (go_big_quiet_step ((first | (go_at_call 34; with_reducible exact Calls.ext_of (hA _ (Grow.h _))) | (go_at_call 34; with_reducible exact Calls.ext_of (hB _ (Grow.h _))))))
        refine wpQuiet_nil ?_
        rintro _ ⟨⟨w1, hx1⟩, rfl⟩
        have f0 := hx1.cells (g0 ⟨_, Ext.refl _⟩)
        have f1 := hx1.cells (g1 ⟨_, Ext.refl _⟩)
        clear g0 g1 hA hB
        go_wp2_with fail
        refine (H _ (by repeat (first | (with_reducible exact Ext.refl _) | (with_reducible assumption) | with_reducible refine Ext.drew ?_ | with_reducible refine Ext.alloc ?_ _ | with_reducible refine Ext.setCell ?_ (by first | (simp; done) | (simp; omega) | omega) _ | with_reducible refine Ext.trans ?_ (by with_reducible assumption)))).mono ?_; rintro e w2 ⟨rfl, hx2⟩
        go_wp2
        go_ret2
        exact ⟨by rw [HG.out, if_pos HT.out]; split <;> rfl, (by repeat (first | (with_reducible exact Ext.refl _) | (with_reducible assumption) | with_reducible refine Ext.drew ?_ | with_reducible refine Ext.alloc ?_ _ | with_reducible refine Ext.setCell ?_ (by first | (simp; done) | (simp; omega) | omega) _ | with_reducible refine Ext.trans ?_ (by with_reducible assumption)))⟩
      · rw [ea] at hA
        rw [eb] at hB
        have hba := hbd a
        have hbb := hbd b
        rw [ta] at hba
        rw [tb] at hbb
        have HTA := Lib.hid ta; clear ta
        have HTB := Lib.hid tb; clear tb
        clear ea eb hbd
        have hkat : ka < h.ts.length := by rw [HL.out]; exact hka
        have hkbt : kb < h.ts.length := by rw [HL.out]; exact hkb
        obtain ⟨b2, off', rfl, da⟩ := HC.out ka hka
        obtain ⟨b3, off3, hb3, db⟩ := HC.out kb hkb
        injection hb3 with hb3
        injection hb3 with e1 e2
        subst e1 e2
        by_cases za : nth h.ts ka = 0
        all_goals by_cases zb : nth h.ts kb = 0
        all_goals
          have qa : (nth h.ts ka == 0) = decide (nth h.ts ka = 0) := rfl
          have qb : (nth h.ts kb == 0) = decide (nth h.ts kb = 0) := rfl
          simp only [za, zb, decide_true, decide_false] at qa qb
          go_enter Try.func13, Try.ntmps13
          go_wp2
          refine wp_region_ext (by kernel_rfl) (by kernel_rfl) ?_
          repeat (go_big_quiet_step ((first | (go_at_call 34; with_reducible exact Calls.ext_of (hA _ (Grow.h _))) | (go_at_call 34; with_reducible exact Calls.ext_of (hB _ (Grow.h _))))))
          refine wpQuiet_nil ?_
          rintro _ ⟨⟨w1, hx1⟩, rfl⟩
          have f0 := hx1.cells (g0 ⟨_, Ext.refl _⟩)
          have f1 := hx1.cells (g1 ⟨_, Ext.refl _⟩)
          clear g0 g1 hA hB
          go_wp2_with fail
          refine (H _ (by repeat (first | (with_reducible exact Ext.refl _) | (with_reducible assumption) | with_reducible refine Ext.drew ?_ | with_reducible refine Ext.alloc ?_ _ | with_reducible refine Ext.setCell ?_ (by first | (simp; done) | (simp; omega) | omega) _ | with_reducible refine Ext.trans ?_ (by with_reducible assumption)))).mono ?_; rintro e w2 ⟨rfl, hx2⟩
          have c0 := Grow.cells (hx2.cells f0)
          have c1 := Grow.cells (hx2.cells f1)
          have c2 := Grow.cells (hx2.cells (hx1.cells (hw0.cells da)))
          have c3 := Grow.cells (hx2.cells (hx1.cells (hw0.cells db)))
          have d0 := hx2.cells f0
          have d1 := hx2.cells f1
          have d2 := hx2.cells (hx1.cells (hw0.cells da))
          have d3 := hx2.cells (hx1.cells (hw0.cells db))
          go_wp2
        · go_ret2
          exact ⟨by rw [HG.out, HTA.out, if_pos za]; try rfl, (by repeat (first | (with_reducible exact Ext.refl _) | (with_reducible assumption) | with_reducible refine Ext.drew ?_ | with_reducible refine Ext.alloc ?_ _ | with_reducible refine Ext.setCell ?_ (by first | (simp; done) | (simp; omega) | omega) _ | with_reducible refine Ext.trans ?_ (by with_reducible assumption)))⟩
        · go_ret2
          exact ⟨by rw [HG.out, HTA.out, if_pos za]; try rfl, (by repeat (first | (with_reducible exact Ext.refl _) | (with_reducible assumption) | with_reducible refine Ext.drew ?_ | with_reducible refine Ext.alloc ?_ _ | with_reducible refine Ext.setCell ?_ (by first | (simp; done) | (simp; omega) | omega) _ | with_reducible refine Ext.trans ?_ (by with_reducible assumption)))⟩
        · go_ret2
          exact ⟨by rw [HG.out, HTA.out, HTB.out, if_neg za, if_pos zb]; try rfl, (by repeat (first | (with_reducible exact Ext.refl _) | (with_reducible assumption) | with_reducible refine Ext.drew ?_ | with_reducible refine Ext.alloc ?_ _ | with_reducible refine Ext.setCell ?_ (by first | (simp; done) | (simp; omega) | omega) _ | with_reducible refine Ext.trans ?_ (by with_reducible assumption)))⟩
        · clear d0 d1 d2 d3
          refine wp_region_ext (by kernel_rfl) (by kernel_rfl) ?_
          repeat (go_big_quiet_step (fail))
          refine wpQuiet_nil ?_
          rintro _ ⟨⟨w1, hx1⟩, rfl⟩
          clear c0 c1 c2 c3
          go_wp2
          go_ret2
          exact ⟨by rw [HG.out, HTA.out, HTB.out, if_neg za, if_neg zb]; try rfl, (by repeat (first | (with_reducible exact Ext.refl _) | (with_reducible assumption) | with_reducible refine Ext.drew ?_ | with_reducible refine Ext.alloc ?_ _ | with_reducible refine Ext.setCell ?_ (by first | (simp; done) | (simp; omega) | omega) _ | with_reducible refine Ext.trans ?_ (by with_reducible assumption)))⟩

end Go.Proofs.Ytdbibdecnepobaa
