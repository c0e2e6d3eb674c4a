/-
  Proved here: what the reference of IsHeat returns.
  Conditions: the lengths fit an int; no slice is longer than its capacity.
-/
import Derived.Test.YtdbibdecnepobaaHeat1
namespace Go.Proofs.Ytdbibdecnepobaa
open Go.RowKit

def okHeatS (h : HeatD) (k : Nat) : Bool := inB (nth h.rs k) 1 999 && !hasI h.rs k (nth h.rs k) && inB (nth h.ts k) 0 36000 && !(decide (0 < nth h.ts k) && hasI h.ts k (nth h.ts k))
theorem heatB_spec (h : HeatD) : heatB h = (inB h.rs.length 2 6 && decide (h.ts.length = h.rs.length) && upto (okHeatS h) h.rs.length) := by
  rw [Bool.eq_iff_iff]
  simp only [heatB, headH, onceU, okHeatAt, okHeatS, Bool.and_eq_true, upto_true]
  constructor
  · rintro ⟨⟨⟨a, b⟩, c⟩, d⟩
    exact ⟨⟨a, b⟩, fun k hk => ⟨⟨⟨(d k hk).1.1, c k hk⟩, (d k hk).1.2⟩, (d k hk).2⟩⟩
  · rintro ⟨⟨a, b⟩, c⟩
    exact ⟨⟨⟨a, b⟩, fun k hk => (c k hk).1.1.2⟩, fun k hk => ⟨⟨(c k hk).1.1.1, (c k hk).1.2⟩, (c k hk).2⟩⟩

set_option maxHeartbeats 1500000 in
theorem spec_l18One {h : HeatD} {ao bo : Option Addr} {ac bc : Nat} {w : World} (hr : RowAt w ao 1 h.rs.length (ic h.rs)) (ht : RowAt w bo 1 h.ts.length (ic h.ts))
    (n1 : h.rs.length ≤ 9223372036854775807) (n2 : h.ts.length ≤ 9223372036854775807) (c1 : h.rs.length ≤ ac) (c2 : h.ts.length ≤ bc) :
    Calls Try.prog 28 #[h.val ao ac bo bc] w fun e w' => e = .returned (.bool (heatB h)) ∧ Ext w w' := by
  unfold HeatD.val
  have hw0 : Ext w (w.alloc (Obj.cells #[.slice ao h.rs.length ac, .slice bo h.ts.length bc] 27)) := (Ext.refl _).alloc _
  by_cases hh : (inB h.rs.length 2 6 && decide (h.ts.length = h.rs.length)) = true
  · have hfin : heatB h = upto (okHeatS h) h.rs.length := by rw [heatB_spec, hh]; rfl
    have HF := Lib.hid hfin; clear hfin
    simp only [Bool.and_eq_true, decide_eq_true_eq] at hh
    obtain ⟨h1, h2⟩ := hh
    have hlen := inB_iff.1 h1
    have hne : ((h.ts.length : Int) != (h.rs.length : Int)) = false := by simp [h2]
    have H2 := Lib.hid h2; clear h2
    obtain ⟨nt, hnt⟩ : ∃ nt, nt = h.ts.length := ⟨_, rfl⟩
    have hntr : nt = h.rs.length := by rw [hnt, H2.out]
    rw [← hnt] at hne ht n2 c2 hw0 ⊢
    subst hntr
    clear hnt H2
    go_enter Try.func28, Try.ntmps28
    go_wp2_with (go_at_call 35; refine (spec_l1In).mono ?_; rintro e w1 ⟨rfl, rfl⟩)
    go_loopw [3] (fun i wr => ∃ k : Nat, k ≤ h.rs.length ∧ i = .int .i64 k ∧ Ext (w.alloc (Obj.cells #[.slice ao h.rs.length ac, .slice bo h.rs.length bc] 27)) wr ∧ upto (okHeatS h) k = true) (fun i _ => h.rs.length - (intOf i).toNat)
    case atStart => exact ⟨0, Nat.zero_le _, rfl, Ext.refl _, rfl⟩
    case round =>
      obtain ⟨k, hk, rfl, hx, hu⟩ := hrel
      have HU := Lib.hid hu; clear hu
      have f0 : wr.cell? ⟨w.heap.size, 0, none⟩ = some (.slice ao h.rs.length ac) := hx.cells (by go_simp)
      have f1 : wr.cell? ⟨w.heap.size, 1, none⟩ = some (.slice bo h.rs.length bc) := hx.cells (by go_simp)
      have hsz : w.heap.size < wr.heap.size := Nat.lt_of_lt_of_le (by simp) hx.size
      by_cases hlt : k < h.rs.length
      · have hprer := fun x (hX : Ext wr x) => spec_l1Has (w := x) (v := nth h.rs k) (cap := ac) (((hr.ext (hw0.trans hx)).ext hX).take hk) (by omega)
        have hpret := fun x (hX : Ext wr x) => spec_l1Has (w := x) (v := nth h.ts k) (cap := bc) (((ht.ext (hw0.trans hx)).ext hX).take hk) (by omega)
        obtain ⟨b, off, rfl, hcell⟩ := intsN hr (by omega)
        obtain ⟨b', off', rfl, hcell'⟩ := intsN ht (by omega)
        have g0 := Grow.cells (w0 := wr) f0
        have g1 := Grow.cells (w0 := wr) f1
        have g2 := Grow.cells (hx.cells (hw0.cells (hcell k hlt)))
        have g3 := Grow.cells (hx.cells (hw0.cells (hcell' k hlt)))
        have hkc : k ≤ bc := by omega
        have hkc' : k ≤ ac := by omega
        clear hcell hcell' hr ht
        obtain ⟨a, ha⟩ : ∃ a, a = inB (nth h.rs k) 1 999 := ⟨_, rfl⟩
        obtain ⟨c, hc⟩ : ∃ c, c = inB (nth h.ts k) 0 36000 := ⟨_, rfl⟩
        obtain ⟨b1, hb⟩ : ∃ b1, b1 = hasI h.rs k (nth h.rs k) := ⟨_, rfl⟩
        obtain ⟨e1, he⟩ : ∃ e1, e1 = hasI h.ts k (nth h.ts k) := ⟨_, rfl⟩
        have hok : okHeatS h k = (a && !b1 && c && !(decide (0 < nth h.ts k) && e1)) := by simp [okHeatS, ha, hb, hc, he]
        have hA := fun x => spec_l1In (w := x) (x := nth h.rs k) (a := 1) (b := 999)
        have hC := fun x => spec_l12Time (w := x) (x := nth h.ts k)
        rw [← ha] at hA
        rw [← hb] at hprer
        rw [← he] at hpret
        rw [← hc] at hC
        have HOK := Lib.hid hok
        clear ha hb hc he hok
        obtain ⟨d, hd⟩ : ∃ d, d = decide (0 < nth h.ts k) := ⟨_, rfl⟩
        have hcase : a = false ∨ (a = true ∧ b1 = true) ∨ (a = true ∧ b1 = false ∧ c = false) ∨ (a = true ∧ b1 = false ∧ c = true ∧ d = false) ∨ (a = true ∧ b1 = false ∧ c = true ∧ d = true ∧ e1 = false) ∨ (a = true ∧ b1 = false ∧ c = true ∧ d = true ∧ e1 = true) := by
          cases a <;> cases b1 <;> cases c <;> cases d <;> cases e1 <;> simp
        rcases hcase with rfl | ⟨rfl, rfl⟩ | ⟨rfl, rfl, rfl⟩ | ⟨rfl, rfl, rfl, rfl⟩ | ⟨rfl, rfl, rfl, rfl, rfl⟩ | ⟨rfl, rfl, rfl, rfl, rfl⟩
        all_goals
          have hd' := hd.symm; clear hd
          go_wp2
          refine wp_region_ext (by kernel_rfl) (by kernel_rfl) ?_
          repeat (go_big_quiet_step ((first | (go_at_call 35; with_reducible exact Calls.ext_of_same (hA _)) | (go_at_call 41; with_reducible exact Calls.ext_of_same (hC _)) | (go_at_call 36; with_reducible exact Calls.ext_of (hprer _ (Grow.h _))) | (go_at_call 36; with_reducible exact Calls.ext_of (hpret _ (Grow.h _))))))
          refine wpQuiet_nil ?_
          rintro _ ⟨⟨w1, hx1⟩, rfl⟩
          go_wp2
          first
            | (go_ret; exact ⟨ret_b (by rw [HF.out, upto_false hlt (by rw [HOK.out]; simp [hd'])]), (by repeat (first | (with_reducible exact Ext.refl _) | (with_reducible assumption) | with_reducible refine Ext.drew ?_ | with_reducible refine Ext.alloc ?_ _ | with_reducible refine Ext.setCell ?_ (by first | (simp; done) | (simp; omega) | omega) _ | with_reducible refine Ext.trans ?_ (by with_reducible assumption)))⟩)
            | (go_roundw
               case rel => exact ⟨k + 1, by omega, by go_num, (by repeat (first | (with_reducible exact Ext.refl _) | (with_reducible assumption) | with_reducible refine Ext.drew ?_ | with_reducible refine Ext.alloc ?_ _ | with_reducible refine Ext.setCell ?_ (by first | (simp; done) | (simp; omega) | omega) _ | with_reducible refine Ext.trans ?_ (by with_reducible assumption))), upto_succ HU.out (by rw [HOK.out]; simp [hd'])⟩
               case measure => simp [intOf]; omega)
      · have hkn : k = h.rs.length := by omega
        have HK := Lib.hid hkn; clear hkn
        go_wp2
        go_ret
        exact ⟨ret_b (by rw [HF.out, ← HK.out, HU.out]), (by repeat (first | (with_reducible exact Ext.refl _) | (with_reducible assumption) | with_reducible refine Ext.drew ?_ | with_reducible refine Ext.alloc ?_ _ | with_reducible refine Ext.setCell ?_ (by first | (simp; done) | (simp; omega) | omega) _ | with_reducible refine Ext.trans ?_ (by with_reducible assumption)))⟩
  · have hfin : heatB h = false := by rw [heatB_spec]; simp only [Bool.not_eq_true] at hh; rw [hh]; rfl
    have HF := Lib.hid hfin; clear hfin
    cases h1 : inB h.rs.length 2 6
    · go_enter Try.func28, Try.ntmps28
      go_wp2_with (go_at_call 35; refine spec_l1In.mono ?_; rintro e w1 ⟨rfl, rfl⟩; rw [h1])
      go_ret
      exact ⟨ret_b HF.out.symm, (by repeat (first | (with_reducible exact Ext.refl _) | (with_reducible assumption) | with_reducible refine Ext.drew ?_ | with_reducible refine Ext.alloc ?_ _ | with_reducible refine Ext.setCell ?_ (by first | (simp; done) | (simp; omega) | omega) _ | with_reducible refine Ext.trans ?_ (by with_reducible assumption)))⟩
    · have hne : ((h.ts.length : Int) != (h.rs.length : Int)) = true := by
        simp only [h1, Bool.true_and, decide_eq_true_eq] at hh
        simp; omega
      go_enter Try.func28, Try.ntmps28
      go_wp2_with (go_at_call 35; refine spec_l1In.mono ?_; rintro e w1 ⟨rfl, rfl⟩; rw [h1])
      go_ret
      exact ⟨ret_b HF.out.symm, (by repeat (first | (with_reducible exact Ext.refl _) | (with_reducible assumption) | with_reducible refine Ext.drew ?_ | with_reducible refine Ext.alloc ?_ _ | with_reducible refine Ext.setCell ?_ (by first | (simp; done) | (simp; omega) | omega) _ | with_reducible refine Ext.trans ?_ (by with_reducible assumption)))⟩

end Go.Proofs.Ytdbibdecnepobaa
