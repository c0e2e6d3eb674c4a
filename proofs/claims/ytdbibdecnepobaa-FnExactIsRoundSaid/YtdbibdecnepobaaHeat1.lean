/-
  Proved here: what IsHeat and its reference return.
  Conditions: the lengths fit an int; no slice is longer than its capacity.
-/
import Derived.Test.YtdbibdecnepobaaTHeat
import Derived.Test.YtdbibdecnepobaaSearch
namespace Go.Proofs.Ytdbibdecnepobaa
open Go.RowKit

def okHeatAt (h : HeatD) (k : Nat) : Bool := inB (nth h.rs k) 1 999 && inB (nth h.ts k) 0 36000 && !(decide (0 < nth h.ts k) && hasI h.ts k (nth h.ts k))
def headH (h : HeatD) : Bool := inB h.rs.length 2 6 && decide (h.ts.length = h.rs.length) && onceU h.rs h.rs.length
def heatB (h : HeatD) : Bool := headH h && upto (okHeatAt h) h.rs.length

set_option maxHeartbeats 2000000 in
theorem impl_IsHeat {h : HeatD} {ao bo : Option Addr} {ac bc : Nat} {w : World} (hr : RowAt w ao 1 h.rs.length (ic h.rs)) (ht : RowAt w bo 1 h.ts.length (ic h.ts))
    (n1 : h.rs.length ≤ 9223372036854775807) (n2 : h.ts.length ≤ 9223372036854775807) (c1 : h.rs.length ≤ ac) (c2 : h.ts.length ≤ bc) :
    Calls Try.prog 10 #[h.val ao ac bo bc] w fun e w' => e = .returned (.bool (heatB h)) ∧ Ext w w' := by
  unfold HeatD.val
  have hw0 : Ext w (w.alloc (Obj.cells #[.slice ao h.rs.length ac, .slice bo h.ts.length bc] 27)) := (Ext.refl _).alloc _
  by_cases hh : headH h = true
  · have hfin : heatB h = upto (okHeatAt h) h.rs.length := by simp [heatB, hh]
    have HF := Lib.hid hfin; clear hfin
    simp only [headH, Bool.and_eq_true, decide_eq_true_eq] at hh
    obtain ⟨⟨h1, h2⟩, h3⟩ := hh
    have hlen := inB_iff.1 h1
    have hne : ((h.ts.length : Int) != (h.rs.length : Int)) = false := by simp [h2]
    have H2 := Lib.hid h2; clear h2
    obtain ⟨nt, hnt⟩ : ∃ nt, nt = h.ts.length := ⟨_, rfl⟩
    have hntr : nt = h.rs.length := by rw [hnt, H2.out]
    rw [← hnt] at hne ht n2 c2 hw0 ⊢
    subst hntr
    clear hnt H2
    go_enter Try.func10, Try.ntmps10
    go_wp2_with (first | (go_at_call 29; refine (impl_inside).mono ?_; rintro e w1 ⟨rfl, rfl⟩) | (go_at_call 30; refine (impl_hasTwice (hr.ext hw0) n1 c1).mono ?_; rw [h3]; rintro e w1 ⟨rfl, hx1⟩; have hc1 := Ext.cellr hx1))
    go_loopw [27] (fun i wr => ∃ k : Nat, k ≤ h.rs.length ∧ i = .int .i64 k ∧ Ext (w.alloc (Obj.cells #[.slice ao h.rs.length ac, .slice bo h.rs.length bc] 27)) wr ∧ upto (okHeatAt h) k = true) (fun i _ => h.rs.length - (intOf i).toNat)
    case atStart => exact ⟨0, Nat.zero_le _, rfl, hx1, rfl⟩
    case round =>
      clear hc1 hx1
      obtain ⟨k, hk, rfl, hx, hu⟩ := hrel
      have HU := Lib.hid hu; clear hu
      have f0 : wr.cell? ⟨w.heap.size, 0, none⟩ = some (.slice ao h.rs.length ac) := hx.cells (by go_simp)
      have f1 : wr.cell? ⟨w.heap.size, 1, none⟩ = some (.slice bo h.rs.length bc) := hx.cells (by go_simp)
      by_cases hlt : k < h.rs.length
      · have hpre := (ht.ext (hw0.trans hx)).take hk
        obtain ⟨b, off, rfl, hcell⟩ := intsN hr (by omega)
        obtain ⟨b', off', rfl, hcell'⟩ := intsN ht (by omega)
        have d0 := hx.cells (hw0.cells (hcell k hlt))
        have d1 := hx.cells (hw0.cells (hcell' k hlt))
        have hkc : k ≤ bc := by omega
        clear hcell hcell' hr ht
        go_wp2_with (first | (go_at_call 31; refine (impl_isRunnerNumber).mono ?_; rintro e w1 ⟨rfl, rfl⟩) | (go_at_call 32; refine (impl_isTime).mono ?_; rintro e w1 ⟨rfl, rfl⟩) | (go_at_call 33; refine (slices_Contains hpre (by omega)).mono ?_; rintro e w1 ⟨rfl, hx1⟩))
        all_goals first
          | (go_ret; exact ⟨ret_b (by rw [HF.out, upto_false hlt (by simp [okHeatAt, *])]), (by repeat (first | (with_reducible exact Ext.refl _) | (with_reducible assumption) | with_reducible refine Ext.drew ?_ | with_reducible refine Ext.alloc ?_ _ | with_reducible refine Ext.setCell ?_ (by first | (simp; done) | (simp; omega) | omega) _ | with_reducible refine Ext.trans ?_ (by with_reducible assumption)))⟩)
          | (go_roundw
             case rel => exact ⟨k + 1, by omega, by go_num, (by repeat (first | (with_reducible exact Ext.refl _) | (with_reducible assumption) | with_reducible refine Ext.drew ?_ | with_reducible refine Ext.alloc ?_ _ | with_reducible refine Ext.setCell ?_ (by first | (simp; done) | (simp; omega) | omega) _ | with_reducible refine Ext.trans ?_ (by with_reducible assumption))), upto_succ HU.out (by first | (simp [okHeatAt, *]; done) | (simp [okHeatAt, *]; omega))⟩
             case measure => simp [intOf]; omega)
      · have hkn : k = h.rs.length := by omega
        have HK := Lib.hid hkn; clear hkn
        go_wp2
        go_ret
        exact ⟨ret_b (by rw [HF.out, ← HK.out, HU.out]), (by repeat (first | (with_reducible exact Ext.refl _) | (with_reducible assumption) | with_reducible refine Ext.drew ?_ | with_reducible refine Ext.alloc ?_ _ | with_reducible refine Ext.setCell ?_ (by first | (simp; done) | (simp; omega) | omega) _ | with_reducible refine Ext.trans ?_ (by with_reducible assumption)))⟩
  · have hfin : heatB h = false := by simp [heatB, hh]
    have HF := Lib.hid hfin; clear hfin
    have hh' : headH h = false := by simpa using hh
    have HH := Lib.hid hh'; clear hh' hh
    cases h3 : onceU h.rs h.rs.length
    all_goals
      go_enter Try.func10, Try.ntmps10
      go_wp2_with (first | (go_at_call 29; refine (impl_inside).mono ?_; rintro e w1 ⟨rfl, rfl⟩) | (go_at_call 30; refine (impl_hasTwice (hr.ext hw0) n1 c1).mono ?_; rw [h3]; rintro e w1 ⟨rfl, hx1⟩; have hc1 := Ext.cellr hx1))
      all_goals first
        | (go_ret; exact ⟨ret_b HF.out.symm, (by repeat (first | (with_reducible exact Ext.refl _) | (with_reducible assumption) | with_reducible refine Ext.drew ?_ | with_reducible refine Ext.alloc ?_ _ | with_reducible refine Ext.setCell ?_ (by first | (simp; done) | (simp; omega) | omega) _ | with_reducible refine Ext.trans ?_ (by with_reducible assumption)))⟩)
        | (exfalso; have hq := HH.out; simp [headH, *] at hq; done)
        | (exfalso; have hq := HH.out; simp [headH, *] at hq; omega)

end Go.Proofs.Ytdbibdecnepobaa
