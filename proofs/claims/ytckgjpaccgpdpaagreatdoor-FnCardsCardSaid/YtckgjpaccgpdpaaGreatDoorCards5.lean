/-
  Proved here: what FoundAt, MissingCodes and their references return.
  Conditions: the lengths fit.
-/
import Derived.Test.YtckgjpaccgpdpaaGreatDoorCards4
namespace Go.Proofs.YtckgjpaccgpdpaaGreatDoor
open Go.RowKit

def askB (c : CardD) (cs : List Int) : Bool := cardB c && codesB cs
def foL (c : CardD) (cs : List Int) : List Int := if askB c cs then fL c cs cs.length else []
theorem ask_bd {c : CardD} {cs : List Int} (h : askB c cs = true) : c.ps.length ≤ 12 ∧ cs.length ≤ 12 := by
  simp only [askB, cardB, headB, codesB, Bool.and_eq_true, decide_eq_true_eq] at h
  exact ⟨h.1.1.2, h.2.1⟩
theorem foL_len (c : CardD) (cs : List Int) : (foL c cs).length ≤ 12 := by
  unfold foL
  split
  · rename_i h; rw [fL_len]; exact (ask_bd h).2
  · simp

set_option maxHeartbeats 1000000 in
theorem impl_FoundAt {c : CardD} {b0 off0 cap : Nat} {cs : List Int} {bo : Option Addr} {bcap : Nat} {w : World} (h : RowAt w (some ⟨b0, off0, none⟩) 2 c.ps.length (fun k => (nth c.ps k).c)) (hn : c.ps.length ≤ cap ∧ cap ≤ 9223372036854775807)
    (h' : RowAt w bo 1 cs.length (ic cs)) (hcs : cs.length ≤ 1048576) :
    Calls Tryz.prog 6 #[c.val (some ⟨b0, off0, none⟩) cap, .slice bo cs.length bcap] w fun e w' => ∃ go gc, e = .returned (.tuple #[.slice go (foL c cs).length gc, .bool (askB c cs)]) ∧ Ext w w' ∧ FreshAt w.heap.size w' go 1 (foL c cs).length (ic (foL c cs)) := by
  have H := fun x hx => impl_IsCard (w := x) (ao := some ⟨b0, off0, none⟩) (cap := cap) (h.ext hx) (by omega)
  have HC := fun x hx => impl_areCodes (w := x) (ao := bo) (cap := bcap) (h'.ext hx) (by omega)
  have hx0 : Ext w (w.alloc (Obj.cells #[.int .i64 c.number, .int .i64 c.start, .int .i64 c.finish, .slice (some ⟨b0, off0, none⟩) c.ps.length cap] 26)) := (Ext.refl _).alloc _
  by_cases hb : cardB c = true
  · rw [hb] at H
    by_cases hc : codesB cs = true
    · rw [hc] at HC
      have hB : askB c cs = true := by simp [askB, hb, hc]
      have hL : foL c cs = fL c cs cs.length := by simp [foL, hB]
      have hbd := ask_bd hB
      rw [hL, hB]
      have HF := fun x hx => impl_foundAt (w := x) (cap := cap) (bo := bo) (bcap := bcap) (cs := cs) (h.ext hx) hbd.1 hn (h'.ext hx) hbd.2
      clear hL hB hb hc hbd
      unfold CardD.val at H HF ⊢
      go_enter Tryz.func6, Tryz.ntmps6
      go_wp2_with fail
      refine (H _ (by repeat (first | (with_reducible exact Ext.refl _) | (with_reducible assumption) | with_reducible refine Ext.drew ?_ | with_reducible refine Ext.alloc ?_ _ | with_reducible refine Ext.setCell ?_ (by first | (simp; done) | (simp; omega) | omega) _ | with_reducible refine Ext.trans ?_ (by with_reducible assumption)))).mono ?_; rintro e w1 ⟨rfl, hx1⟩
      have hc := hx1.cellr
      go_wp2_with fail
      refine (HC _ (by repeat (first | (with_reducible exact Ext.refl _) | (with_reducible assumption) | with_reducible refine Ext.drew ?_ | with_reducible refine Ext.alloc ?_ _ | with_reducible refine Ext.setCell ?_ (by first | (simp; done) | (simp; omega) | omega) _ | with_reducible refine Ext.trans ?_ (by with_reducible assumption)))).mono ?_; rintro e w2 ⟨rfl, hx2⟩
      have hx3 := hx1.trans hx2
      clear hc hx1; have hc := hx3.cellr
      go_wp2_with fail
      refine (HF _ (by repeat (first | (with_reducible exact Ext.refl _) | (with_reducible assumption) | with_reducible refine Ext.drew ?_ | with_reducible refine Ext.alloc ?_ _ | with_reducible refine Ext.setCell ?_ (by first | (simp; done) | (simp; omega) | omega) _ | with_reducible refine Ext.trans ?_ (by with_reducible assumption)))).mono ?_; rintro e w3 ⟨go, gc, rfl, hx4, hF⟩
      clear hc
      go_wp2
      go_ret2
      exact ⟨go, gc, rfl, (by repeat (first | (with_reducible exact Ext.refl _) | (with_reducible assumption) | with_reducible refine Ext.drew ?_ | with_reducible refine Ext.alloc ?_ _ | with_reducible refine Ext.setCell ?_ (by first | (simp; done) | (simp; omega) | omega) _ | with_reducible refine Ext.trans ?_ (by with_reducible assumption))), hF.mono (Nat.le_trans hx0.size hx3.size)⟩
    · have hc' : codesB cs = false := by simpa using hc
      rw [hc'] at HC
      have hB : askB c cs = false := by simp [askB, hb, hc']
      have hL : foL c cs = [] := by simp [foL, hB]
      rw [hL, hB]
      clear hL hB hb hc hc'
      unfold CardD.val at H ⊢
      go_enter Tryz.func6, Tryz.ntmps6
      go_wp2_with fail
      refine (H _ (by repeat (first | (with_reducible exact Ext.refl _) | (with_reducible assumption) | with_reducible refine Ext.drew ?_ | with_reducible refine Ext.alloc ?_ _ | with_reducible refine Ext.setCell ?_ (by first | (simp; done) | (simp; omega) | omega) _ | with_reducible refine Ext.trans ?_ (by with_reducible assumption)))).mono ?_; rintro e w1 ⟨rfl, hx1⟩
      have hc := hx1.cellr
      go_wp2_with fail
      refine (HC _ (by repeat (first | (with_reducible exact Ext.refl _) | (with_reducible assumption) | with_reducible refine Ext.drew ?_ | with_reducible refine Ext.alloc ?_ _ | with_reducible refine Ext.setCell ?_ (by first | (simp; done) | (simp; omega) | omega) _ | with_reducible refine Ext.trans ?_ (by with_reducible assumption)))).mono ?_; rintro e w2 ⟨rfl, hx2⟩
      clear hc
      go_wp2
      go_ret2
      exact ⟨none, 0, rfl, (by repeat (first | (with_reducible exact Ext.refl _) | (with_reducible assumption) | with_reducible refine Ext.drew ?_ | with_reducible refine Ext.alloc ?_ _ | with_reducible refine Ext.setCell ?_ (by first | (simp; done) | (simp; omega) | omega) _ | with_reducible refine Ext.trans ?_ (by with_reducible assumption))), ⟨fun hn => by simp at hn, fun a e => (by cases e), fun b off e => (by cases e)⟩⟩
  · have hb' : cardB c = false := by simpa using hb
    rw [hb'] at H
    have hB : askB c cs = false := by simp [askB, hb']
    have hL : foL c cs = [] := by simp [foL, hB]
    rw [hL, hB]
    clear hL hB hb hb'
    unfold CardD.val at H ⊢
    go_enter Tryz.func6, Tryz.ntmps6
    go_wp2_with fail
    refine (H _ (by repeat (first | (with_reducible exact Ext.refl _) | (with_reducible assumption) | with_reducible refine Ext.drew ?_ | with_reducible refine Ext.alloc ?_ _ | with_reducible refine Ext.setCell ?_ (by first | (simp; done) | (simp; omega) | omega) _ | with_reducible refine Ext.trans ?_ (by with_reducible assumption)))).mono ?_; rintro e w1 ⟨rfl, hx1⟩
    go_wp2
    go_ret2
    exact ⟨none, 0, rfl, (by repeat (first | (with_reducible exact Ext.refl _) | (with_reducible assumption) | with_reducible refine Ext.drew ?_ | with_reducible refine Ext.alloc ?_ _ | with_reducible refine Ext.setCell ?_ (by first | (simp; done) | (simp; omega) | omega) _ | with_reducible refine Ext.trans ?_ (by with_reducible assumption))), ⟨fun hn => by simp at hn, fun a e => (by cases e), fun b off e => (by cases e)⟩⟩

theorem spec_l12Asked {c : CardD} {ao : Option Addr} {cap : Nat} {cs : List Int} {bo : Option Addr} {bcap : Nat} {w : World} (h : RowAt w ao 2 c.ps.length (fun k => (nth c.ps k).c)) (hn : c.ps.length ≤ 9223372036854775807)
    (h' : RowAt w bo 1 cs.length (ic cs)) (hcs : cs.length ≤ 1048576) :
    Calls Tryz.prog 29 #[c.val ao cap, .slice bo cs.length bcap] w fun e w' => e = .returned (.bool (askB c cs)) ∧ Ext w w' := by
  have H := fun x hx => spec_l12Card (w := x) (ao := ao) (cap := cap) (h.ext hx) hn
  have HC := fun x hx => spec_l12Codes (w := x) (ao := bo) (cap := bcap) (h'.ext hx) (by omega)
  unfold askB
  cases hb : cardB c
  · rw [hb] at H
    unfold CardD.val at H ⊢
    go_enter Tryz.func29, Tryz.ntmps29
    go_wp2_with fail
    refine (H _ (by repeat (first | (with_reducible exact Ext.refl _) | (with_reducible assumption) | with_reducible refine Ext.drew ?_ | with_reducible refine Ext.alloc ?_ _ | with_reducible refine Ext.setCell ?_ (by first | (simp; done) | (simp; omega) | omega) _ | with_reducible refine Ext.trans ?_ (by with_reducible assumption)))).mono ?_; rintro e w1 ⟨rfl, hx1⟩
    go_wp2
    go_ret
    exact ⟨rfl, (by repeat (first | (with_reducible exact Ext.refl _) | (with_reducible assumption) | with_reducible refine Ext.drew ?_ | with_reducible refine Ext.alloc ?_ _ | with_reducible refine Ext.setCell ?_ (by first | (simp; done) | (simp; omega) | omega) _ | with_reducible refine Ext.trans ?_ (by with_reducible assumption)))⟩
  · rw [hb] at H
    clear hb
    unfold CardD.val at H ⊢
    go_enter Tryz.func29, Tryz.ntmps29
    go_wp2_with fail
    refine (H _ (by repeat (first | (with_reducible exact Ext.refl _) | (with_reducible assumption) | with_reducible refine Ext.drew ?_ | with_reducible refine Ext.alloc ?_ _ | with_reducible refine Ext.setCell ?_ (by first | (simp; done) | (simp; omega) | omega) _ | with_reducible refine Ext.trans ?_ (by with_reducible assumption)))).mono ?_; rintro e w1 ⟨rfl, hx1⟩
    have hc := hx1.cellr
    go_wp2_with fail
    refine (HC _ (by repeat (first | (with_reducible exact Ext.refl _) | (with_reducible assumption) | with_reducible refine Ext.drew ?_ | with_reducible refine Ext.alloc ?_ _ | with_reducible refine Ext.setCell ?_ (by first | (simp; done) | (simp; omega) | omega) _ | with_reducible refine Ext.trans ?_ (by with_reducible assumption)))).mono ?_; rintro e w2 ⟨rfl, hx2⟩
    clear hc
    go_wp2
    go_ret
    exact ⟨by simp, (by repeat (first | (with_reducible exact Ext.refl _) | (with_reducible assumption) | with_reducible refine Ext.drew ?_ | with_reducible refine Ext.alloc ?_ _ | with_reducible refine Ext.setCell ?_ (by first | (simp; done) | (simp; omega) | omega) _ | with_reducible refine Ext.trans ?_ (by with_reducible assumption)))⟩

set_option maxHeartbeats 1000000 in
theorem spec_FoundAt {c : CardD} {b0 off0 cap : Nat} {cs : List Int} {bo : Option Addr} {bcap : Nat} {w : World} (h : RowAt w (some ⟨b0, off0, none⟩) 2 c.ps.length (fun k => (nth c.ps k).c)) (hn : c.ps.length ≤ cap ∧ cap ≤ 9223372036854775807)
    (h' : RowAt w bo 1 cs.length (ic cs)) (hcs : cs.length ≤ 1048576) :
    Calls Tryz.prog 7 #[c.val (some ⟨b0, off0, none⟩) cap, .slice bo cs.length bcap] w fun e w' => ∃ go gc, e = .returned (.tuple #[.slice go (foL c cs).length gc, .bool (askB c cs)]) ∧ Ext w w' ∧ FreshAt w.heap.size w' go 1 (foL c cs).length (ic (foL c cs)) := by
  have H := fun x hx => spec_l12Asked (w := x) (ao := some ⟨b0, off0, none⟩) (cap := cap) (bo := bo) (bcap := bcap) (cs := cs) (h.ext hx) (by omega) (h'.ext hx) hcs
  have hx0 : Ext w (w.alloc (Obj.cells #[.int .i64 c.number, .int .i64 c.start, .int .i64 c.finish, .slice (some ⟨b0, off0, none⟩) c.ps.length cap] 26)) := (Ext.refl _).alloc _
  by_cases hB : askB c cs = true
  · have hL : foL c cs = fL c cs cs.length := by simp [foL, hB]
    have hbd := ask_bd hB
    rw [hL, hB]
    rw [hB] at H
    have HF := fun x hx => spec_l12Found (w := x) (cap := cap) (bo := bo) (bcap := bcap) (cs := cs) (h.ext hx) hbd.1 hn (h'.ext hx) hbd.2
    clear hL hB hbd
    unfold CardD.val at H HF ⊢
    go_enter Tryz.func7, Tryz.ntmps7
    go_wp2_with fail
    refine (H _ (by repeat (first | (with_reducible exact Ext.refl _) | (with_reducible assumption) | with_reducible refine Ext.drew ?_ | with_reducible refine Ext.alloc ?_ _ | with_reducible refine Ext.setCell ?_ (by first | (simp; done) | (simp; omega) | omega) _ | with_reducible refine Ext.trans ?_ (by with_reducible assumption)))).mono ?_; rintro e w1 ⟨rfl, hx1⟩
    have hc := hx1.cellr
    go_wp2_with fail
    refine (HF _ (by repeat (first | (with_reducible exact Ext.refl _) | (with_reducible assumption) | with_reducible refine Ext.drew ?_ | with_reducible refine Ext.alloc ?_ _ | with_reducible refine Ext.setCell ?_ (by first | (simp; done) | (simp; omega) | omega) _ | with_reducible refine Ext.trans ?_ (by with_reducible assumption)))).mono ?_; rintro e w3 ⟨go, gc, rfl, hx4, hF⟩
    clear hc
    go_wp2
    go_ret2
    exact ⟨go, gc, rfl, (by repeat (first | (with_reducible exact Ext.refl _) | (with_reducible assumption) | with_reducible refine Ext.drew ?_ | with_reducible refine Ext.alloc ?_ _ | with_reducible refine Ext.setCell ?_ (by first | (simp; done) | (simp; omega) | omega) _ | with_reducible refine Ext.trans ?_ (by with_reducible assumption))), hF.mono (Nat.le_trans hx0.size hx1.size)⟩
  · have hB' : askB c cs = false := by simpa using hB
    have hL : foL c cs = [] := by simp [foL, hB']
    rw [hL, hB']
    rw [hB'] at H
    clear hL hB hB'
    unfold CardD.val at H ⊢
    go_enter Tryz.func7, Tryz.ntmps7
    go_wp2_with fail
    refine (H _ (by repeat (first | (with_reducible exact Ext.refl _) | (with_reducible assumption) | with_reducible refine Ext.drew ?_ | with_reducible refine Ext.alloc ?_ _ | with_reducible refine Ext.setCell ?_ (by first | (simp; done) | (simp; omega) | omega) _ | with_reducible refine Ext.trans ?_ (by with_reducible assumption)))).mono ?_; rintro e w1 ⟨rfl, hx1⟩
    go_wp2
    go_ret2
    exact ⟨_, _, rfl, (by repeat (first | (with_reducible exact Ext.refl _) | (with_reducible assumption) | with_reducible refine Ext.drew ?_ | with_reducible refine Ext.alloc ?_ _ | with_reducible refine Ext.setCell ?_ (by first | (simp; done) | (simp; omega) | omega) _ | with_reducible refine Ext.trans ?_ (by with_reducible assumption))), (Owns.start (α := Int) (e := 3) (s := 1) (cc := icc) hx1).fresh0.mono (by first | exact Nat.le_refl _ | (simp; done) | exact hx0.size)⟩

end Go.Proofs.YtckgjpaccgpdpaaGreatDoor
