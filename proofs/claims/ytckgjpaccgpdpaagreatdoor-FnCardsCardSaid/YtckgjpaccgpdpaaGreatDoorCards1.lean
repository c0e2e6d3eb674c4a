/-
  Proved here: what IsCard and its reference return.
  Conditions: the number of punches fits an int.
-/
import Derived.Test.YtckgjpaccgpdpaaGreatDoorTCard
namespace Go.Proofs.YtckgjpaccgpdpaaGreatDoor
open Go.RowKit

/-- the time before punch k -/
def lastT (c : CardD) (k : Nat) : Int := if k = 0 then c.start else (nth c.ps (k - 1)).time
theorem lastT_succ (c : CardD) (k : Nat) : lastT c (k + 1) = (nth c.ps k).time := by simp [lastT]
def okPunch (c : CardD) (k : Nat) : Bool :=
  inB (nth c.ps k).code 31 99 && inB (nth c.ps k).time 0 36000 && !decide ((nth c.ps k).time < lastT c k) && !(c.finish != -1 && decide (c.finish < (nth c.ps k).time))
def headB (c : CardD) : Bool := inB c.number 1 9999 && inB c.start 0 36000 && !(c.finish != -1 && !inB c.finish c.start 36000) && decide (c.ps.length ≤ 12)
def cardB (c : CardD) : Bool := headB c && upto (okPunch c) c.ps.length

theorem lastT_nonneg {c : CardD} {k : Nat} (h : inB c.start 0 36000 = true) (hu : upto (okPunch c) k = true) : 0 ≤ lastT c k := by
  cases k with
  | zero => rw [inB_iff] at h; simpa [lastT] using h.1
  | succ k =>
    have h1 := upto_true.1 hu k (by omega)
    simp only [okPunch, Bool.and_eq_true, inB_iff] at h1
    rw [lastT_succ]
    exact h1.1.1.2.1
theorem okPunch_spec {c : CardD} {k : Nat} (h : 0 ≤ lastT c k) :
    okPunch c k = (inB (nth c.ps k).code 31 99 && inB (nth c.ps k).time (lastT c k) 36000 && !(c.finish != -1 && decide (c.finish < (nth c.ps k).time))) := by
  have e : (inB (nth c.ps k).time 0 36000 && !decide ((nth c.ps k).time < lastT c k)) = inB (nth c.ps k).time (lastT c k) 36000 := by
    rw [Bool.eq_iff_iff]; simp [inB_iff]; omega
  unfold okPunch
  rw [← e]
  simp only [Bool.and_assoc]

set_option maxHeartbeats 1000000 in
theorem impl_IsCard {c : CardD} {ao : Option Addr} {cap : Nat} {w : World} (h : RowAt w ao 2 c.ps.length (fun k => (nth c.ps k).c)) (hn : c.ps.length ≤ 9223372036854775807) :
    Calls Tryz.prog 9 #[c.val ao cap] w fun e w' => e = .returned (.bool (cardB c)) ∧ Ext w w' := by
  unfold CardD.val
  by_cases hh : headB c = true
  · have hfin : cardB c = upto (okPunch c) c.ps.length := by simp [cardB, hh]
    have HF := Lib.hid hfin; clear hfin
    simp only [headB, Bool.and_eq_true, decide_eq_true_eq] at hh
    obtain ⟨⟨⟨hh1, hh2⟩, hh3⟩, hh4⟩ := hh
    obtain ⟨n, hN⟩ : ∃ n, n = c.ps.length := ⟨_, rfl⟩
    rw [← hN] at hn h hh4 HF ⊢
    clear hN
    have hd : decide ((12 : Int) < (n : Int)) = false := by simp; omega
    have hff : (c.finish != -1) = false ∨ ((c.finish != -1) = true ∧ inB c.finish c.start 36000 = true) := by
      by_cases hf : c.finish = -1
      · exact .inl (by simp [hf])
      · exact .inr ⟨by simpa using hf, by simpa [hf] using hh3⟩
    clear hh3
    have hx00 : Ext w (w.alloc (Obj.cells #[.int .i64 c.number, .int .i64 c.start, .int .i64 c.finish, .slice ao n cap] 26)) := (Ext.refl _).alloc _
    rcases hff with hf' | ⟨hf', hf''⟩
    all_goals
      go_enter Tryz.func9, Tryz.ntmps9
      go_wp2_with (first | (go_at_call 31; refine (impl_inside).mono ?_; rintro e w1 ⟨rfl, rfl⟩) | (go_at_call 32; refine (impl_isTime).mono ?_; rintro e w1 ⟨rfl, rfl⟩))
      go_loopw [3, 40] (fun t i wr => ∃ k : Nat, k ≤ n ∧ i = .int .i64 k ∧ t = .int .i64 (lastT c k) ∧ Ext (w.alloc (Obj.cells #[.int .i64 c.number, .int .i64 c.start, .int .i64 c.finish, .slice ao n cap] 26)) wr ∧ upto (okPunch c) k = true) (fun _ i _ => n - (intOf i).toNat)
      case atStart => exact ⟨0, Nat.zero_le _, rfl, rfl, Ext.refl _, rfl⟩
      case round =>
        obtain ⟨k, hk, rfl, rfl, hx, hu⟩ := hrel
        have HU := Lib.hid hu; clear hu
        have hsz : w.heap.size < wr.heap.size := Nat.lt_of_lt_of_le (by simp) hx.size
        have f1 : wr.cell? ⟨w.heap.size, 1, none⟩ = some (.int .i64 c.start) := hx.cells (by go_simp)
        have f2 : wr.cell? ⟨w.heap.size, 2, none⟩ = some (.int .i64 c.finish) := hx.cells (by go_simp)
        have f3 : wr.cell? ⟨w.heap.size, 3, none⟩ = some (.slice ao n cap) := hx.cells (by go_simp)
        by_cases hlt : k < n
        · obtain ⟨b, off, rfl, hcell⟩ := h (by omega)
          have d0 : wr.cell? ⟨b, off + k * 2, none⟩ = some (.int .i64 (nth c.ps k).code) := hx.cells (hx00.cells (hcell k hlt 0 (by decide)))
          have d1 : wr.cell? ⟨b, off + k * 2 + 1, none⟩ = some (.int .i64 (nth c.ps k).time) := hx.cells (hx00.cells (hcell k hlt 1 (by decide)))
          clear hcell
          go_wp2_with (first | (go_at_call 33; refine (impl_isCode).mono ?_; rintro e w1 ⟨rfl, rfl⟩) | (go_at_call 32; refine (impl_isTime).mono ?_; rintro e w1 ⟨rfl, rfl⟩))
          all_goals first
            | (go_ret; exact ⟨ret_b (by rw [HF.out, upto_false hlt (by first | (simp [okPunch, *]; done) | (simp [okPunch, *]; omega))]), (by repeat (first | (with_reducible exact Ext.refl _) | (with_reducible assumption) | with_reducible refine Ext.drew ?_ | with_reducible refine Ext.alloc ?_ _ | with_reducible refine Ext.setCell ?_ (by first | (simp; done) | (simp; omega) | omega) _ | with_reducible refine Ext.trans ?_ (by with_reducible assumption)))⟩)
            | (go_roundw
               case rel => exact ⟨k + 1, by omega, by go_num, by rw [lastT_succ], (by repeat (first | (with_reducible exact Ext.refl _) | (with_reducible assumption) | with_reducible refine Ext.drew ?_ | with_reducible refine Ext.alloc ?_ _ | with_reducible refine Ext.setCell ?_ (by first | (simp; done) | (simp; omega) | omega) _ | with_reducible refine Ext.trans ?_ (by with_reducible assumption))), upto_succ HU.out (by first | (simp [okPunch, *]; done) | (simp [okPunch, *]; omega))⟩
               case measure => simp [intOf]; omega)
        · have hkn : k = n := by omega
          subst hkn
          go_wp2
          go_ret
          exact ⟨ret_b (by rw [HF.out, HU.out]), (by repeat (first | (with_reducible exact Ext.refl _) | (with_reducible assumption) | with_reducible refine Ext.drew ?_ | with_reducible refine Ext.alloc ?_ _ | with_reducible refine Ext.setCell ?_ (by first | (simp; done) | (simp; omega) | omega) _ | with_reducible refine Ext.trans ?_ (by with_reducible assumption)))⟩
  · go_enter Tryz.func9, Tryz.ntmps9
    go_wp2_with (first | (go_at_call 31; refine (impl_inside).mono ?_; rintro e w1 ⟨rfl, rfl⟩) | (go_at_call 32; refine (impl_isTime).mono ?_; rintro e w1 ⟨rfl, rfl⟩))
    all_goals first
      | (go_ret; exact ⟨ret_b (by simp [cardB, hh]), (by repeat (first | (with_reducible exact Ext.refl _) | (with_reducible assumption) | with_reducible refine Ext.drew ?_ | with_reducible refine Ext.alloc ?_ _ | with_reducible refine Ext.setCell ?_ (by first | (simp; done) | (simp; omega) | omega) _ | with_reducible refine Ext.trans ?_ (by with_reducible assumption)))⟩)
      | (exfalso; apply hh; simp [headB, *]; done)
      | (exfalso; apply hh; simp [headB, *]; omega)

set_option maxHeartbeats 1000000 in
theorem spec_l12Card {c : CardD} {ao : Option Addr} {cap : Nat} {w : World} (h : RowAt w ao 2 c.ps.length (fun k => (nth c.ps k).c)) (hn : c.ps.length ≤ 9223372036854775807) :
    Calls Tryz.prog 34 #[c.val ao cap] w fun e w' => e = .returned (.bool (cardB c)) ∧ Ext w w' := by
  unfold CardD.val
  by_cases hh : headB c = true
  · have hfin : cardB c = upto (okPunch c) c.ps.length := by simp [cardB, hh]
    have HF := Lib.hid hfin; clear hfin
    simp only [headB, Bool.and_eq_true, decide_eq_true_eq] at hh
    obtain ⟨⟨⟨hh1, hh2⟩, hh3⟩, hh4⟩ := hh
    obtain ⟨n, hN⟩ : ∃ n, n = c.ps.length := ⟨_, rfl⟩
    rw [← hN] at hn h hh4 HF ⊢
    clear hN
    have hd : decide ((12 : Int) < (n : Int)) = false := by simp; omega
    have hff : (c.finish != -1) = false ∨ ((c.finish != -1) = true ∧ inB c.finish c.start 36000 = true) := by
      by_cases hf : c.finish = -1
      · exact .inl (by simp [hf])
      · exact .inr ⟨by simpa using hf, by simpa [hf] using hh3⟩
    clear hh3
    have hx00 : Ext w (w.alloc (Obj.cells #[.int .i64 c.number, .int .i64 c.start, .int .i64 c.finish, .slice ao n cap] 26)) := (Ext.refl _).alloc _
    rcases hff with hf' | ⟨hf', hf''⟩
    all_goals
      go_enter Tryz.func34, Tryz.ntmps34
      go_wp2_with (first | (go_at_call 56; refine (spec_l1In).mono ?_; rintro e w1 ⟨rfl, rfl⟩) | (go_at_call 57; refine (spec_l12Time).mono ?_; rintro e w1 ⟨rfl, rfl⟩))
      go_loopw [3, 4] (fun t i wr => ∃ k : Nat, k ≤ n ∧ i = .int .i64 k ∧ t = .int .i64 (lastT c k) ∧ Ext (w.alloc (Obj.cells #[.int .i64 c.number, .int .i64 c.start, .int .i64 c.finish, .slice ao n cap] 26)) wr ∧ upto (okPunch c) k = true) (fun _ i _ => n - (intOf i).toNat)
      case atStart => exact ⟨0, Nat.zero_le _, rfl, rfl, Ext.refl _, rfl⟩
      case round =>
        obtain ⟨k, hk, rfl, rfl, hx, hu⟩ := hrel
        have hk0 := lastT_nonneg hh2 hu
        have HU := Lib.hid hu; clear hu
        have hsz : w.heap.size < wr.heap.size := Nat.lt_of_lt_of_le (by simp) hx.size
        have f1 : wr.cell? ⟨w.heap.size, 1, none⟩ = some (.int .i64 c.start) := hx.cells (by go_simp)
        have f2 : wr.cell? ⟨w.heap.size, 2, none⟩ = some (.int .i64 c.finish) := hx.cells (by go_simp)
        have f3 : wr.cell? ⟨w.heap.size, 3, none⟩ = some (.slice ao n cap) := hx.cells (by go_simp)
        by_cases hlt : k < n
        · obtain ⟨b, off, rfl, hcell⟩ := h (by omega)
          have d0 : wr.cell? ⟨b, off + k * 2, none⟩ = some (.int .i64 (nth c.ps k).code) := hx.cells (hx00.cells (hcell k hlt 0 (by decide)))
          have d1 : wr.cell? ⟨b, off + k * 2 + 1, none⟩ = some (.int .i64 (nth c.ps k).time) := hx.cells (hx00.cells (hcell k hlt 1 (by decide)))
          clear hcell
          go_wp2_with (first | (go_at_call 58; refine (spec_l6Code).mono ?_; rintro e w1 ⟨rfl, rfl⟩) | (go_at_call 56; refine (spec_l1In).mono ?_; rintro e w1 ⟨rfl, rfl⟩))
          all_goals first
            | (go_ret; exact ⟨ret_b (by rw [HF.out, upto_false hlt (by rw [okPunch_spec hk0]; first | (simp [*]; done) | (simp [*]; omega))]), (by repeat (first | (with_reducible exact Ext.refl _) | (with_reducible assumption) | with_reducible refine Ext.drew ?_ | with_reducible refine Ext.alloc ?_ _ | with_reducible refine Ext.setCell ?_ (by first | (simp; done) | (simp; omega) | omega) _ | with_reducible refine Ext.trans ?_ (by with_reducible assumption)))⟩)
            | (go_roundw
               case rel => exact ⟨k + 1, by omega, by go_num, by rw [lastT_succ], (by repeat (first | (with_reducible exact Ext.refl _) | (with_reducible assumption) | with_reducible refine Ext.drew ?_ | with_reducible refine Ext.alloc ?_ _ | with_reducible refine Ext.setCell ?_ (by first | (simp; done) | (simp; omega) | omega) _ | with_reducible refine Ext.trans ?_ (by with_reducible assumption))), upto_succ HU.out (by rw [okPunch_spec hk0]; first | (simp [*]; done) | (simp [*]; omega))⟩
               case measure => simp [intOf]; omega)
        · have hkn : k = n := by omega
          subst hkn
          go_wp2
          go_ret
          exact ⟨ret_b (by rw [HF.out, HU.out]), (by repeat (first | (with_reducible exact Ext.refl _) | (with_reducible assumption) | with_reducible refine Ext.drew ?_ | with_reducible refine Ext.alloc ?_ _ | with_reducible refine Ext.setCell ?_ (by first | (simp; done) | (simp; omega) | omega) _ | with_reducible refine Ext.trans ?_ (by with_reducible assumption)))⟩
  · go_enter Tryz.func34, Tryz.ntmps34
    go_wp2_with (first | (go_at_call 56; refine (spec_l1In).mono ?_; rintro e w1 ⟨rfl, rfl⟩) | (go_at_call 57; refine (spec_l12Time).mono ?_; rintro e w1 ⟨rfl, rfl⟩))
    all_goals first
      | (go_ret; exact ⟨ret_b (by simp [cardB, hh]), (by repeat (first | (with_reducible exact Ext.refl _) | (with_reducible assumption) | with_reducible refine Ext.drew ?_ | with_reducible refine Ext.alloc ?_ _ | with_reducible refine Ext.setCell ?_ (by first | (simp; done) | (simp; omega) | omega) _ | with_reducible refine Ext.trans ?_ (by with_reducible assumption)))⟩)
      | (exfalso; apply hh; simp [headB, *]; done)
      | (exfalso; apply hh; simp [headB, *]; omega)

theorem spec_IsCard {c : CardD} {ao : Option Addr} {cap : Nat} {w : World} (h : RowAt w ao 2 c.ps.length (fun k => (nth c.ps k).c)) (hn : c.ps.length ≤ 9223372036854775807) :
    Calls Tryz.prog 10 #[c.val ao cap] w fun e w' => e = .returned (.bool (cardB c)) ∧ Ext w w' := by
  have H := fun x hx => spec_l12Card (w := x) (ao := ao) (cap := cap) (h.ext hx) hn
  unfold CardD.val at H ⊢
  go_enter Tryz.func10, Tryz.ntmps10
  go_wp2_with fail
  refine (H _ (by repeat (first | (with_reducible exact Ext.refl _) | (with_reducible assumption) | with_reducible refine Ext.drew ?_ | with_reducible refine Ext.alloc ?_ _ | with_reducible refine Ext.setCell ?_ (by first | (simp; done) | (simp; omega) | omega) _ | with_reducible refine Ext.trans ?_ (by with_reducible assumption)))).mono ?_; rintro e w1 ⟨rfl, hx1⟩
  go_wp2
  go_ret
  exact ⟨rfl, (by repeat (first | (with_reducible exact Ext.refl _) | (with_reducible assumption) | with_reducible refine Ext.drew ?_ | with_reducible refine Ext.alloc ?_ _ | with_reducible refine Ext.setCell ?_ (by first | (simp; done) | (simp; omega) | omega) _ | with_reducible refine Ext.trans ?_ (by with_reducible assumption)))⟩

end Go.Proofs.YtckgjpaccgpdpaaGreatDoor
