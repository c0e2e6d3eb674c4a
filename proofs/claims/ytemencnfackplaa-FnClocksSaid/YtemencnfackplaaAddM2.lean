/-
  Proved here: what AddMark returns.
  Conditions: no more than 1048576 marks, in a block.
-/
import Derived.Test.YtemencnfackplaaAddM
import Derived.Test.YtemencnfackplaaMark
import Derived.Deep.DeepCutAuto
import Derived.BigQuiet
namespace Go.Proofs.Ytemencnfackplaa
open Go.RowKit

/-- what is handed back: a list of marks in new memory, a bool -/
def ResMk (w : World) (L : List Mark) (B : Bool) (e : Ending) (w' : World) : Prop := ∃ bo bc, e = .returned (.tuple #[.slice bo L.length bc, .bool B]) ∧ Ext w w' ∧ FreshAt w.heap.size w' bo 2 L.length (fun k => (nth L k).c)
theorem ResMk.mk {w w' : World} {L : List Mark} {B : Bool} {e : Ending} (bo : Option Addr) (bc : Nat) (h : e = .returned (.tuple #[.slice bo L.length bc, .bool B])) (h1 : Ext w w') (h2 : FreshAt w.heap.size w' bo 2 L.length (fun k => (nth L k).c)) : ResMk w L B e w' := ⟨bo, bc, h, h1, h2⟩
theorem freshM_nil {B0 : Nat} {w : World} {s : Nat} {c : Nat → Nat → Value} : FreshAt B0 w none s 0 c := ⟨fun h => absurd h (Nat.lt_irrefl 0), fun a e => (by cases e), fun b off e => (by cases e)⟩

theorem own_lt {α : Type} {w : World} {base g n cap s : Nat} {e : TypeId} {cc : α → Nat → Value} {xs : List α} (ho : Owns w base e s cc (.slice (some ⟨g, 0, none⟩) n cap) xs) : g < w.heap.size := by
  have h0 : w.ownsRow base e s (.slice (some ⟨g, 0, none⟩) n cap) xs.length (fl s cc xs) := ho
  rcases h0.2 with ⟨e1, _⟩ | ⟨g', cap', cur, e1, h1, h2, _⟩
  · injection e1 with e1
    cases e1
  · injection e1 with e1
    injection e1 with e1
    injection e1 with e1
    subst e1
    exact (Array.getElem?_eq_some_iff.1 h2).1

theorem insert_lit {base g cap : Nat} {ms : List Mark} {s r : Int} {i : Nat} {w w0 : World} (ho : Owns w base 30 2 Mark.c (.slice (some ⟨g, 0, none⟩) ms.length cap) ms) (hb : base = w0.heap.size) (hx : Ext w0 w) (hi0 : i ≤ ms.length) (hml : ms.length ≤ 1048577) :
    Calls Try.prog 30 #[.slice (some ⟨g, 0, none⟩) ms.length cap, .int .i64 i, .slice (some ⟨w.heap.size, 0, none⟩) 1 1] (w.alloc (Obj.cells #[.int .i64 s, .int .i64 r] 30)) fun e w' => ∃ go gc, e = .returned (.slice go (insL ms i ⟨s, r⟩).length gc) ∧ Owns w' w0.heap.size 30 2 Mark.c (.slice go (insL ms i ⟨s, r⟩).length gc) (insL ms i ⟨s, r⟩) ∧ Ext w0 w' := by
  subst hb
  have hl := own_lt ho
  have A1 := ho.kept ((Ext.refl w).alloc (Obj.cells #[.int .i64 s, .int .i64 r] 30))
  have A2 := heap_alloc_new w (Obj.cells #[.int .i64 s, .int .i64 r] 30)
  have hsz := hx.size
  refine (insert_Mark (x := ⟨s, r⟩) A1 (by simp; omega) A2 (by omega) hi0 hml).mono ?_
  rintro e w' ⟨go, gc, rfl, ho2, hbw⟩
  exact ⟨go, gc, rfl, ho2, Ext.below (hx.alloc _) hbw (Nat.le_refl _)⟩

theorem grown_lit {X w : World} {H vb : Nat} {o : Obj} (hg : X.grownBy w (some H)) (hX : X.heap[vb]? = some o) (hne : H ≠ vb) : w.heap[vb]? = some o := by
  obtain ⟨_, _, _, _, h5⟩ := hg
  exact (h5 vb (Array.getElem?_eq_some_iff.1 hX).1 (fun e => hne (by injection e with e; exact e.symm))).trans hX
theorem insert_lit2 {base g cap vb : Nat} {ms : List Mark} {s r : Int} {i : Nat} {w w0 : World} (ho : Owns w base 30 2 Mark.c (.slice (some ⟨g, 0, none⟩) ms.length cap) ms) (hb : base = w0.heap.size) (hx : Ext w0 w) (hi0 : i ≤ ms.length) (hml : ms.length ≤ 1048577)
    (hvb : w.heap[vb]? = some (Obj.cells #[.int .i64 s, .int .i64 r] 30)) (hne : vb ≠ g) :
    Calls Try.prog 30 #[.slice (some ⟨g, 0, none⟩) ms.length cap, .int .i64 i, .slice (some ⟨vb, 0, none⟩) 1 1] w fun e w' => ∃ go gc, e = .returned (.slice go (insL ms i ⟨s, r⟩).length gc) ∧ Owns w' w0.heap.size 30 2 Mark.c (.slice go (insL ms i ⟨s, r⟩).length gc) (insL ms i ⟨s, r⟩) ∧ Ext w0 w' := by
  subst hb
  refine (insert_Mark (x := ⟨s, r⟩) ho hx.size hvb hne hi0 hml).mono ?_
  rintro e w' ⟨go, gc, rfl, ho2, hbw⟩
  exact ⟨go, gc, rfl, ho2, Ext.below hx hbw (Nat.le_refl _)⟩

set_option maxRecDepth 100000 in
set_option maxHeartbeats 2000000 in
theorem impl_AddMark {b off : Nat} {cap : Nat} {ms : List Mark} {s r : Int} {w : World} (h : RowAt w (some ⟨b, off, none⟩) 2 ms.length (fun k => (nth ms k).c)) (hs : ms.length ≤ 1048576) :
    Calls Try.prog 9 #[.slice (some ⟨b, off, none⟩) ms.length cap, .agg #[.int .i64 s, .int .i64 r]] w (ResMk w (adL ms ⟨s, r⟩) (adB ms ⟨s, r⟩)) := by
  obtain ⟨i0, hi, hz0, hz1, hz2⟩ := info_parts infoMark
  obtain ⟨W, hW⟩ : ∃ W, W = w.alloc (Obj.cells #[.int .i64 s, .int .i64 r] 30) := ⟨_, rfl⟩
  have hxW : Ext w W := hW ▸ (Ext.refl _).alloc _
  have hWs : W.heap.size = w.heap.size + 1 := by rw [hW]; simp
  have hWv : W.heap[w.heap.size]? = some (.cells #[.int .i64 s, .int .i64 r] 30 (0, 0)) := by rw [hW]; exact heap_alloc_new _ _
  have hW0 : W.cell? ⟨w.heap.size, 0, none⟩ = some (.int .i64 s) := by simp [World.cell?, hWv]
  have hW1 : W.cell? ⟨w.heap.size, 1, none⟩ = some (.int .i64 r) := by simp [World.cell?, hWv]
  have hrW := h.ext hxW
  have HR := Lib.hid h; clear h
  have HWV := Lib.hid hWv; clear hWv
  have HWS := Lib.hid hWs; clear hWs
  have HW := Lib.hid hW; clear hW
  cases hc : (decide (ms.length = 0) || marksB ms)
  · obtain ⟨h1, h2⟩ := Bool.or_eq_false_iff.mp hc
    have hB : adB ms ⟨s, r⟩ = false := by unfold adB; rw [hc]; rfl
    have hL : adL ms ⟨s, r⟩ = [] := by unfold adL; rw [hB]; rfl
    rw [hB, hL]; clear hB hL hc
    have hpos : decide (0 < ms.length) = true := by have := of_decide_eq_false h1; simp; omega
    have H2 := Lib.hid h2; clear h1 h2
    go_enter Try.func9, Try.ntmps9
    go_wp2_with fail
    rw [← HW.out]
    refine (impl_AreClockMarks hrW (by omega)).mono ?_; rw [H2.out]; rintro e w1 ⟨rfl, hx1⟩
    go_wp2
    go_ret2
    exact .mk none 0 rfl (by repeat (first | (with_reducible exact Ext.refl _) | (with_reducible assumption) | with_reducible refine Ext.drew ?_ | with_reducible refine Ext.alloc ?_ _ | with_reducible refine Ext.setCell ?_ (by first | (simp; done) | (simp; omega) | omega) _ | with_reducible refine Ext.trans ?_ (by with_reducible assumption))) freshM_nil
  · have HC := Lib.hid hc; clear hc
    go_enter Try.func9, Try.ntmps9
    by_cases hp : ms.length = 0
    case' pos =>
      have hpos : decide (0 < ms.length) = false := by rw [hp]; rfl
      have HP := Lib.hid hp; clear hp
      go_wp2_with fail
      rw [← HW.out]
      generalize hw1 : W = w1
      have hx1 : Ext W w1 := by rw [hw1]; exact Ext.refl _
      clear hw1
      skip
    case' neg =>
      have hpos : decide (0 < ms.length) = true := by simp; omega
      have H2 := Lib.hid (show marksB ms = true by have := HC.out; simpa [hp] using this)
      clear hp
      go_wp2_with fail
      rw [← HW.out]
      refine (impl_AreClockMarks hrW (by omega)).mono ?_; rw [H2.out]; rintro e w1 ⟨rfl, hx1⟩
      go_wp2
      skip
    all_goals
      clear hpos
      go_loopw [6] (fun i wr => ∃ k : Nat, k ≤ ms.length ∧ i = .int .i64 k ∧ Ext W wr ∧ ∀ j, j < k → (nth ms j).shown < s) (fun i _ => ms.length - (intOf i).toNat)
      case atStart => exact ⟨0, by omega, rfl, hx1, fun j hj => by omega⟩
      case round =>
        obtain ⟨k, hk, rfl, hx, hlt⟩ := hrel
        have HLT := Lib.hid hlt; clear hlt
        have f0 := hx.cells hW0
        have hcell : ∀ k, k < ms.length → ∀ j, j < 2 → wr.cell? ⟨b, off + k * 2 + j, none⟩ = some ((nth ms k).c j) := fun k hk j hj => by
          obtain ⟨b', off', e, hc⟩ := hrW (by omega)
          injection e with e
          injection e with e1 e2
          subst e1 e2
          exact hx.cells (hc k hk j hj)
        by_cases hgo : k < ms.length ∧ (nth ms k).shown < s
        · have p0 := hcell k hgo.1 0 (by decide)
          simp only [Mark.c0, Nat.add_zero] at p0
          obtain ⟨hkn, hsh⟩ := hgo
          clear hcell
          have hdec : decide (k < ms.length) = true := by simpa using hkn
          go_wp2
          go_quiet (fail)
          go_wp2
          go_roundw
          case rel => exact ⟨k + 1, by omega, by go_num, ⟨hx.os, hx.tape, hx.output, hx.size, hx.block⟩, fun j hj => by by_cases e : j = k; (subst e; exact hsh); exact HLT.out j (by omega)⟩
          case measure => simp [intOf]; omega
        · have hat : insAt ms s = k := insAt_is hk HLT.out (fun h1 h2 => hgo ⟨h1, h2⟩)
          have HAT := Lib.hid hat; clear hat
          by_cases hkn : k < ms.length
          case' pos =>
            have p0 := hcell k hkn 0 (by decide)
            simp only [Mark.c0, Nat.add_zero] at p0
            clear hcell
            have hdec : decide (k < ms.length) = true := by simpa using hkn
            have hds : decide ((nth ms k).shown < s) = false := by simpa using fun h => hgo ⟨hkn, h⟩
            go_wp2
            go_quiet (fail)
            go_wp2
          case' neg =>
            have hdec : decide (k < ms.length) = false := by simpa using hkn
            clear hcell
            go_wp2
            go_quiet (fail)
            go_wp2
          all_goals
            try clear p0
            try clear hds
            clear f0 hkn hgo hdec
            have hkl := hk
            have hml1 : ms.length ≤ 1048577 := by omega
            generalize hwy : wr.drewN nq = wy
            have hxy : Ext W wy := by rw [← hwy]; exact ⟨hx.os, hx.tape, hx.output, hx.size, hx.block⟩
            clear hwy hx HLT
            have d0 := hxy.cells hW0
            have d1 := hxy.cells hW1
            have hsz := hxy.size
            have hb1 : w.heap.size < wy.heap.size := by have := HWS.out; omega
            have hb2 : w.heap.size < wy.heap.size + 1 := by omega
            have hb3 : w.heap.size < wy.heap.size + 1 + 1 := by omega
            have OB := Lib.hid (show Owns ((wy.alloc (Obj.cells #[.int .i64 s, .int .i64 r] 30)).alloc (Obj.cells #[] 30)) W.heap.size 30 2 Mark.c (.slice (some ⟨wy.heap.size + 1, 0, none⟩) 0 0) ([] : List Mark) from by
              have := Owns.start (α := Mark) (e := 30) (s := 2) (cc := Mark.c) (hxy.alloc (Obj.cells #[.int .i64 s, .int .i64 r] 30))
              simpa using this)
            have F1 := Lib.hid (show ((wy.alloc (Obj.cells #[] 30)).alloc (Obj.cells #[.int .i64 s, .int .i64 r] 30)).drew.heap[wy.heap.size + 1]? = some (Obj.cells #[.int .i64 s, .int .i64 r] 30) from by
              have := heap_alloc_new (wy.alloc (Obj.cells #[] 30)) (Obj.cells #[.int .i64 s, .int .i64 r] 30)
              rw [show (wy.alloc (Obj.cells #[] 30)).heap.size = wy.heap.size + 1 by simp] at this
              exact this)
            have F2 := Lib.hid (show ((wy.alloc (Obj.cells #[.int .i64 s, .int .i64 r] 30)).alloc (Obj.cells #[] 30)).drew.heap[wy.heap.size]? = some (Obj.cells #[.int .i64 s, .int .i64 r] 30) from by
              have h1 := heap_alloc_new wy (Obj.cells #[.int .i64 s, .int .i64 r] 30)
              have h2 := ((Ext.refl (wy.alloc (Obj.cells #[.int .i64 s, .int .i64 r] 30))).alloc (Obj.cells #[] 30)).block wy.heap.size (by simp)
              exact h2.trans h1)
            obtain ⟨L, hL⟩ : ∃ L, L = insL ms k ⟨s, r⟩ := ⟨_, rfl⟩
            have hadd : addM ms ⟨s, r⟩ = L := by rw [hL, ← HAT.out]; rfl
            have HLL := Lib.hid (show L.length ≤ 9223372036854775807 from by rw [← hadd, addM_len]; omega)
            have HADB := Lib.hid (show adB ms ⟨s, r⟩ = marksB L from by unfold adB; rw [HC.out, hadd, Bool.true_and])
            have HADL := Lib.hid (show adL ms ⟨s, r⟩ = if marksB L then L else [] from by unfold adL; rw [HADB.out, hadd])
            have HLQ := Lib.hid hL
            have HWL := Lib.hid (show w.heap.size ≤ W.heap.size from hxW.size)
            clear hL hadd HAT hk
            have HNIL := Lib.hid (show ms = [] ++ ms from rfl)
            go_region_law (first
              | (refine step_append_form (o := ⟨some 34, _, _, _, _, _⟩) rfl _ _ 26 rfl W 30 i0 _ 2 16 Try.underlying26 hi hz0 hz1 hz2 rfl (by decide) Mark.c mk_cells _ [] ms ms HNIL rfl (by first | exact OB.out.kept (by repeat (first | (with_reducible exact Ext.refl _) | (with_reducible assumption) | with_reducible refine Ext.drew ?_ | with_reducible refine Ext.alloc ?_ _ | with_reducible refine Ext.setCell ?_ (by first | (simp; done) | (simp; omega) | omega) _ | with_reducible refine Ext.trans ?_ (by with_reducible assumption))) | exact (Owns.start (by repeat (first | (with_reducible exact Ext.refl _) | (with_reducible assumption) | with_reducible refine Ext.drew ?_ | with_reducible refine Ext.alloc ?_ _ | with_reducible refine Ext.setCell ?_ (by first | (simp; done) | (simp; omega) | omega) _ | with_reducible refine Ext.trans ?_ (by with_reducible assumption)))).kept (by repeat (first | (with_reducible exact Ext.refl _) | (with_reducible assumption) | with_reducible refine Ext.drew ?_ | with_reducible refine Ext.alloc ?_ _ | with_reducible refine Ext.setCell ?_ (by first | (simp; done) | (simp; omega) | omega) _ | with_reducible refine Ext.trans ?_ (by with_reducible assumption)))) ⟨b, off, none⟩ ms.length cap rfl rfl (hrW.ext (by repeat (first | (with_reducible exact Ext.refl _) | (with_reducible assumption) | with_reducible refine Ext.drew ?_ | with_reducible refine Ext.alloc ?_ _ | with_reducible refine Ext.setCell ?_ (by first | (simp; done) | (simp; omega) | omega) _ | with_reducible refine Ext.trans ?_ (by with_reducible assumption)))) (by simp; omega) (by simp; omega) (by repeat (first | (with_reducible exact Ext.refl _) | (with_reducible assumption) | with_reducible refine Ext.drew ?_ | with_reducible refine Ext.alloc ?_ _ | with_reducible refine Ext.setCell ?_ (by first | (simp; done) | (simp; omega) | omega) _ | with_reducible refine Ext.trans ?_ (by with_reducible assumption))) ?_; intro go1 gc1 w3 ho1 hx3 hg3 hv3; have hb4 : w.heap.size < w3.heap.size := Nat.lt_of_lt_of_le (Nat.lt_of_lt_of_eq (Nat.lt_succ_self _) HWS.out.symm) hx3.size; obtain ⟨g, rfl, hg⟩ := own_at ho1 hv3; have b0 := hx3.cells hW0; have b1 := hx3.cells hW1; (first | (have hg4 : World.grownBy _ w3 (some wy.heap.size) := hg3; have hvb := (by with_reducible exact grown_lit hg4 F1.out (by simp)); have hgn : wy.heap.size + 1 ≠ g := (by rcases hg with e | e <;> rw [e] <;> simp); clear hg4) | (have hg4 : World.grownBy _ w3 (some (wy.heap.size + 1)) := hg3; have hvb := (by with_reducible exact grown_lit hg4 F2.out (by simp)); have hgn : wy.heap.size ≠ g := (by rcases hg with e | e <;> rw [e] <;> simp <;> omega); clear hg4) | skip); clear hg hv3 hg3)
              | (go_simp; go_at_call 30; with_reducible refine Calls.mono (insert_lit (s := s) (r := r) (i := k) (w0 := W) ho1 rfl hx3 hkl hml1) ?_; rintro e w4 ⟨go2, gc2, rfl, ho2, hx4⟩; clear ho1)
              | (go_simp; go_at_call 30; with_reducible refine Calls.mono (insert_lit2 (s := s) (r := r) (i := k) (w0 := W) ho1 rfl hx3 hkl hml1 hvb hgn) ?_; rintro e w4 ⟨go2, gc2, rfl, ho2, hx4⟩; clear ho1))
            all_goals
              rw [← HLQ.out] at ho2 ⊢
              obtain ⟨a2, cp2, e2, hf2, _, _, _⟩ := ho2.fresh
              injection e2 with e2 _ e3
              subst e2 e3
              clear ho2
              have HX4 := Lib.hid (hxW.trans hx4)
              cases ht : marksB L
              all_goals
                have HT := Lib.hid ht; clear ht
                go_wp2_with fail
                refine (impl_AreClockMarks hf2.row HLL.out).mono ?_; rw [HT.out]; rintro e w5 ⟨rfl, hx5⟩
                go_wp2
                go_ret2
                rw [HADL.out, HADB.out, HT.out]
              · exact .mk none 0 rfl (HX4.out.trans hx5) freshM_nil
              · exact .mk _ _ rfl (HX4.out.trans hx5) ((hf2.ext hx5).mono HWL.out)
end Go.Proofs.Ytemencnfackplaa
