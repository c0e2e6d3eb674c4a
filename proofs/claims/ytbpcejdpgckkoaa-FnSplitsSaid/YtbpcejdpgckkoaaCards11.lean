/-
  Proved here: what the reference of MostFound returns.
  Conditions: the lengths fit.
-/
import Derived.Test.YtbpcejdpgckkoaaCards10
namespace Go.Proofs.Ytbpcejdpgckkoaa
open Go.RowKit

/-- A row that is being filled from its end: f q .. f n are there. -/
structure Part (wo wi : World) (g n q : Nat) (f : Nat → Nat) : Prop where
  ext : Ext wo wi
  lo : wo.heap.size ≤ g
  hi : g < wi.heap.size
  cell : ∀ t, t ≤ n → ∃ u, wi.cell? ⟨g, t, none⟩ = some u
  free : ∀ t, wi.frozen? ⟨g, t, none⟩ = false
  done : ∀ t, q ≤ t → t ≤ n → wi.cell? ⟨g, t, none⟩ = some (.int .i64 (f t))
theorem Part.grow {wo wi w' : World} {g n q : Nat} {f : Nat → Nat} (h : Part wo wi g n q f) (hx : Ext wi w') : Part wo w' g n q f :=
  ⟨h.ext.trans hx, h.lo, Nat.lt_of_lt_of_le h.hi hx.size, fun t ht => let ⟨u, hu⟩ := h.cell t ht; ⟨u, hx.cells hu⟩, fun t => (hx.frozenr _ _ h.hi).trans (h.free t), fun t h1 h2 => hx.cells (h.done t h1 h2)⟩
theorem Part.put {wo wi : World} {g n q : Nat} {f : Nat → Nat} {v : Value} (h : Part wo wi g n (q + 1) f) (hq : q ≤ n) : Part wo (wi.setCell ⟨g, q, none⟩ v) g n (q + 1) f := by
  obtain ⟨u0, hu0⟩ := h.cell q hq
  refine ⟨h.ext.setCell h.lo _, h.lo, by simpa [World.setCell] using h.hi, fun t ht => ?_, fun t => by rw [World.frozen?_setCell]; exact h.free t, fun t h1 h2 => ?_⟩
  · by_cases e : t = q
    · subst e; exact ⟨v, World.cell?_setCell_same _ _ _ hu0⟩
    · obtain ⟨u, hu⟩ := h.cell t ht
      exact ⟨u, (World.cell?_setCell_other _ _ _ _ (fun e' => by injection e' with _ e'; omega)).trans hu⟩
  · exact (World.cell?_setCell_other _ _ _ _ (fun e' => by injection e' with _ e'; omega)).trans (h.done t h1 h2)
theorem Part.fin {wo wi : World} {g n q : Nat} {f : Nat → Nat} (h : Part wo wi g n (q + 1) f) (hq : q ≤ n) : Part wo (wi.setCell ⟨g, q, none⟩ (.int .i64 (f q))) g n q f := by
  have h2 := h.put (v := .int .i64 (f q)) hq
  obtain ⟨u0, hu0⟩ := h.cell q hq
  refine ⟨h2.ext, h2.lo, h2.hi, h2.cell, h2.free, fun t h1 h3 => ?_⟩
  by_cases e : t = q
  · subst e; exact World.cell?_setCell_same _ _ _ hu0
  · exact h2.done t (by omega) h3
theorem Part.row {wo wi : World} {g n : Nat} {f : Nat → Nat} (h : Part wo wi g n 0 f) : MRow wi (.slice (some ⟨g, 0, none⟩) (n + 1) (n + 1)) (n + 1) f :=
  ⟨_, _, rfl, fun _ => ⟨g, 0, rfl, fun k hk j hj => by
    obtain rfl : j = 0 := by omega
    have := h.done k (by omega) (by omega)
    simpa using this⟩⟩
theorem Part.start {wo wi : World} {n g : Nat} {e : TypeId} {f : Nat → Nat} (h : wi.ownsRow wo.heap.size e 1 (.slice (some ⟨g, 0, none⟩) (n + 1) (n + 1)) (n + 1) (madeCells #[Value.int .i64 0] ((n + 1) * 1)).toList) (hf : f n = 0) (hx : Ext wo wi) : Part wo wi g n n f := by
  have hl := h.lt g rfl
  have hc : ∀ t, t ≤ n → wi.cell? ⟨g, t, none⟩ = some (.int .i64 0) := fun t ht => by
    have := h.cellAt t (by omega)
    rwa [made_get _ (by omega)] at this
  exact ⟨hx, hl.1, hl.2, fun t ht => ⟨_, hc t ht⟩, fun t => h.frozenAt t, fun t h1 h2 => by obtain rfl : t = n := (by omega); rw [hc t h2, hf]; rfl⟩

theorem most_still {a b : Int} {w : World} :
    Calls Try.prog 51 #[.int .i64 a, .int .i64 b] w fun e w' => e = .returned (.int .i64 (if b < a then a else b)) ∧ w' = w := by
  by_cases h : b < a
  · rw [if_pos h]
    go_enter Try.func51, Try.ntmps51
    go_wp2
    go_ret
    exact ⟨rfl, rfl⟩
  · rw [if_neg h]
    go_enter Try.func51, Try.ntmps51
    go_wp2
    go_ret
    exact ⟨rfl, rfl⟩

set_option maxRecDepth 100000 in
set_option maxHeartbeats 4000000 in
theorem spec_MostFound {c : CardD} {b0 off0 cap : Nat} {cs : List Int} {bo : Option Addr} {bcap : Nat} {w : World} (h : RowAt w (some ⟨b0, off0, none⟩) 2 c.ps.length (fun k => (nth c.ps k).c)) (hn : c.ps.length ≤ cap ∧ cap ≤ 9223372036854775807)
    (h' : RowAt w bo 1 cs.length (ic cs)) (hcs : cs.length ≤ 1048576) :
    Calls Try.prog 22 #[c.val (some ⟨b0, off0, none⟩) cap, .slice bo cs.length bcap] w fun e w' => e = .returned (gMost c cs) ∧ Ext w w' := by
  obtain ⟨i0, hi, hz0, hz1, hz2⟩ := info_parts infoInt
  have H := fun x hx => spec_l12Asked (w := x) (ao := some ⟨b0, off0, none⟩) (cap := cap) (bo := bo) (bcap := bcap) (cs := cs) (h.ext hx) (by omega) (h'.ext hx) hcs
  cases hA : askB c cs
  · have hfin : gMost c cs = .tuple #[.int .i64 0, .bool false] := by simp [gMost, hA]
    rw [hfin]
    rw [hA] at H
    clear hfin hA
    unfold CardD.val at H ⊢
    go_enter Try.func22, Try.ntmps22
    go_wp2_with fail
    refine (H _ (by repeat (first | (with_reducible exact Ext.refl _) | (with_reducible assumption) | with_reducible refine Ext.drew ?_ | with_reducible refine Ext.alloc ?_ _ | with_reducible refine Ext.setCell ?_ (by first | (simp; done) | (simp; omega) | omega) _ | with_reducible refine Ext.trans ?_ (by with_reducible assumption)))).mono ?_; rintro e w1 ⟨rfl, hx1⟩
    go_wp2
    go_ret2
    exact ⟨rfl, (by repeat (first | (with_reducible exact Ext.refl _) | (with_reducible assumption) | with_reducible refine Ext.drew ?_ | with_reducible refine Ext.alloc ?_ _ | with_reducible refine Ext.setCell ?_ (by first | (simp; done) | (simp; omega) | omega) _ | with_reducible refine Ext.trans ?_ (by with_reducible assumption)))⟩
  · have hfin : gMost c cs = .tuple #[.int .i64 (lcsB cs (pco c) 0 0), .bool true] := by simp [gMost, hA]
    have hbd := ask_bd hA
    rw [hfin]
    rw [hA] at H
    clear hfin hA
    unfold CardD.val at H ⊢
    go_enter Try.func22, Try.ntmps22
    go_wp2_with fail
    refine (H _ (by repeat (first | (with_reducible exact Ext.refl _) | (with_reducible assumption) | with_reducible refine Ext.drew ?_ | with_reducible refine Ext.alloc ?_ _ | with_reducible refine Ext.setCell ?_ (by first | (simp; done) | (simp; omega) | omega) _ | with_reducible refine Ext.trans ?_ (by with_reducible assumption)))).mono ?_; rintro e wb ⟨rfl, hx1⟩
    obtain ⟨q0, q1, q2, q3⟩ := Box4.of hx1
    have zq : w.heap.size < wb.heap.size := World.block_lt_of_cell? _ _ q0
    have hx0 : Ext w wb := (by repeat (first | (with_reducible exact Ext.refl _) | (with_reducible assumption) | with_reducible refine Ext.drew ?_ | with_reducible refine Ext.alloc ?_ _ | with_reducible refine Ext.setCell ?_ (by first | (simp; done) | (simp; omega) | omega) _ | with_reducible refine Ext.trans ?_ (by with_reducible assumption)))
    have hrow := h.ext hx0
    have hcod := h'.ext hx0
    clear hx1 H h h' q0 q1 q2
    go_wp2_with (refine wpList_make_full _ rfl _ _ _ rfl wb.heap.size 3 i0 _ 1 Try.underlying25 hi hz0 hz1 .i64 .i64 _ _ (c.ps.length + 1) rfl rfl (by omega) (by omega) (by rw [hz2]; omega) (by unfold maxLen; omega) (Nat.le_refl _) ?_; intro w3 hown hgrow)
    have hx3 : Ext wb w3 := Below.grown (Below.refl _ _) hgrow (Nat.le_refl _) (fun k hk => by cases hk)
    have hr0 : MRow w3 (.slice (some ⟨wb.heap.size, 0, none⟩) (c.ps.length + 1) (c.ps.length + 1)) (c.ps.length + 1) (lcsB cs (pco c) cs.length) := MRow.zero hown (fun j _ => lcsB_end _ _ _) (Ext.refl _)
    clear hown hgrow
    go_wp2
    go_loopw [6, 7] (fun row i wr => ∃ k : Nat, k ≤ cs.length ∧ i = .int .i64 ((k : Int) - 1) ∧ Ext wb wr ∧ MRow wr row (c.ps.length + 1) (lcsB cs (pco c) k)) (fun _ i _ => (intOf i + 1).toNat)
    case atStart => exact ⟨cs.length, by omega, rfl, hx3, hr0⟩
    case round =>
      clear hx3 hr0
      obtain ⟨k, hk, rfl, hx, hrw⟩ := hrel
      have g3 := hx.cells q3
      have gl := World.block_lt_of_cell? _ _ g3
      obtain ⟨rb, ro, rc, rfl, hrc⟩ := hrw.at (by omega)
      cases k with
      | succ m =>
        rw [show (((m + 1 : Nat) : Int) - 1) = (m : Int) by omega]
        obtain ⟨b, off, rfl, hcell⟩ := ints_at' hcod (by omega)
        have d0 := hx.cells (hcell m (by omega))
        have hrow2 := hrow.ext hx
        have hml : m < cs.length := by omega
        clear hcell
        obtain ⟨wo, rfl⟩ : ∃ wo : World, wo = wr := ⟨_, rfl⟩
        go_wp2_with (refine wpList_make_full _ rfl _ _ _ rfl wo.heap.size 3 i0 _ 1 Try.underlying25 hi hz0 hz1 .i64 .i64 _ _ (c.ps.length + 1) rfl rfl (by omega) (by omega) (by rw [hz2]; omega) (by unfold maxLen; omega) (Nat.le_refl _) ?_; intro w4 hown hgrow; have hx4 : Ext wo w4 := Below.grown (Below.refl _ _) hgrow (Nat.le_refl _) (fun k hk => by cases hk); have g34 := hx4.cells g3; have gl4 := World.block_lt_of_cell? _ _ g34)
        have hst := Part.start (f := lcsB cs (pco c) m) hown (by rw [← pco_len c]; exact lcsB_end' _ _ _) hx4
        clear hown hgrow hx4
        go_wp2
        go_loopw [9] (fun j wi => ∃ q : Nat, q ≤ c.ps.length ∧ j = .int .i64 ((q : Int) - 1) ∧ Part wo wi wo.heap.size c.ps.length q (lcsB cs (pco c) m)) (fun j _ => (intOf j + 1).toNat)
        case atStart => exact ⟨c.ps.length, by omega, rfl, hst⟩
        case round =>
          clear hst g34 gl4
          obtain ⟨q, hq, rfl, hP⟩ := hrel
          cases q with
          | succ q =>
            rw [show (((q + 1 : Nat) : Int) - 1) = (q : Int) by omega]
            have hX := hP.ext
            have hqn : q < c.ps.length := by omega
            obtain ⟨b1, off1, hb1, hpc⟩ := hrow2 (by omega)
            injection hb1 with hb1
            injection hb1 with e1 e2
            subst e1 e2
            have p0 : wr.cell? ⟨b0, off0 + q * 2, none⟩ = some (.int .i64 (nth c.ps q).code) := hX.cells (hpc q hqn 0 (by decide))
            have hstep := lcsB_step (cs := cs) (ps := pco c) hml (by rw [pco_len]; exact hqn)
            rw [pco_nth hqn] at hstep
            have hle1 := lcsB_le cs (pco c) (m + 1) q
            have hle2 := lcsB_le cs (pco c) m (q + 1)
            have hle3 := lcsB_le cs (pco c) (m + 1) (q + 1)
            have r1 := hX.cells (hrc q (by omega))
            have r2 := hX.cells (hrc (q + 1) (by omega))
            have n1 := hP.done (q + 1) (by omega) (by omega)
            obtain ⟨u0, n0⟩ := hP.cell q (by omega)
            have f0 := hP.free q
            have hwlt := hP.hi
            have hq0 : (0 : Int) ≤ (q : Int) := by omega
            have hq1 : (q : Int) < (c.ps.length : Int) := by omega
            have hm0 : (0 : Int) ≤ (m : Int) := by omega
            have hm1 : (m : Int) < (cs.length : Int) := by omega
            by_cases hAB : (lcsB cs (pco c) m (q + 1) : Int) < (lcsB cs (pco c) (m + 1) q : Int)
            · by_cases hcd : (nth c.ps q).code = nth cs m
              · have hcd' : ((nth c.ps q).code == nth cs m) = true := by simpa using hcd
                by_cases hMD : (lcsB cs (pco c) (m + 1) (q + 1) : Int) + 1 < (lcsB cs (pco c) (m + 1) q : Int)
                · skip
                  have hM : (lcsB cs (pco c) m q : Int) = (lcsB cs (pco c) (m + 1) q : Int) := by
                    rw [if_pos hcd] at hstep
                    omega
                  have HM := Lib.hid hM; clear hM hstep hcd
                  go_wp2
                  have hqa : (q : Int) < (c.ps.length : Int) + 1 := by omega
                  have hqb : (q : Int) + 1 < (c.ps.length : Int) + 1 := by omega
                  have hqc : (0 : Int) ≤ (q : Int) + 1 := by omega
                  have hqw : IntKind.i64.wrap ((q : Int) + 1) = (q : Int) + 1 := IntWalk.i64_in _ (by omega)
                  have hqt : ((q : Int) + 1).toNat = q + 1 := by omega
                  go_still_tail 13, (by kernel_rfl)
                  still_call most_still
                  repeat still_step
                  refine wpStill_nil ?_
                  try rw [if_pos (by omega)]
                  clear hqa hqb hqc hqw hqt
                  change wpList _ _ _ _ _ wr.drew
                  go_wp2
                  have P2 : Part wo ((wr.setCell ⟨wo.heap.size, q, none⟩ (.int .i64 ((lcsB cs (pco c) (m + 1) q : Int)))).drew) wo.heap.size c.ps.length (q + 1) (lcsB cs (pco c) m) := (hP.put (by omega)).grow (Ext.refl _).drew
                  have hX2 := P2.ext
                  have e3 := Grow.cells (hX2.cells g3)
                  have e0 := Grow.cells (hX2.cells (show wo.cell? ⟨b0, off0 + q * 2, none⟩ = some (.int .i64 (nth c.ps q).code) from hpc q hqn 0 (by decide)))
                  have e1 := Grow.cells (hX2.cells d0)
                  refine wp_region_ext (by kernel_rfl) (by kernel_rfl) ?_
                  repeat (go_big_quiet_step (fail))
                  refine wpQuiet_nil ?_
                  rintro _ ⟨⟨w1, hx1⟩, rfl⟩
                  clear e3 e0 e1
                  rename_i w2
                  have P3 := P2.grow hx1
                  have m0 : w2.cell? ⟨wo.heap.size, q, none⟩ = some (.int .i64 ((lcsB cs (pco c) (m + 1) q : Int))) := hx1.cells ((Ext.refl _).drew.cells (World.cell?_setCell_same _ _ _ n0))
                  have m1 := (hX2.trans hx1).cells (hrc (q + 1) (by omega))
                  have mf := P3.free q
                  have ml := P3.hi
                  go_wp2
                  have hqa : (q : Int) < (c.ps.length : Int) + 1 := by omega
                  have hqb : (q : Int) + 1 < (c.ps.length : Int) + 1 := by omega
                  have hqc : (0 : Int) ≤ (q : Int) + 1 := by omega
                  have hqw : IntKind.i64.wrap ((q : Int) + 1) = (q : Int) + 1 := IntWalk.i64_in _ (by omega)
                  have hqt : ((q : Int) + 1).toNat = q + 1 := by omega
                  go_still_tail 14, (by kernel_rfl)
                  still_call most_still
                  repeat still_step
                  refine wpStill_nil ?_
                  try rw [if_pos (by omega)]
                  clear hqa hqb hqc hqw hqt
                  change wpList _ _ _ _ _ w2.drew
                  have P4 : Part wo ((w2.setCell ⟨wo.heap.size, q, none⟩ (.int .i64 ((lcsB cs (pco c) (m + 1) q : Int)))).drew) wo.heap.size c.ps.length q (lcsB cs (pco c) m) := by
                    have := (P3.fin (by omega)).grow (Ext.refl _).drew
                    rw [HM.out] at this
                    exact this
                  go_wp2
                  go_roundw
                  case rel => exact ⟨q, by omega, rfl, P4⟩
                  case measure => simp [intOf] <;> omega
                · skip
                  have hM : (lcsB cs (pco c) m q : Int) = (lcsB cs (pco c) (m + 1) (q + 1) : Int) + 1 := by
                    rw [if_pos hcd] at hstep
                    omega
                  have HM := Lib.hid hM; clear hM hstep hcd
                  go_wp2
                  have hqa : (q : Int) < (c.ps.length : Int) + 1 := by omega
                  have hqb : (q : Int) + 1 < (c.ps.length : Int) + 1 := by omega
                  have hqc : (0 : Int) ≤ (q : Int) + 1 := by omega
                  have hqw : IntKind.i64.wrap ((q : Int) + 1) = (q : Int) + 1 := IntWalk.i64_in _ (by omega)
                  have hqt : ((q : Int) + 1).toNat = q + 1 := by omega
                  go_still_tail 13, (by kernel_rfl)
                  still_call most_still
                  repeat still_step
                  refine wpStill_nil ?_
                  try rw [if_pos (by omega)]
                  clear hqa hqb hqc hqw hqt
                  change wpList _ _ _ _ _ wr.drew
                  go_wp2
                  have P2 : Part wo ((wr.setCell ⟨wo.heap.size, q, none⟩ (.int .i64 ((lcsB cs (pco c) (m + 1) q : Int)))).drew) wo.heap.size c.ps.length (q + 1) (lcsB cs (pco c) m) := (hP.put (by omega)).grow (Ext.refl _).drew
                  have hX2 := P2.ext
                  have e3 := Grow.cells (hX2.cells g3)
                  have e0 := Grow.cells (hX2.cells (show wo.cell? ⟨b0, off0 + q * 2, none⟩ = some (.int .i64 (nth c.ps q).code) from hpc q hqn 0 (by decide)))
                  have e1 := Grow.cells (hX2.cells d0)
                  refine wp_region_ext (by kernel_rfl) (by kernel_rfl) ?_
                  repeat (go_big_quiet_step (fail))
                  refine wpQuiet_nil ?_
                  rintro _ ⟨⟨w1, hx1⟩, rfl⟩
                  clear e3 e0 e1
                  rename_i w2
                  have P3 := P2.grow hx1
                  have m0 : w2.cell? ⟨wo.heap.size, q, none⟩ = some (.int .i64 ((lcsB cs (pco c) (m + 1) q : Int))) := hx1.cells ((Ext.refl _).drew.cells (World.cell?_setCell_same _ _ _ n0))
                  have m1 := (hX2.trans hx1).cells (hrc (q + 1) (by omega))
                  have mf := P3.free q
                  have ml := P3.hi
                  go_wp2
                  have hqa : (q : Int) < (c.ps.length : Int) + 1 := by omega
                  have hqb : (q : Int) + 1 < (c.ps.length : Int) + 1 := by omega
                  have hqc : (0 : Int) ≤ (q : Int) + 1 := by omega
                  have hqw : IntKind.i64.wrap ((q : Int) + 1) = (q : Int) + 1 := IntWalk.i64_in _ (by omega)
                  have hqt : ((q : Int) + 1).toNat = q + 1 := by omega
                  go_still_tail 14, (by kernel_rfl)
                  still_call most_still
                  repeat still_step
                  refine wpStill_nil ?_
                  try rw [if_neg (by omega)]
                  clear hqa hqb hqc hqw hqt
                  change wpList _ _ _ _ _ w2.drew
                  have P4 : Part wo ((w2.setCell ⟨wo.heap.size, q, none⟩ (.int .i64 ((lcsB cs (pco c) (m + 1) (q + 1) : Int) + 1))).drew) wo.heap.size c.ps.length q (lcsB cs (pco c) m) := by
                    have := (P3.fin (by omega)).grow (Ext.refl _).drew
                    rw [HM.out] at this
                    exact this
                  go_wp2
                  go_roundw
                  case rel => exact ⟨q, by omega, rfl, P4⟩
                  case measure => simp [intOf] <;> omega
              · have hcd' : ((nth c.ps q).code == nth cs m) = false := by simpa using hcd
                have hM : (lcsB cs (pco c) m q : Int) = (lcsB cs (pco c) (m + 1) q : Int) := by
                  rw [if_neg hcd] at hstep
                  omega
                have HM := Lib.hid hM; clear hM hstep hcd
                go_wp2
                have hqa : (q : Int) < (c.ps.length : Int) + 1 := by omega
                have hqb : (q : Int) + 1 < (c.ps.length : Int) + 1 := by omega
                have hqc : (0 : Int) ≤ (q : Int) + 1 := by omega
                have hqw : IntKind.i64.wrap ((q : Int) + 1) = (q : Int) + 1 := IntWalk.i64_in _ (by omega)
                have hqt : ((q : Int) + 1).toNat = q + 1 := by omega
                go_still_tail 13, (by kernel_rfl)
                still_call most_still
                repeat still_step
                refine wpStill_nil ?_
                try rw [if_pos (by omega)]
                clear hqa hqb hqc hqw hqt
                change wpList _ _ _ _ _ wr.drew
                go_wp2
                have P2 : Part wo ((wr.setCell ⟨wo.heap.size, q, none⟩ (.int .i64 ((lcsB cs (pco c) (m + 1) q : Int)))).drew) wo.heap.size c.ps.length (q + 1) (lcsB cs (pco c) m) := (hP.put (by omega)).grow (Ext.refl _).drew
                have hX2 := P2.ext
                have e3 := Grow.cells (hX2.cells g3)
                have e0 := Grow.cells (hX2.cells (show wo.cell? ⟨b0, off0 + q * 2, none⟩ = some (.int .i64 (nth c.ps q).code) from hpc q hqn 0 (by decide)))
                have e1 := Grow.cells (hX2.cells d0)
                refine wp_region_ext (by kernel_rfl) (by kernel_rfl) ?_
                repeat (go_big_quiet_step (fail))
                refine wpQuiet_nil ?_
                rintro _ ⟨⟨w1, hx1⟩, rfl⟩
                clear e3 e0 e1
                rename_i w2
                have P3 : Part wo w2 wo.heap.size c.ps.length q (lcsB cs (pco c) m) := by
                  have P3a := hP.fin (by omega)
                  rw [HM.out] at P3a
                  exact P3a.grow (((Ext.refl _).drew).trans hx1)
                go_wp2
                go_roundw
                case rel => exact ⟨q, by omega, rfl, P3⟩
                case measure => simp [intOf] <;> omega
            · by_cases hcd : (nth c.ps q).code = nth cs m
              · have hcd' : ((nth c.ps q).code == nth cs m) = true := by simpa using hcd
                by_cases hMD : (lcsB cs (pco c) (m + 1) (q + 1) : Int) + 1 < (lcsB cs (pco c) m (q + 1) : Int)
                · skip
                  have hM : (lcsB cs (pco c) m q : Int) = (lcsB cs (pco c) m (q + 1) : Int) := by
                    rw [if_pos hcd] at hstep
                    omega
                  have HM := Lib.hid hM; clear hM hstep hcd
                  go_wp2
                  have hqa : (q : Int) < (c.ps.length : Int) + 1 := by omega
                  have hqb : (q : Int) + 1 < (c.ps.length : Int) + 1 := by omega
                  have hqc : (0 : Int) ≤ (q : Int) + 1 := by omega
                  have hqw : IntKind.i64.wrap ((q : Int) + 1) = (q : Int) + 1 := IntWalk.i64_in _ (by omega)
                  have hqt : ((q : Int) + 1).toNat = q + 1 := by omega
                  go_still_tail 13, (by kernel_rfl)
                  still_call most_still
                  repeat still_step
                  refine wpStill_nil ?_
                  try rw [if_neg (by omega)]
                  clear hqa hqb hqc hqw hqt
                  change wpList _ _ _ _ _ wr.drew
                  go_wp2
                  have P2 : Part wo ((wr.setCell ⟨wo.heap.size, q, none⟩ (.int .i64 ((lcsB cs (pco c) m (q + 1) : Int)))).drew) wo.heap.size c.ps.length (q + 1) (lcsB cs (pco c) m) := (hP.put (by omega)).grow (Ext.refl _).drew
                  have hX2 := P2.ext
                  have e3 := Grow.cells (hX2.cells g3)
                  have e0 := Grow.cells (hX2.cells (show wo.cell? ⟨b0, off0 + q * 2, none⟩ = some (.int .i64 (nth c.ps q).code) from hpc q hqn 0 (by decide)))
                  have e1 := Grow.cells (hX2.cells d0)
                  refine wp_region_ext (by kernel_rfl) (by kernel_rfl) ?_
                  repeat (go_big_quiet_step (fail))
                  refine wpQuiet_nil ?_
                  rintro _ ⟨⟨w1, hx1⟩, rfl⟩
                  clear e3 e0 e1
                  rename_i w2
                  have P3 := P2.grow hx1
                  have m0 : w2.cell? ⟨wo.heap.size, q, none⟩ = some (.int .i64 ((lcsB cs (pco c) m (q + 1) : Int))) := hx1.cells ((Ext.refl _).drew.cells (World.cell?_setCell_same _ _ _ n0))
                  have m1 := (hX2.trans hx1).cells (hrc (q + 1) (by omega))
                  have mf := P3.free q
                  have ml := P3.hi
                  go_wp2
                  have hqa : (q : Int) < (c.ps.length : Int) + 1 := by omega
                  have hqb : (q : Int) + 1 < (c.ps.length : Int) + 1 := by omega
                  have hqc : (0 : Int) ≤ (q : Int) + 1 := by omega
                  have hqw : IntKind.i64.wrap ((q : Int) + 1) = (q : Int) + 1 := IntWalk.i64_in _ (by omega)
                  have hqt : ((q : Int) + 1).toNat = q + 1 := by omega
                  go_still_tail 14, (by kernel_rfl)
                  still_call most_still
                  repeat still_step
                  refine wpStill_nil ?_
                  try rw [if_pos (by omega)]
                  clear hqa hqb hqc hqw hqt
                  change wpList _ _ _ _ _ w2.drew
                  have P4 : Part wo ((w2.setCell ⟨wo.heap.size, q, none⟩ (.int .i64 ((lcsB cs (pco c) m (q + 1) : Int)))).drew) wo.heap.size c.ps.length q (lcsB cs (pco c) m) := by
                    have := (P3.fin (by omega)).grow (Ext.refl _).drew
                    rw [HM.out] at this
                    exact this
                  go_wp2
                  go_roundw
                  case rel => exact ⟨q, by omega, rfl, P4⟩
                  case measure => simp [intOf] <;> omega
                · skip
                  have hM : (lcsB cs (pco c) m q : Int) = (lcsB cs (pco c) (m + 1) (q + 1) : Int) + 1 := by
                    rw [if_pos hcd] at hstep
                    omega
                  have HM := Lib.hid hM; clear hM hstep hcd
                  go_wp2
                  have hqa : (q : Int) < (c.ps.length : Int) + 1 := by omega
                  have hqb : (q : Int) + 1 < (c.ps.length : Int) + 1 := by omega
                  have hqc : (0 : Int) ≤ (q : Int) + 1 := by omega
                  have hqw : IntKind.i64.wrap ((q : Int) + 1) = (q : Int) + 1 := IntWalk.i64_in _ (by omega)
                  have hqt : ((q : Int) + 1).toNat = q + 1 := by omega
                  go_still_tail 13, (by kernel_rfl)
                  still_call most_still
                  repeat still_step
                  refine wpStill_nil ?_
                  try rw [if_neg (by omega)]
                  clear hqa hqb hqc hqw hqt
                  change wpList _ _ _ _ _ wr.drew
                  go_wp2
                  have P2 : Part wo ((wr.setCell ⟨wo.heap.size, q, none⟩ (.int .i64 ((lcsB cs (pco c) m (q + 1) : Int)))).drew) wo.heap.size c.ps.length (q + 1) (lcsB cs (pco c) m) := (hP.put (by omega)).grow (Ext.refl _).drew
                  have hX2 := P2.ext
                  have e3 := Grow.cells (hX2.cells g3)
                  have e0 := Grow.cells (hX2.cells (show wo.cell? ⟨b0, off0 + q * 2, none⟩ = some (.int .i64 (nth c.ps q).code) from hpc q hqn 0 (by decide)))
                  have e1 := Grow.cells (hX2.cells d0)
                  refine wp_region_ext (by kernel_rfl) (by kernel_rfl) ?_
                  repeat (go_big_quiet_step (fail))
                  refine wpQuiet_nil ?_
                  rintro _ ⟨⟨w1, hx1⟩, rfl⟩
                  clear e3 e0 e1
                  rename_i w2
                  have P3 := P2.grow hx1
                  have m0 : w2.cell? ⟨wo.heap.size, q, none⟩ = some (.int .i64 ((lcsB cs (pco c) m (q + 1) : Int))) := hx1.cells ((Ext.refl _).drew.cells (World.cell?_setCell_same _ _ _ n0))
                  have m1 := (hX2.trans hx1).cells (hrc (q + 1) (by omega))
                  have mf := P3.free q
                  have ml := P3.hi
                  go_wp2
                  have hqa : (q : Int) < (c.ps.length : Int) + 1 := by omega
                  have hqb : (q : Int) + 1 < (c.ps.length : Int) + 1 := by omega
                  have hqc : (0 : Int) ≤ (q : Int) + 1 := by omega
                  have hqw : IntKind.i64.wrap ((q : Int) + 1) = (q : Int) + 1 := IntWalk.i64_in _ (by omega)
                  have hqt : ((q : Int) + 1).toNat = q + 1 := by omega
                  go_still_tail 14, (by kernel_rfl)
                  still_call most_still
                  repeat still_step
                  refine wpStill_nil ?_
                  try rw [if_neg (by omega)]
                  clear hqa hqb hqc hqw hqt
                  change wpList _ _ _ _ _ w2.drew
                  have P4 : Part wo ((w2.setCell ⟨wo.heap.size, q, none⟩ (.int .i64 ((lcsB cs (pco c) (m + 1) (q + 1) : Int) + 1))).drew) wo.heap.size c.ps.length q (lcsB cs (pco c) m) := by
                    have := (P3.fin (by omega)).grow (Ext.refl _).drew
                    rw [HM.out] at this
                    exact this
                  go_wp2
                  go_roundw
                  case rel => exact ⟨q, by omega, rfl, P4⟩
                  case measure => simp [intOf] <;> omega
              · have hcd' : ((nth c.ps q).code == nth cs m) = false := by simpa using hcd
                have hM : (lcsB cs (pco c) m q : Int) = (lcsB cs (pco c) m (q + 1) : Int) := by
                  rw [if_neg hcd] at hstep
                  omega
                have HM := Lib.hid hM; clear hM hstep hcd
                go_wp2
                have hqa : (q : Int) < (c.ps.length : Int) + 1 := by omega
                have hqb : (q : Int) + 1 < (c.ps.length : Int) + 1 := by omega
                have hqc : (0 : Int) ≤ (q : Int) + 1 := by omega
                have hqw : IntKind.i64.wrap ((q : Int) + 1) = (q : Int) + 1 := IntWalk.i64_in _ (by omega)
                have hqt : ((q : Int) + 1).toNat = q + 1 := by omega
                go_still_tail 13, (by kernel_rfl)
                still_call most_still
                repeat still_step
                refine wpStill_nil ?_
                try rw [if_neg (by omega)]
                clear hqa hqb hqc hqw hqt
                change wpList _ _ _ _ _ wr.drew
                go_wp2
                have P2 : Part wo ((wr.setCell ⟨wo.heap.size, q, none⟩ (.int .i64 ((lcsB cs (pco c) m (q + 1) : Int)))).drew) wo.heap.size c.ps.length (q + 1) (lcsB cs (pco c) m) := (hP.put (by omega)).grow (Ext.refl _).drew
                have hX2 := P2.ext
                have e3 := Grow.cells (hX2.cells g3)
                have e0 := Grow.cells (hX2.cells (show wo.cell? ⟨b0, off0 + q * 2, none⟩ = some (.int .i64 (nth c.ps q).code) from hpc q hqn 0 (by decide)))
                have e1 := Grow.cells (hX2.cells d0)
                refine wp_region_ext (by kernel_rfl) (by kernel_rfl) ?_
                repeat (go_big_quiet_step (fail))
                refine wpQuiet_nil ?_
                rintro _ ⟨⟨w1, hx1⟩, rfl⟩
                clear e3 e0 e1
                rename_i w2
                have P3 : Part wo w2 wo.heap.size c.ps.length q (lcsB cs (pco c) m) := by
                  have P3a := hP.fin (by omega)
                  rw [HM.out] at P3a
                  exact P3a.grow (((Ext.refl _).drew).trans hx1)
                go_wp2
                go_roundw
                case rel => exact ⟨q, by omega, rfl, P3⟩
                case measure => simp [intOf] <;> omega
          | zero =>
            have hrn := hP.row
            have hX := hP.ext
            rw [show (((0 : Nat) : Int) - 1) = (-1 : Int) by omega]
            go_wp2
            go_roundw
            case rel => exact ⟨m, by omega, rfl, hx.trans hX, hrn⟩
            case measure => simp [intOf] <;> omega
      | zero =>
        have hfv := hrc 0 (by omega)
        rw [Nat.add_zero] at hfv
        rw [show (((0 : Nat) : Int) - 1) = (-1 : Int) by omega]
        clear hrc
        go_wp2
        go_ret2
        exact ⟨rfl, hx0.trans hx⟩

end Go.Proofs.Ytbpcejdpgckkoaa
