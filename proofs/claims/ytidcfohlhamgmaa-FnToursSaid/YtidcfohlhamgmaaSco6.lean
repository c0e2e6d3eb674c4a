/-
  Proved here: what ScoreFor, l17Score return.
  Conditions: the lengths fit an int.
-/
import Derived.Test.YtidcfohlhamgmaaSco5
namespace Go.Proofs.Ytidcfohlhamgmaa
open Go.RowKit

set_option maxRecDepth 100000 in
set_option maxHeartbeats 2000000 in
theorem spec_l17Score {xs : List Ctl} {co : Option Addr} {cap : Nat} {r : RuleD} {po : Option Addr} {pc : Nat} {ao : Option Addr} {ac : Nat} {cs : List Int} {t : Int} {w : World} (h : RowAt w co 2 xs.length (fun k => (nth xs k).c)) (h10 : xs.length ≤ 10) (hp : RowAt w po 1 r.pts.length (ic r.pts)) (hl : r.pts.length = xs.length) (hlim : inB r.lim 1 200 = true) (hpen : inB r.pen 0 50 = true) (hpts : ∀ k, k < r.pts.length → inB (nth r.pts k) 0 100 = true)
    (h' : RowAt w ao 1 cs.length (ic cs)) (hn' : cs.length ≤ 9223372036854775807) (ht0 : 0 ≤ t) (ht1 : t ≤ 17179869184) :
    Calls Try.prog 59 #[.slice co xs.length cap, r.val po pc, .slice ao cs.length ac, .int .i64 t] w fun e w' => e = .returned (.int .i64 (scoreI xs r cs t)) ∧ Ext w w' := by
  have hlb := late_bd hpen hlim ht0 ht1
  have hpb := pick_bd (xs := xs) (cs := cs) hpts
  rw [inB_iff] at hlim hpen
  have HPB := Lib.hid hpb; clear hpb hpts
  have HL := Lib.hid hl; clear hl
  have hrl : r.pts.length ≤ 10 := by rw [HL.out]; exact h10
  have hx0 : Ext w (w.alloc (Obj.cells #[.slice po r.pts.length pc, .int .i64 r.lim, .int .i64 r.pen] 43)) := (Ext.refl _).alloc _
  have c0 : (w.alloc (Obj.cells #[.slice po r.pts.length pc, .int .i64 r.lim, .int .i64 r.pen] 43)).cell? ⟨w.heap.size, 0, none⟩ = some (.slice po r.pts.length pc) := by go_simp
  have c1 : (w.alloc (Obj.cells #[.slice po r.pts.length pc, .int .i64 r.lim, .int .i64 r.pen] 43)).cell? ⟨w.heap.size, 1, none⟩ = some (.int .i64 r.lim) := by go_simp
  have c2 : (w.alloc (Obj.cells #[.slice po r.pts.length pc, .int .i64 r.lim, .int .i64 r.pen] 43)).cell? ⟨w.heap.size, 2, none⟩ = some (.int .i64 r.pen) := by go_simp
  have hfin : scoreI xs r cs t = pickU xs r cs xs.length - lateI r t := rfl
  have HF := Lib.hid hfin; clear hfin
  have hlt' : lateI r t = r.pen * (if t - r.lim < 0 then 0 else t - r.lim) := by
    unfold lateI
    by_cases hq : r.lim < t
    · rw [if_pos hq, if_neg (by omega)]
    · rw [if_neg hq]
      split
      · rfl
      · rw [show t - r.lim = 0 by omega]
  have hmost : 0 ≤ (if t - r.lim < 0 then 0 else t - r.lim) ∧ (if t - r.lim < 0 then 0 else t - r.lim) ≤ 17179869184 := by split <;> omega
  have HM := fun y => spec_l1Most' (a := 0) (b := t - r.lim) (w := y)
  generalize (if t - r.lim < 0 then 0 else t - r.lim) = mo at *
  have HLT := Lib.hid hlt'; rw [hlt'] at hlb; clear hlt'
  unfold RuleD.val
  go_enter Try.func59, Try.ntmps59
  go_wp2
  go_loopw [9, 10] (fun sc i wr => ∃ k : Nat, k ≤ xs.length ∧ i = .int .i64 k ∧ sc = .int .i64 (pickU xs r cs k) ∧ Ext (w.alloc (Obj.cells #[.slice po r.pts.length pc, .int .i64 r.lim, .int .i64 r.pen] 43)) wr) (fun _ i _ => xs.length - (intOf i).toNat)
  case atStart => exact ⟨0, by omega, rfl, rfl, Ext.refl _⟩
  case round =>
    obtain ⟨k, hk, rfl, rfl, hx⟩ := hrel
    have hb := HPB.out k (by rw [HL.out]; exact hk)
    have hX := hx0.trans hx
    by_cases hlt : k < xs.length
    · have e0 := hx.cells c0
      have el := World.block_lt_of_cell? _ _ e0
      have hlp : k < r.pts.length := by rw [HL.out]; exact hlt
      have hb2 := HPB.out (k + 1) (by omega)
      obtain ⟨b, off, rfl, hcell⟩ := h (by omega)
      obtain ⟨b', off', rfl, hcell'⟩ := ints_at' hp (by omega)
      have d0 : wr.cell? ⟨b, off + k * 2, none⟩ = some (.int .i64 (nth xs k).code) := hX.cells (hcell k hlt 0 (by decide))
      have d1 : wr.cell? ⟨b, off + k * 2 + 1, none⟩ = some (.int .i64 (nth xs k).cell) := hX.cells (hcell k hlt 1 (by decide))
      have p0 := hX.cells (hcell' k hlp)
      have HC := fun y (hy : Ext w y) => spec_l1Has (w := y) (cap := ac) (v := (nth xs k).code) (h'.ext hy) hn'
      clear hcell hcell' hlb hmost
      cases hh : hasI cs cs.length (nth xs k).code
      · have hpk : pickU xs r cs (k + 1) = pickU xs r cs k := by rw [pickU, hh]; rfl
        have HPK := Lib.hid hpk; clear hpk
        rw [hh] at HC
        go_wp2_with fail
        refine (HC _ hX).mono ?_; rintro e w1 ⟨rfl, hx1⟩
        go_wp2
        go_roundw
        case rel => exact ⟨k + 1, by omega, by go_num, by rw [HPK.out], (by repeat (first | (with_reducible exact Ext.refl _) | (with_reducible assumption) | with_reducible refine Ext.drew ?_ | with_reducible refine Ext.alloc ?_ _ | with_reducible refine Ext.setCell ?_ (by first | (simp; done) | (simp; omega) | omega) _ | with_reducible refine Ext.trans ?_ (by with_reducible assumption)))⟩
        case measure => simp [intOf] <;> omega
      · have hpk : pickU xs r cs (k + 1) = pickU xs r cs k + nth r.pts k := by rw [pickU, hh]; rfl
        rw [hpk] at hb2
        have HPK := Lib.hid hpk; clear hpk
        rw [hh] at HC
        go_wp2_with fail
        refine (HC _ hX).mono ?_; rintro e w1 ⟨rfl, hx1⟩
        have e0 := hx1.cells e0
        have el := World.block_lt_of_cell? _ _ e0
        have p0 := hx1.cells p0
        clear d0 d1
        go_wp2
        go_roundw
        case rel => exact ⟨k + 1, by omega, by go_num, by rw [HPK.out], hx.trans hx1⟩
        case measure => simp [intOf] <;> omega
    · have hkn : k = xs.length := by omega
      have HK := Lib.hid hkn; clear hkn
      have e1 := hx.cells c1
      have e2 := hx.cells c2
      have el := World.block_lt_of_cell? _ _ e1
      have g1 := Grow.cells e1
      have g2 := Grow.cells e2
      clear c0 c1 c2
      go_wp2
      refine wp_region_ext (by kernel_rfl) (by kernel_rfl) ?_
      repeat (go_big_quiet_step ((go_at_call 103; exact Calls.ext_of_same (HM _))))
      refine wpQuiet_nil ?_
      rintro _ ⟨⟨w1, hx1⟩, rfl⟩
      clear g1 g2
      go_wp2
      go_ret
      exact ⟨ret_i (by rw [HF.out, ← HK.out, HLT.out]), (by repeat (first | (with_reducible exact Ext.refl _) | (with_reducible assumption) | with_reducible refine Ext.drew ?_ | with_reducible refine Ext.alloc ?_ _ | with_reducible refine Ext.setCell ?_ (by first | (simp; done) | (simp; omega) | omega) _ | with_reducible refine Ext.trans ?_ (by with_reducible assumption)))⟩

def gSc (m : MapD) (xs : List Ctl) (r : RuleD) (cs : List Int) (t : Int) : Value := if ruleB m xs r && ofB xs cs && decide (cs.length ≤ 20) && inB t 0 1000 then .tuple #[.int .i64 (scoreI xs r cs t), .bool true] else .tuple #[.int .i64 0, .bool false]

set_option maxHeartbeats 2000000 in
theorem impl_ScoreFor {m : MapD} {ao bo : Option Addr} {ac bc : Nat} {co : Option Addr} {cap : Nat} {xs : List Ctl} {r : RuleD} {po : Option Addr} {pc : Nat} {qo : Option Addr} {qc : Nat} {cs : List Int} {t : Int} {w : World} (h : Site w m ao bo xs co cap) (hp : RowAt w po 1 r.pts.length (ic r.pts)) (hn : r.pts.length ≤ 9223372036854775807) (h' : RowAt w qo 1 cs.length (ic cs)) (hn' : cs.length ≤ 9223372036854775807) :
    Calls Try.prog 35 #[m.val ao ac bo bc, .slice co xs.length cap, r.val po pc, .slice qo cs.length qc, .int .i64 t] w fun e w' => e = .returned (gSc m xs r cs t) ∧ Ext w w' := by
  have H := fun y hx => impl_IsScoreRule (w := y) (ao := ao) (bo := bo) (co := co) (po := po) (ac := ac) (bc := bc) (cap := cap) (pc := pc) (h.ext hx) (hp.ext hx) hn
  have HA := fun y hx => impl_areCodesOf (w := y) (cap := cap) (ac := qc) ((h.ext hx).ctls) h.n3 (h'.ext hx) hn'
  have HI := fun y => impl_inside (w := y) (x := t) (a := 0) (b := 1000)
  cases hb : ruleB m xs r
  · have hfin : gSc m xs r cs t = .tuple #[.int .i64 0, .bool false] := by simp [gSc, hb]
    rw [hfin]
    rw [hb] at H
    clear hfin hb
    unfold MapD.val RuleD.val at H ⊢
    go_enter Try.func35, Try.ntmps35
    go_wp2_with fail
    refine (H _ (by repeat (first | (with_reducible exact Ext.refl _) | (with_reducible assumption) | with_reducible refine Ext.drew ?_ | with_reducible refine Ext.alloc ?_ _ | with_reducible refine Ext.setCell ?_ (by first | (simp; done) | (simp; omega) | omega) _ | with_reducible refine Ext.trans ?_ (by with_reducible assumption)))).mono ?_; rintro e w1 ⟨rfl, hx1⟩
    go_wp2
    go_ret2
    exact ⟨rfl, (by repeat (first | (with_reducible exact Ext.refl _) | (with_reducible assumption) | with_reducible refine Ext.drew ?_ | with_reducible refine Ext.alloc ?_ _ | with_reducible refine Ext.setCell ?_ (by first | (simp; done) | (simp; omega) | omega) _ | with_reducible refine Ext.trans ?_ (by with_reducible assumption)))⟩
  · by_cases hl : cs.length ≤ 20
    · cases ha : ofB xs cs
      · have hfin : gSc m xs r cs t = .tuple #[.int .i64 0, .bool false] := by simp [gSc, ha]
        rw [hfin]
        rw [hb] at H
        rw [ha] at HA
        clear hfin hb ha
        unfold MapD.val RuleD.val at H ⊢
        go_enter Try.func35, Try.ntmps35
        go_wp2_with fail
        refine (H _ (by repeat (first | (with_reducible exact Ext.refl _) | (with_reducible assumption) | with_reducible refine Ext.drew ?_ | with_reducible refine Ext.alloc ?_ _ | with_reducible refine Ext.setCell ?_ (by first | (simp; done) | (simp; omega) | omega) _ | with_reducible refine Ext.trans ?_ (by with_reducible assumption)))).mono ?_; rintro e w1 ⟨rfl, hx1⟩
        have hE : Ext w w1 := (by repeat (first | (with_reducible exact Ext.refl _) | (with_reducible assumption) | with_reducible refine Ext.drew ?_ | with_reducible refine Ext.alloc ?_ _ | with_reducible refine Ext.setCell ?_ (by first | (simp; done) | (simp; omega) | omega) _ | with_reducible refine Ext.trans ?_ (by with_reducible assumption)))
        clear hx1
        go_wp2_with fail
        refine (HA _ hE).mono ?_; rintro e w2 ⟨rfl, hx2⟩
        go_wp2
        go_ret2
        exact ⟨rfl, hE.trans hx2⟩
      · cases hi : inB t 0 1000
        · have hfin : gSc m xs r cs t = .tuple #[.int .i64 0, .bool false] := by simp [gSc, hi]
          rw [hfin]
          rw [hb] at H
          rw [ha] at HA
          rw [hi] at HI
          clear hfin hb ha hi
          unfold MapD.val RuleD.val at H ⊢
          go_enter Try.func35, Try.ntmps35
          go_wp2_with fail
          refine (H _ (by repeat (first | (with_reducible exact Ext.refl _) | (with_reducible assumption) | with_reducible refine Ext.drew ?_ | with_reducible refine Ext.alloc ?_ _ | with_reducible refine Ext.setCell ?_ (by first | (simp; done) | (simp; omega) | omega) _ | with_reducible refine Ext.trans ?_ (by with_reducible assumption)))).mono ?_; rintro e w1 ⟨rfl, hx1⟩
          have hE : Ext w w1 := (by repeat (first | (with_reducible exact Ext.refl _) | (with_reducible assumption) | with_reducible refine Ext.drew ?_ | with_reducible refine Ext.alloc ?_ _ | with_reducible refine Ext.setCell ?_ (by first | (simp; done) | (simp; omega) | omega) _ | with_reducible refine Ext.trans ?_ (by with_reducible assumption)))
          clear hx1
          go_wp2_with fail
          refine (HA _ hE).mono ?_; rintro e w2 ⟨rfl, hx2⟩
          go_wp2_with fail
          refine (HI _).mono ?_; rintro e w3 ⟨rfl, rfl⟩
          go_wp2
          go_ret2
          exact ⟨rfl, hE.trans hx2⟩
        · have hr := rule_len hb
          have ht := inB_iff.1 hi
          have HS := fun y hx => impl_scoreFor (w := y) (cap := cap) (pc := pc) (ac := qc) (t := t) ((h.ext hx).ctls) hr.2.1 (hp.ext hx) hr.1 hr.2.2.1 hr.2.2.2.1 hr.2.2.2.2 (h'.ext hx) hn' ht.1 (by omega)
          have hfin : gSc m xs r cs t = .tuple #[.int .i64 (scoreI xs r cs t), .bool true] := by simp [gSc, hi, hb, ha, hl]
          rw [hfin]
          rw [hb] at H
          rw [ha] at HA
          rw [hi] at HI
          clear hfin hb ha hi hr ht
          unfold MapD.val RuleD.val at H ⊢
          unfold RuleD.val at HS
          go_enter Try.func35, Try.ntmps35
          go_wp2_with fail
          refine (H _ (by repeat (first | (with_reducible exact Ext.refl _) | (with_reducible assumption) | with_reducible refine Ext.drew ?_ | with_reducible refine Ext.alloc ?_ _ | with_reducible refine Ext.setCell ?_ (by first | (simp; done) | (simp; omega) | omega) _ | with_reducible refine Ext.trans ?_ (by with_reducible assumption)))).mono ?_; rintro e w1 ⟨rfl, hx1⟩
          have c0 : w1.cell? ⟨w.heap.size + 1, 0, none⟩ = some (.slice po r.pts.length pc) := hx1.cells (by go_simp)
          have c1 : w1.cell? ⟨w.heap.size + 1, 1, none⟩ = some (.int .i64 r.lim) := hx1.cells (by go_simp)
          have c2 : w1.cell? ⟨w.heap.size + 1, 2, none⟩ = some (.int .i64 r.pen) := hx1.cells (by go_simp)
          have hE : Ext w w1 := (by repeat (first | (with_reducible exact Ext.refl _) | (with_reducible assumption) | with_reducible refine Ext.drew ?_ | with_reducible refine Ext.alloc ?_ _ | with_reducible refine Ext.setCell ?_ (by first | (simp; done) | (simp; omega) | omega) _ | with_reducible refine Ext.trans ?_ (by with_reducible assumption)))
          clear hx1
          go_wp2_with fail
          refine (HA _ hE).mono ?_; rintro e w2 ⟨rfl, hx2⟩
          have c0 := hx2.cells c0
          have c1 := hx2.cells c1
          have c2 := hx2.cells c2
          have cl : w.heap.size + 1 < w2.heap.size := World.block_lt_of_cell? _ _ c0
          have hE := hE.trans hx2
          clear hx2
          go_wp2_with fail
          refine (HI _).mono ?_; rintro e w3 ⟨rfl, rfl⟩
          go_wp2_with fail
          refine (HS _ hE).mono ?_; rintro e w4 ⟨rfl, hx4⟩
          go_wp2
          go_ret2
          exact ⟨rfl, hE.trans hx4⟩
    · have hfin : gSc m xs r cs t = .tuple #[.int .i64 0, .bool false] := by simp [gSc, hl]
      rw [hfin]
      rw [hb] at H
      clear hfin hb
      unfold MapD.val RuleD.val at H ⊢
      go_enter Try.func35, Try.ntmps35
      go_wp2_with fail
      refine (H _ (by repeat (first | (with_reducible exact Ext.refl _) | (with_reducible assumption) | with_reducible refine Ext.drew ?_ | with_reducible refine Ext.alloc ?_ _ | with_reducible refine Ext.setCell ?_ (by first | (simp; done) | (simp; omega) | omega) _ | with_reducible refine Ext.trans ?_ (by with_reducible assumption)))).mono ?_; rintro e w1 ⟨rfl, hx1⟩
      go_wp2
      go_ret2
      exact ⟨rfl, (by repeat (first | (with_reducible exact Ext.refl _) | (with_reducible assumption) | with_reducible refine Ext.drew ?_ | with_reducible refine Ext.alloc ?_ _ | with_reducible refine Ext.setCell ?_ (by first | (simp; done) | (simp; omega) | omega) _ | with_reducible refine Ext.trans ?_ (by with_reducible assumption)))⟩

set_option maxHeartbeats 2000000 in
theorem spec_ScoreFor {m : MapD} {ao bo : Option Addr} {ac bc : Nat} {co : Option Addr} {cap : Nat} {xs : List Ctl} {r : RuleD} {po : Option Addr} {pc : Nat} {qo : Option Addr} {qc : Nat} {cs : List Int} {t : Int} {w : World} (h : Site w m ao bo xs co cap) (hp : RowAt w po 1 r.pts.length (ic r.pts)) (hn : r.pts.length ≤ 9223372036854775807) (h' : RowAt w qo 1 cs.length (ic cs)) (hn' : cs.length ≤ 9223372036854775807) :
    Calls Try.prog 36 #[m.val ao ac bo bc, .slice co xs.length cap, r.val po pc, .slice qo cs.length qc, .int .i64 t] w fun e w' => e = .returned (gSc m xs r cs t) ∧ Ext w w' := by
  have H := fun y hx => spec_l17Rule (w := y) (ao := ao) (bo := bo) (co := co) (po := po) (ac := ac) (bc := bc) (cap := cap) (pc := pc) (h.ext hx) (hp.ext hx) hn
  have HA := fun y hx => spec_l17Codes (w := y) (cap := cap) (ac := qc) ((h.ext hx).ctls) h.n3 (h'.ext hx) hn'
  have HI := fun y => spec_l1In (w := y) (x := t) (a := 0) (b := 1000)
  cases hb : ruleB m xs r
  · have hfin : gSc m xs r cs t = .tuple #[.int .i64 0, .bool false] := by simp [gSc, hb]
    rw [hfin]
    rw [hb] at H
    clear hfin hb
    unfold MapD.val RuleD.val at H ⊢
    go_enter Try.func36, Try.ntmps36
    go_wp2_with fail
    refine (H _ (by repeat (first | (with_reducible exact Ext.refl _) | (with_reducible assumption) | with_reducible refine Ext.drew ?_ | with_reducible refine Ext.alloc ?_ _ | with_reducible refine Ext.setCell ?_ (by first | (simp; done) | (simp; omega) | omega) _ | with_reducible refine Ext.trans ?_ (by with_reducible assumption)))).mono ?_; rintro e w1 ⟨rfl, hx1⟩
    go_wp2
    go_ret2
    exact ⟨rfl, (by repeat (first | (with_reducible exact Ext.refl _) | (with_reducible assumption) | with_reducible refine Ext.drew ?_ | with_reducible refine Ext.alloc ?_ _ | with_reducible refine Ext.setCell ?_ (by first | (simp; done) | (simp; omega) | omega) _ | with_reducible refine Ext.trans ?_ (by with_reducible assumption)))⟩
  · cases ha : ofB xs cs
    · have hfin : gSc m xs r cs t = .tuple #[.int .i64 0, .bool false] := by simp [gSc, ha]
      rw [hfin]
      rw [hb] at H
      rw [ha] at HA
      clear hfin hb ha
      unfold MapD.val RuleD.val at H ⊢
      go_enter Try.func36, Try.ntmps36
      go_wp2_with fail
      refine (H _ (by repeat (first | (with_reducible exact Ext.refl _) | (with_reducible assumption) | with_reducible refine Ext.drew ?_ | with_reducible refine Ext.alloc ?_ _ | with_reducible refine Ext.setCell ?_ (by first | (simp; done) | (simp; omega) | omega) _ | with_reducible refine Ext.trans ?_ (by with_reducible assumption)))).mono ?_; rintro e w1 ⟨rfl, hx1⟩
      have hE : Ext w w1 := (by repeat (first | (with_reducible exact Ext.refl _) | (with_reducible assumption) | with_reducible refine Ext.drew ?_ | with_reducible refine Ext.alloc ?_ _ | with_reducible refine Ext.setCell ?_ (by first | (simp; done) | (simp; omega) | omega) _ | with_reducible refine Ext.trans ?_ (by with_reducible assumption)))
      clear hx1
      go_wp2_with fail
      refine (HA _ hE).mono ?_; rintro e w2 ⟨rfl, hx2⟩
      go_wp2
      go_ret2
      exact ⟨rfl, hE.trans hx2⟩
    · by_cases hl : cs.length ≤ 20
      · cases hi : inB t 0 1000
        · have hfin : gSc m xs r cs t = .tuple #[.int .i64 0, .bool false] := by simp [gSc, hi]
          rw [hfin]
          rw [hb] at H
          rw [ha] at HA
          rw [hi] at HI
          clear hfin hb ha hi
          unfold MapD.val RuleD.val at H ⊢
          go_enter Try.func36, Try.ntmps36
          go_wp2_with fail
          refine (H _ (by repeat (first | (with_reducible exact Ext.refl _) | (with_reducible assumption) | with_reducible refine Ext.drew ?_ | with_reducible refine Ext.alloc ?_ _ | with_reducible refine Ext.setCell ?_ (by first | (simp; done) | (simp; omega) | omega) _ | with_reducible refine Ext.trans ?_ (by with_reducible assumption)))).mono ?_; rintro e w1 ⟨rfl, hx1⟩
          have hE : Ext w w1 := (by repeat (first | (with_reducible exact Ext.refl _) | (with_reducible assumption) | with_reducible refine Ext.drew ?_ | with_reducible refine Ext.alloc ?_ _ | with_reducible refine Ext.setCell ?_ (by first | (simp; done) | (simp; omega) | omega) _ | with_reducible refine Ext.trans ?_ (by with_reducible assumption)))
          clear hx1
          go_wp2_with fail
          refine (HA _ hE).mono ?_; rintro e w2 ⟨rfl, hx2⟩
          go_wp2_with fail
          refine (HI _).mono ?_; rintro e w3 ⟨rfl, rfl⟩
          go_wp2
          go_ret2
          exact ⟨rfl, hE.trans hx2⟩
        · have hr := rule_len hb
          have ht := inB_iff.1 hi
          have HS := fun y hx => spec_l17Score (w := y) (cap := cap) (pc := pc) (ac := qc) (t := t) ((h.ext hx).ctls) hr.2.1 (hp.ext hx) hr.1 hr.2.2.1 hr.2.2.2.1 hr.2.2.2.2 (h'.ext hx) hn' ht.1 (by omega)
          have hfin : gSc m xs r cs t = .tuple #[.int .i64 (scoreI xs r cs t), .bool true] := by simp [gSc, hi, hb, ha, hl]
          rw [hfin]
          rw [hb] at H
          rw [ha] at HA
          rw [hi] at HI
          clear hfin hb ha hi hr ht
          unfold MapD.val RuleD.val at H ⊢
          unfold RuleD.val at HS
          go_enter Try.func36, Try.ntmps36
          go_wp2_with fail
          refine (H _ (by repeat (first | (with_reducible exact Ext.refl _) | (with_reducible assumption) | with_reducible refine Ext.drew ?_ | with_reducible refine Ext.alloc ?_ _ | with_reducible refine Ext.setCell ?_ (by first | (simp; done) | (simp; omega) | omega) _ | with_reducible refine Ext.trans ?_ (by with_reducible assumption)))).mono ?_; rintro e w1 ⟨rfl, hx1⟩
          have c0 : w1.cell? ⟨w.heap.size + 1, 0, none⟩ = some (.slice po r.pts.length pc) := hx1.cells (by go_simp)
          have c1 : w1.cell? ⟨w.heap.size + 1, 1, none⟩ = some (.int .i64 r.lim) := hx1.cells (by go_simp)
          have c2 : w1.cell? ⟨w.heap.size + 1, 2, none⟩ = some (.int .i64 r.pen) := hx1.cells (by go_simp)
          have hE : Ext w w1 := (by repeat (first | (with_reducible exact Ext.refl _) | (with_reducible assumption) | with_reducible refine Ext.drew ?_ | with_reducible refine Ext.alloc ?_ _ | with_reducible refine Ext.setCell ?_ (by first | (simp; done) | (simp; omega) | omega) _ | with_reducible refine Ext.trans ?_ (by with_reducible assumption)))
          clear hx1
          go_wp2_with fail
          refine (HA _ hE).mono ?_; rintro e w2 ⟨rfl, hx2⟩
          have c0 := hx2.cells c0
          have c1 := hx2.cells c1
          have c2 := hx2.cells c2
          have cl : w.heap.size + 1 < w2.heap.size := World.block_lt_of_cell? _ _ c0
          have hE := hE.trans hx2
          clear hx2
          go_wp2_with fail
          refine (HI _).mono ?_; rintro e w3 ⟨rfl, rfl⟩
          go_wp2_with fail
          refine (HS _ hE).mono ?_; rintro e w4 ⟨rfl, hx4⟩
          go_wp2
          go_ret2
          exact ⟨rfl, hE.trans hx4⟩
      · have hfin : gSc m xs r cs t = .tuple #[.int .i64 0, .bool false] := by simp [gSc, hl]
        rw [hfin]
        rw [hb] at H
        rw [ha] at HA
        clear hfin hb ha
        unfold MapD.val RuleD.val at H ⊢
        go_enter Try.func36, Try.ntmps36
        go_wp2_with fail
        refine (H _ (by repeat (first | (with_reducible exact Ext.refl _) | (with_reducible assumption) | with_reducible refine Ext.drew ?_ | with_reducible refine Ext.alloc ?_ _ | with_reducible refine Ext.setCell ?_ (by first | (simp; done) | (simp; omega) | omega) _ | with_reducible refine Ext.trans ?_ (by with_reducible assumption)))).mono ?_; rintro e w1 ⟨rfl, hx1⟩
        have hE : Ext w w1 := (by repeat (first | (with_reducible exact Ext.refl _) | (with_reducible assumption) | with_reducible refine Ext.drew ?_ | with_reducible refine Ext.alloc ?_ _ | with_reducible refine Ext.setCell ?_ (by first | (simp; done) | (simp; omega) | omega) _ | with_reducible refine Ext.trans ?_ (by with_reducible assumption)))
        clear hx1
        go_wp2_with fail
        refine (HA _ hE).mono ?_; rintro e w2 ⟨rfl, hx2⟩
        go_wp2
        go_ret2
        exact ⟨rfl, hE.trans hx2⟩

end Go.Proofs.Ytidcfohlhamgmaa
