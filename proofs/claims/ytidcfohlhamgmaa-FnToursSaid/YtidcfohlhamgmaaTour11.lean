/-
  Proved here: what TourScore and its reference return.
  Conditions: the lengths fit an int.
-/
import Derived.Test.YtidcfohlhamgmaaTour10
import Derived.Test.YtidcfohlhamgmaaSco6
namespace Go.Proofs.Ytidcfohlhamgmaa
open Go.RowKit

noncomputable def gTS (m : MapD) (xs : List Ctl) (r : RuleD) (center : Int) (cs : List Int) : Value := if goB m xs center cs && ruleB m xs r then .tuple #[.int .i64 (scoreI xs r cs (timeI m xs center cs)), .bool true] else .tuple #[.int .i64 0, .bool false]
theorem gTS_no {m : MapD} {xs : List Ctl} {r : RuleD} {center : Int} {cs : List Int} (h : (goB m xs center cs && ruleB m xs r) = false) : gTS m xs r center cs = .tuple #[.int .i64 0, .bool false] := by unfold gTS; rw [h]; rfl
theorem gTS_yes {m : MapD} {xs : List Ctl} {r : RuleD} {center : Int} {cs : List Int} (h : (goB m xs center cs && ruleB m xs r) = true) : gTS m xs r center cs = .tuple #[.int .i64 (scoreI xs r cs (timeI m xs center cs)), .bool true] := by unfold gTS; rw [h]; rfl
theorem go_tour {m : MapD} {xs : List Ctl} {center : Int} {cs : List Int} (h : goB m xs center cs = true) : tourB m xs center cs = true ∧ wayF m center.toNat (tourW xs center.toNat cs) = true := by
  unfold goB at h; rw [Bool.and_eq_true] at h; exact h

set_option maxRecDepth 100000 in
set_option maxHeartbeats 2000000 in
theorem impl_TourScore {m : MapD} {ao bo : Option Addr} {ac bc : Nat} {xs : List Ctl} {co : Option Addr} {cap : Nat} {r : RuleD} {po : Option Addr} {pc : Nat} {qo : Option Addr} {qc : Nat} {cs : List Int} {center : Int} {w : World} (h : Site w m ao bo xs co cap) (hp : RowAt w po 1 r.pts.length (ic r.pts)) (hpn : r.pts.length ≤ 9223372036854775807) (hq : RowAt w qo 1 cs.length (ic cs)) (hn : cs.length ≤ 9223372036854775807) (hcap : cs.length ≤ qc) :
    Calls Try.prog 22 #[m.val ao ac bo bc, .slice co xs.length cap, r.val po pc, .int .i64 center, .slice qo cs.length qc] w fun e w' => e = .returned (gTS m xs r center cs) ∧ Ext w w' := by
  have hX := ((Ext.refl w).alloc (.cells #[.int .i64 m.wid, .int .i64 m.hei, .slice ao m.rise.length ac, .slice bo m.cost.length bc] 30)).alloc (.cells #[.slice po r.pts.length pc, .int .i64 r.lim, .int .i64 r.pen] 43)
  obtain ⟨wb, hwb⟩ : ∃ wb, wb = (w.alloc (.cells #[.int .i64 m.wid, .int .i64 m.hei, .slice ao m.rise.length ac, .slice bo m.cost.length bc] 30)).alloc (.cells #[.slice po r.pts.length pc, .int .i64 r.lim, .int .i64 r.pen] 43) := ⟨_, rfl⟩
  rw [← hwb] at hX
  have p0 : wb.cell? ⟨w.heap.size, 0, none⟩ = some (.int .i64 m.wid) := by rw [hwb]; go_simp
  have p1 : wb.cell? ⟨w.heap.size, 1, none⟩ = some (.int .i64 m.hei) := by rw [hwb]; go_simp
  have p2 : wb.cell? ⟨w.heap.size, 2, none⟩ = some (.slice ao m.rise.length ac) := by rw [hwb]; go_simp
  have p3 : wb.cell? ⟨w.heap.size, 3, none⟩ = some (.slice bo m.cost.length bc) := by rw [hwb]; go_simp
  have p4 : wb.cell? ⟨w.heap.size + 1, 0, none⟩ = some (.slice po r.pts.length pc) := by rw [hwb]; go_simp
  have p5 : wb.cell? ⟨w.heap.size + 1, 1, none⟩ = some (.int .i64 r.lim) := by rw [hwb]; go_simp
  have p6 : wb.cell? ⟨w.heap.size + 1, 2, none⟩ = some (.int .i64 r.pen) := by rw [hwb]; go_simp
  have HWB := Lib.hid hwb
  clear hwb
  have HX := Lib.hid hX
  have HT := Lib.hid (fun y (hx : Ext w y) => impl_TourTime (w := y) (ac := ac) (bc := bc) (cap := cap) (center := center) (h.ext hx) (hq.ext hx) hn hcap)
  have HR := Lib.hid (fun y (hx : Ext w y) => impl_IsScoreRule (w := y) (ac := ac) (bc := bc) (cap := cap) (pc := pc) (h.ext hx) (hp.ext hx) hpn)
  cases hg : goB m xs center cs
  · rw [gTT_no hg] at HT
    have HG := Lib.hid (gTS_no (show (goB m xs center cs && ruleB m xs r) = false by rw [hg]; rfl))
    unfold MapD.val at *
    unfold RuleD.val at *
    clear h hq hX hg hp
    go_enter Try.func22, Try.ntmps22
    go_upto_region 1 with fail
    rw [← HWB.out]
    go_wp2_with fail
    refine (HT.out _ HX.out).mono ?_; rintro e w1 ⟨rfl, hx1⟩
    have HX1 := Lib.hid (HX.out.trans hx1)
    clear hx1 HT
    clear p0 p1 p2 p3 p4 p5 p6
    go_wp2
    go_ret2
    rw [HG.out]
    exact ⟨rfl, HX1.out⟩
  · rw [gTT_yes hg] at HT
    cases hr : ruleB m xs r
    · rw [hr] at HR
      have HG := Lib.hid (gTS_no (show (goB m xs center cs && ruleB m xs r) = false by rw [hg, hr]; rfl))
      generalize timeI m xs center cs = tt at *
      unfold MapD.val at *
      unfold RuleD.val at *
      clear h hq hX hg hp hr
      go_enter Try.func22, Try.ntmps22
      go_upto_region 1 with fail
      rw [← HWB.out]
      go_wp2_with fail
      refine (HT.out _ HX.out).mono ?_; rintro e w1 ⟨rfl, hx1⟩
      have HX1 := Lib.hid (HX.out.trans hx1)
      have q0 := hx1.cells p0
      have q1 := hx1.cells p1
      have q2 := hx1.cells p2
      have q3 := hx1.cells p3
      have q4 := hx1.cells p4
      have q5 := hx1.cells p5
      have q6 := hx1.cells p6
      clear hx1 HT
      clear p0 p1 p2 p3 p4 p5 p6
      go_wp2_with fail
      refine (HR.out _ HX1.out).mono ?_; rintro e w2 ⟨rfl, hx2⟩
      have HX2 := Lib.hid (HX1.out.trans hx2)
      clear hx2 HR
      clear q0 q1 q2 q3 q4 q5 q6
      go_wp2
      go_ret2
      rw [HG.out]
      exact ⟨rfl, HX2.out⟩
    · rw [hr] at HR
      have HG := Lib.hid (gTS_yes (show (goB m xs center cs && ruleB m xs r) = true by rw [hg, hr]; rfl))
      have hrl := rule_len hr
      have hbd := time_bd (go_tour hg).1
      have HS := Lib.hid (fun y (hx : Ext w y) => impl_scoreFor (w := y) (cap := cap) (pc := pc) (ac := qc) (t := timeI m xs center cs) (h.ctls.ext hx) hrl.2.1 (hp.ext hx) hrl.1 hrl.2.2.1 hrl.2.2.2.1 hrl.2.2.2.2 (hq.ext hx) hn hbd.1 (by omega))
      generalize scoreI xs r cs (timeI m xs center cs) = sc at *
      generalize timeI m xs center cs = tt at *
      unfold MapD.val at *
      unfold RuleD.val at *
      clear h hq hX hg hp hr hbd hrl
      go_enter Try.func22, Try.ntmps22
      go_upto_region 1 with fail
      rw [← HWB.out]
      go_wp2_with fail
      refine (HT.out _ HX.out).mono ?_; rintro e w1 ⟨rfl, hx1⟩
      have HX1 := Lib.hid (HX.out.trans hx1)
      have q0 := hx1.cells p0
      have q1 := hx1.cells p1
      have q2 := hx1.cells p2
      have q3 := hx1.cells p3
      have q4 := hx1.cells p4
      have q5 := hx1.cells p5
      have q6 := hx1.cells p6
      clear hx1 HT
      clear p0 p1 p2 p3 p4 p5 p6
      go_wp2_with fail
      refine (HR.out _ HX1.out).mono ?_; rintro e w2 ⟨rfl, hx2⟩
      have HX2 := Lib.hid (HX1.out.trans hx2)
      have r0 := hx2.cells q0
      have r1 := hx2.cells q1
      have r2 := hx2.cells q2
      have r3 := hx2.cells q3
      have r4 := hx2.cells q4
      have r5 := hx2.cells q5
      have r6 := hx2.cells q6
      clear hx2 HR
      clear q0 q1 q2 q3 q4 q5 q6
      go_wp2_with fail
      refine (HS.out _ HX2.out).mono ?_; rintro e w3 ⟨rfl, hx3⟩
      have HX3 := Lib.hid (HX2.out.trans hx3)
      clear hx3 HS
      clear r0 r1 r2 r3 r4 r5 r6
      go_wp2
      go_ret2
      rw [HG.out]
      exact ⟨rfl, HX3.out⟩

set_option maxRecDepth 100000 in
set_option maxHeartbeats 2000000 in
theorem spec_TourScore {m : MapD} {ao bo : Option Addr} {ac bc : Nat} {xs : List Ctl} {co : Option Addr} {cap : Nat} {r : RuleD} {po : Option Addr} {pc : Nat} {qo : Option Addr} {qc : Nat} {cs : List Int} {center : Int} {w : World} (h : Site w m ao bo xs co cap) (hp : RowAt w po 1 r.pts.length (ic r.pts)) (hpn : r.pts.length ≤ 9223372036854775807) (hq : RowAt w qo 1 cs.length (ic cs)) (hn : cs.length ≤ 9223372036854775807) (hcap : cs.length ≤ qc) :
    Calls Try.prog 20 #[m.val ao ac bo bc, .slice co xs.length cap, r.val po pc, .int .i64 center, .slice qo cs.length qc] w fun e w' => e = .returned (gTS m xs r center cs) ∧ Ext w w' := by
  have hX := ((Ext.refl w).alloc (.cells #[.int .i64 m.wid, .int .i64 m.hei, .slice ao m.rise.length ac, .slice bo m.cost.length bc] 30)).alloc (.cells #[.slice po r.pts.length pc, .int .i64 r.lim, .int .i64 r.pen] 43)
  obtain ⟨wb, hwb⟩ : ∃ wb, wb = (w.alloc (.cells #[.int .i64 m.wid, .int .i64 m.hei, .slice ao m.rise.length ac, .slice bo m.cost.length bc] 30)).alloc (.cells #[.slice po r.pts.length pc, .int .i64 r.lim, .int .i64 r.pen] 43) := ⟨_, rfl⟩
  rw [← hwb] at hX
  have p0 : wb.cell? ⟨w.heap.size, 0, none⟩ = some (.int .i64 m.wid) := by rw [hwb]; go_simp
  have p1 : wb.cell? ⟨w.heap.size, 1, none⟩ = some (.int .i64 m.hei) := by rw [hwb]; go_simp
  have p2 : wb.cell? ⟨w.heap.size, 2, none⟩ = some (.slice ao m.rise.length ac) := by rw [hwb]; go_simp
  have p3 : wb.cell? ⟨w.heap.size, 3, none⟩ = some (.slice bo m.cost.length bc) := by rw [hwb]; go_simp
  have p4 : wb.cell? ⟨w.heap.size + 1, 0, none⟩ = some (.slice po r.pts.length pc) := by rw [hwb]; go_simp
  have p5 : wb.cell? ⟨w.heap.size + 1, 1, none⟩ = some (.int .i64 r.lim) := by rw [hwb]; go_simp
  have p6 : wb.cell? ⟨w.heap.size + 1, 2, none⟩ = some (.int .i64 r.pen) := by rw [hwb]; go_simp
  have HWB := Lib.hid hwb
  clear hwb
  have HX := Lib.hid hX
  have HR := Lib.hid (fun y (hx : Ext w y) => spec_l17Rule (w := y) (ac := ac) (bc := bc) (cap := cap) (pc := pc) (h.ext hx) (hp.ext hx) hpn)
  have HO := Lib.hid (fun y (hx : Ext w y) (hm : mapB m = true) => spec_l2Open (w := y) (ao := ao) (ac := ac) (bc := bc) (x := center) hm (h.cost.ext hx))
  have HC := Lib.hid (fun y (hx : Ext w y) => spec_l17Tour (w := y) (cap := cap) (h.ctls.ext hx) h.n3 (hq.ext hx) hn hcap)
  have HF : Hid (tourB m xs center cs = (ctlsB m xs && openB m center && decide (cs.length ≤ 8) && onceU cs cs.length && ofB xs cs)) := Lib.hid rfl
  cases hr : ruleB m xs r
  · have HG := Lib.hid (gTS_no (show (goB m xs center cs && ruleB m xs r) = false by rw [hr]; simp))
    rw [hr] at HR
    unfold MapD.val at *
    unfold RuleD.val at *
    clear h hq hX hr hp
    go_enter Try.func20, Try.ntmps20
    go_upto_region 1 with fail
    rw [← HWB.out]
    go_wp2_with fail
    refine (HR.out _ HX.out).mono ?_; rintro e w1 ⟨rfl, hx1⟩
    have HX1 := Lib.hid (HX.out.trans hx1)
    clear hx1 HR
    clear p0 p1 p2 p3 p4 p5 p6
    go_wp2
    go_ret2
    rw [HG.out]
    exact ⟨rfl, HX1.out⟩
  · rw [hr] at HR
    have hrl := rule_len hr
    have ha : ctlsB m xs = true := by
      simp only [ruleB, Bool.and_eq_true] at hr
      exact hr.1.1.1.1
    have hm := (ctls_map ha).1
    cases hb : openB m center
    · have HG := Lib.hid (gTS_no (show (goB m xs center cs && ruleB m xs r) = false by unfold goB; rw [HF.out, ha, hb]; rfl))
      have HOO := Lib.hid (fun y hx => HO.out y hx hm)
      rw [hb] at HOO
      unfold MapD.val at *
      unfold RuleD.val at *
      clear h hq hX ha hb hr hrl hp
      go_enter Try.func20, Try.ntmps20
      go_upto_region 1 with fail
      rw [← HWB.out]
      go_wp2_with fail
      refine (HR.out _ HX.out).mono ?_; rintro e w1 ⟨rfl, hx1⟩
      have HX1 := Lib.hid (HX.out.trans hx1)
      have q0 := hx1.cells p0
      have q1 := hx1.cells p1
      have q2 := hx1.cells p2
      have q3 := hx1.cells p3
      have q4 := hx1.cells p4
      have q5 := hx1.cells p5
      have q6 := hx1.cells p6
      clear hx1 HR
      clear p0 p1 p2 p3 p4 p5 p6
      go_wp2_with fail
      refine (HOO.out _ HX1.out).mono ?_; rintro e w2 ⟨rfl, hx2⟩
      have HX2 := Lib.hid (HX1.out.trans hx2)
      clear hx2 HOO
      clear q0 q1 q2 q3 q4 q5 q6
      go_wp2
      go_ret2
      rw [HG.out]
      exact ⟨rfl, HX2.out⟩
    · have HOO := Lib.hid (fun y hx => HO.out y hx hm)
      rw [hb] at HOO
      cases hc : (ofB xs cs && onceU cs cs.length && decide (cs.length ≤ 8))
      · have ht : tourB m xs center cs = false := by
          rw [HF.out, ha, hb]
          rw [Bool.and_assoc] at hc
          revert hc
          generalize ofB xs cs = x1
          generalize onceU cs cs.length = x2
          generalize decide (cs.length ≤ 8) = x3
          cases x1 <;> cases x2 <;> cases x3 <;> simp
        have HG := Lib.hid (gTS_no (show (goB m xs center cs && ruleB m xs r) = false by unfold goB; rw [ht]; rfl))
        rw [hc] at HC
        unfold MapD.val at *
        unfold RuleD.val at *
        clear h hq hX ha hb hc ht hr hrl hp
        go_enter Try.func20, Try.ntmps20
        go_upto_region 1 with fail
        rw [← HWB.out]
        go_wp2_with fail
        refine (HR.out _ HX.out).mono ?_; rintro e w1 ⟨rfl, hx1⟩
        have HX1 := Lib.hid (HX.out.trans hx1)
        have q0 := hx1.cells p0
        have q1 := hx1.cells p1
        have q2 := hx1.cells p2
        have q3 := hx1.cells p3
        have q4 := hx1.cells p4
        have q5 := hx1.cells p5
        have q6 := hx1.cells p6
        clear hx1 HR
        clear p0 p1 p2 p3 p4 p5 p6
        go_wp2_with fail
        refine (HOO.out _ HX1.out).mono ?_; rintro e w2 ⟨rfl, hx2⟩
        have HX2 := Lib.hid (HX1.out.trans hx2)
        clear hx2 HOO
        clear q0 q1 q2 q3 q4 q5 q6
        go_wp2_with fail
        refine (HC.out _ HX2.out).mono ?_; rintro e w3 ⟨rfl, hx3⟩
        have HX3 := Lib.hid (HX2.out.trans hx3)
        clear hx3 HC
        go_wp2
        go_ret2
        rw [HG.out]
        exact ⟨rfl, HX3.out⟩
      · have ht : tourB m xs center cs = true := by
          rw [HF.out, ha, hb]
          revert hc
          generalize ofB xs cs = x1
          generalize onceU cs cs.length = x2
          generalize decide (cs.length ≤ 8) = x3
          cases x1 <;> cases x2 <;> cases x3 <;> simp
        rw [hc] at HC
        obtain ⟨hc2, hl8, ho, q, e, hqn⟩ := tour_open ht
        have hbd := time_bd ht
        have HTI := Lib.hid (fun y (hx : Ext w y) => spec_l17Time (w := y) (ac := ac) (bc := bc) (cap := cap) (qc := qc) (h.ext hx) hc2 (hq.ext hx) (by omega) ho hqn)
        have htm : tmI m xs q cs = if wayF m center.toNat (tourW xs center.toNat cs) then timeI m xs center cs else -1 := by rw [e]; rfl
        rw [htm, ← e] at HTI
        have hb0 := hbd.1; have hb1 := hbd.2.1
        have HGN := Lib.hid (fun (hf : wayF m center.toNat (tourW xs center.toNat cs) = false) => gTS_no (show (goB m xs center cs && ruleB m xs r) = false by unfold goB; rw [ht, hf]; rfl))
        have HGY := Lib.hid (fun (hf : wayF m center.toNat (tourW xs center.toNat cs) = true) => gTS_yes (show (goB m xs center cs && ruleB m xs r) = true by unfold goB; rw [ht, hf, hr]; rfl))
        have HS := Lib.hid (fun y (hx : Ext w y) => spec_l17Score (w := y) (cap := cap) (pc := pc) (ac := qc) (t := timeI m xs center cs) (h.ctls.ext hx) hrl.2.1 (hp.ext hx) hrl.1 hrl.2.2.1 hrl.2.2.2.1 hrl.2.2.2.2 (hq.ext hx) hn hbd.1 (by omega))
        generalize wayF m center.toNat (tourW xs center.toNat cs) = F at *
        generalize scoreI xs r cs (timeI m xs center cs) = sc at *
        generalize timeI m xs center cs = tt at *
        unfold MapD.val at *
        unfold RuleD.val at *
        clear h hq hX ha hb hc ht hbd htm e hc2 ho hr hrl hp
        cases F
        all_goals
          simp only [Bool.false_eq_true, if_false, if_true] at HTI
          go_enter Try.func20, Try.ntmps20
          go_upto_region 1 with fail
          rw [← HWB.out]
          go_wp2_with fail
          refine (HR.out _ HX.out).mono ?_; rintro e w1 ⟨rfl, hx1⟩
          have HX1 := Lib.hid (HX.out.trans hx1)
          have q0 := hx1.cells p0
          have q1 := hx1.cells p1
          have q2 := hx1.cells p2
          have q3 := hx1.cells p3
          have q4 := hx1.cells p4
          have q5 := hx1.cells p5
          have q6 := hx1.cells p6
          clear hx1 HR
          clear p0 p1 p2 p3 p4 p5 p6
          go_wp2_with fail
          refine (HOO.out _ HX1.out).mono ?_; rintro e w2 ⟨rfl, hx2⟩
          have HX2 := Lib.hid (HX1.out.trans hx2)
          have r0 := hx2.cells q0
          have r1 := hx2.cells q1
          have r2 := hx2.cells q2
          have r3 := hx2.cells q3
          have r4 := hx2.cells q4
          have r5 := hx2.cells q5
          have r6 := hx2.cells q6
          clear hx2 HOO
          clear q0 q1 q2 q3 q4 q5 q6
          go_wp2_with fail
          refine (HC.out _ HX2.out).mono ?_; rintro e w3 ⟨rfl, hx3⟩
          have HX3 := Lib.hid (HX2.out.trans hx3)
          have s0 := hx3.cells r0
          have s1 := hx3.cells r1
          have s2 := hx3.cells r2
          have s3 := hx3.cells r3
          have s4 := hx3.cells r4
          have s5 := hx3.cells r5
          have s6 := hx3.cells r6
          clear hx3 HC
          clear r0 r1 r2 r3 r4 r5 r6
          go_wp2_with fail
          refine (HTI.out _ HX3.out).mono ?_; rintro e w4 ⟨rfl, hx4⟩
          have HX4 := Lib.hid (HX3.out.trans hx4)
          have t0 := hx4.cells s0
          have t1 := hx4.cells s1
          have t2 := hx4.cells s2
          have t3 := hx4.cells s3
          have t4 := hx4.cells s4
          have t5 := hx4.cells s5
          have t6 := hx4.cells s6
          clear hx4
          clear s0 s1 s2 s3 s4 s5 s6
        · have HG := Lib.hid (HGN.out (by first | rfl | trivial))
          clear t0 t1 t2 t3 t4 t5 t6
          go_wp2
          go_ret2
          rw [HG.out]
          exact ⟨rfl, HX4.out⟩
        · have HG := Lib.hid (HGY.out (by first | rfl | trivial))
          have hnn : ¬ tt < 0 := by omega
          have HTI2 := Lib.hid (fun y hx => HTI.out y (HX4.out.trans hx))
          have HS2 := Lib.hid (fun y hx => HS.out y (HX4.out.trans hx))
          have g0 := Grow.cells t0
          have g1 := Grow.cells t1
          have g2 := Grow.cells t2
          have g3 := Grow.cells t3
          have g4 := Grow.cells t4
          have g5 := Grow.cells t5
          have g6 := Grow.cells t6
          clear t0 t1 t2 t3 t4 t5 t6
          go_wp2
          refine wp_region_ext (by kernel_rfl) (by kernel_rfl) ?_
          repeat (go_big_quiet_step ((first | (go_at_call 53; with_reducible exact Calls.ext_of (HTI2.out _ (Grow.h _))) | (go_at_call 59; with_reducible exact Calls.ext_of (HS2.out _ (Grow.h _))))))
          refine wpQuiet_nil ?_
          rintro _ ⟨⟨w1, hx1⟩, rfl⟩
          clear g0 g1 g2 g3 g4 g5 g6
          have HX5 := Lib.hid (HX4.out.trans hx1)
          clear hx1
          go_wp2
          go_ret2
          rw [HG.out]
          exact ⟨rfl, HX5.out⟩

end Go.Proofs.Ytidcfohlhamgmaa
