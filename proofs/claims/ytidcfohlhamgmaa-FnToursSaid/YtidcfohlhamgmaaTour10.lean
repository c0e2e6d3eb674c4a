/-
  Proved here: what TourTime and its reference return.
  Conditions: the lengths fit an int.
-/
import Derived.Test.YtidcfohlhamgmaaTour9
namespace Go.Proofs.Ytidcfohlhamgmaa
open Go.RowKit

/-- there is a tour and all its parts have ways -/
noncomputable def goB (m : MapD) (xs : List Ctl) (center : Int) (cs : List Int) : Bool := tourB m xs center cs && wayF m center.toNat (tourW xs center.toNat cs)
noncomputable def timeI (m : MapD) (xs : List Ctl) (center : Int) (cs : List Int) : Int := wayT m center.toNat (tourW xs center.toNat cs)
noncomputable def gTT (m : MapD) (xs : List Ctl) (center : Int) (cs : List Int) : Value := if goB m xs center cs then .tuple #[.int .i64 (timeI m xs center cs), .bool true] else .tuple #[.int .i64 0, .bool false]
theorem gTT_no {m : MapD} {xs : List Ctl} {center : Int} {cs : List Int} (h : goB m xs center cs = false) : gTT m xs center cs = .tuple #[.int .i64 0, .bool false] := by unfold gTT; rw [h]; rfl
theorem gTT_yes {m : MapD} {xs : List Ctl} {center : Int} {cs : List Int} (h : goB m xs center cs = true) : gTT m xs center cs = .tuple #[.int .i64 (timeI m xs center cs), .bool true] := by unfold gTT; rw [h]; rfl
theorem time_bd {m : MapD} {xs : List Ctl} {center : Int} {cs : List Int} (h : tourB m xs center cs = true) : 0 ≤ timeI m xs center cs ∧ timeI m xs center cs ≤ 9663676416 ∧ (wayF m center.toNat (tourW xs center.toNat cs) = true → timeI m xs center cs ≤ 8505) ∧ (wayF m center.toNat (tourW xs center.toNat cs) = false → 1073741824 ≤ timeI m xs center cs) := by
  obtain ⟨hc, hl, ho, q, e, hq⟩ := tour_open h
  have hm := (ctls_map hc).1
  subst e
  have hall : ∀ b, b ∈ tourW xs q cs → b < m.cost.length := fun b hb => by
    unfold tourW at hb
    rw [List.mem_append, List.mem_singleton] at hb
    rcases hb with hb | rfl
    · exact tour_lt hc ho hb
    · exact hq
  have h1 := wayT_bd hm _ q hq hall
  have h3 : (tourW xs q cs).length ≤ 9 := by rw [tourW_len]; omega
  have h4 : NT = 1073741824 := rfl
  unfold timeI
  rw [Int.toNat_natCast]
  rw [h4] at h1
  refine ⟨h1.1, by omega, fun h => by have := h1.2.2.1 h; omega, fun h => h1.2.2.2 h⟩

set_option maxRecDepth 100000 in
set_option maxHeartbeats 2000000 in
theorem impl_TourTime {m : MapD} {ao bo : Option Addr} {ac bc : Nat} {xs : List Ctl} {co : Option Addr} {cap : Nat} {qo : Option Addr} {qc : Nat} {cs : List Int} {center : Int} {w : World} (h : Site w m ao bo xs co cap) (hq : RowAt w qo 1 cs.length (ic cs)) (hn : cs.length ≤ 9223372036854775807) (hcap : cs.length ≤ qc) :
    Calls Try.prog 15 #[m.val ao ac bo bc, .slice co xs.length cap, .int .i64 center, .slice qo cs.length qc] w fun e w' => e = .returned (gTT m xs center cs) ∧ Ext w w' := by
  have hX := (Ext.refl w).alloc (.cells #[.int .i64 m.wid, .int .i64 m.hei, .slice ao m.rise.length ac, .slice bo m.cost.length bc] 30)
  have p0 : (w.alloc (.cells #[.int .i64 m.wid, .int .i64 m.hei, .slice ao m.rise.length ac, .slice bo m.cost.length bc] 30)).cell? ⟨w.heap.size, 0, none⟩ = some (.int .i64 m.wid) := by go_simp
  have p1 : (w.alloc (.cells #[.int .i64 m.wid, .int .i64 m.hei, .slice ao m.rise.length ac, .slice bo m.cost.length bc] 30)).cell? ⟨w.heap.size, 1, none⟩ = some (.int .i64 m.hei) := by go_simp
  have p2 : (w.alloc (.cells #[.int .i64 m.wid, .int .i64 m.hei, .slice ao m.rise.length ac, .slice bo m.cost.length bc] 30)).cell? ⟨w.heap.size, 2, none⟩ = some (.slice ao m.rise.length ac) := by go_simp
  have p3 : (w.alloc (.cells #[.int .i64 m.wid, .int .i64 m.hei, .slice ao m.rise.length ac, .slice bo m.cost.length bc] 30)).cell? ⟨w.heap.size, 3, none⟩ = some (.slice bo m.cost.length bc) := by go_simp
  have HX := Lib.hid hX
  have HT := Lib.hid (fun y (hx : Ext w y) => impl_isTour (w := y) (ac := ac) (bc := bc) (cap := cap) (center := center) (h.ext hx) (hq.ext hx) hn hcap)
  cases ht : tourB m xs center cs
  · have HG := Lib.hid (gTT_no (show goB m xs center cs = false by unfold goB; rw [ht]; rfl))
    rw [ht] at HT
    unfold MapD.val at *
    clear h hq hX ht
    go_enter Try.func15, Try.ntmps15
    go_wp2_with fail
    refine (HT.out _ HX.out).mono ?_; rintro e w1 ⟨rfl, hx1⟩
    have HX1 := Lib.hid (HX.out.trans hx1)
    clear hx1 HT p0 p1 p2 p3
    go_wp2
    go_ret2
    rw [HG.out]
    exact ⟨rfl, HX1.out⟩
  · obtain ⟨hc, hl8, ho, q, e, hqn⟩ := tour_open ht
    have hbd := time_bd ht
    have HTI := Lib.hid (fun y (hx : Ext w y) => impl_tourTime (w := y) (ac := ac) (bc := bc) (cap := cap) (qc := qc) (h.ext hx) hc (hq.ext hx) (by omega) ho hqn)
    have htm : timeI m xs center cs = wayT m q (tourW xs q cs) := by rw [e]; rfl
    rw [← htm] at HTI
    rw [ht] at HT
    have hb0 := hbd.1; have hb1 := hbd.2.1
    have HGN := Lib.hid (fun (hf : wayF m center.toNat (tourW xs center.toNat cs) = false) => gTT_no (show goB m xs center cs = false by unfold goB; rw [ht, hf]; rfl))
    have HGY := Lib.hid (fun (hf : wayF m center.toNat (tourW xs center.toNat cs) = true) => gTT_yes (show goB m xs center cs = true by unfold goB; rw [ht, hf]; rfl))
    have HTW := Lib.hid hbd.2.2
    generalize wayF m center.toNat (tourW xs center.toNat cs) = F at *
    rw [← e] at HTI
    generalize timeI m xs center cs = tt at *
    unfold MapD.val at *
    clear h hq hX ht hbd hc ho htm e
    go_enter Try.func15, Try.ntmps15
    go_wp2_with fail
    refine (HT.out _ HX.out).mono ?_; rintro e w1 ⟨rfl, hx1⟩
    have HX1 := Lib.hid (HX.out.trans hx1)
    have q0 := hx1.cells p0
    have q1 := hx1.cells p1
    have q2 := hx1.cells p2
    have q3 := hx1.cells p3
    clear hx1 HT p0 p1 p2 p3
    go_wp2_with fail
    refine (HTI.out _ HX1.out).mono ?_; rintro e w2 ⟨rfl, hx2⟩
    have HX2 := Lib.hid (HX1.out.trans hx2)
    clear hx2 HTI q0 q1 q2 q3
    cases F
    · have h1 := HTW.out.2 rfl
      have HG := Lib.hid (HGN.out (by first | rfl | trivial))
      go_wp2
      go_ret2
      rw [HG.out]
      exact ⟨rfl, HX2.out⟩
    · have h1 := HTW.out.1 rfl
      have HG := Lib.hid (HGY.out (by first | rfl | trivial))
      go_wp2
      go_ret2
      rw [HG.out]
      exact ⟨rfl, HX2.out⟩

set_option maxRecDepth 100000 in
set_option maxHeartbeats 2000000 in
theorem spec_TourTime {m : MapD} {ao bo : Option Addr} {ac bc : Nat} {xs : List Ctl} {co : Option Addr} {cap : Nat} {qo : Option Addr} {qc : Nat} {cs : List Int} {center : Int} {w : World} (h : Site w m ao bo xs co cap) (hq : RowAt w qo 1 cs.length (ic cs)) (hn : cs.length ≤ 9223372036854775807) (hcap : cs.length ≤ qc) :
    Calls Try.prog 11 #[m.val ao ac bo bc, .slice co xs.length cap, .int .i64 center, .slice qo cs.length qc] w fun e w' => e = .returned (gTT m xs center cs) ∧ Ext w w' := by
  have hX := (Ext.refl w).alloc (.cells #[.int .i64 m.wid, .int .i64 m.hei, .slice ao m.rise.length ac, .slice bo m.cost.length bc] 30)
  have p0 : (w.alloc (.cells #[.int .i64 m.wid, .int .i64 m.hei, .slice ao m.rise.length ac, .slice bo m.cost.length bc] 30)).cell? ⟨w.heap.size, 0, none⟩ = some (.int .i64 m.wid) := by go_simp
  have p1 : (w.alloc (.cells #[.int .i64 m.wid, .int .i64 m.hei, .slice ao m.rise.length ac, .slice bo m.cost.length bc] 30)).cell? ⟨w.heap.size, 1, none⟩ = some (.int .i64 m.hei) := by go_simp
  have p2 : (w.alloc (.cells #[.int .i64 m.wid, .int .i64 m.hei, .slice ao m.rise.length ac, .slice bo m.cost.length bc] 30)).cell? ⟨w.heap.size, 2, none⟩ = some (.slice ao m.rise.length ac) := by go_simp
  have p3 : (w.alloc (.cells #[.int .i64 m.wid, .int .i64 m.hei, .slice ao m.rise.length ac, .slice bo m.cost.length bc] 30)).cell? ⟨w.heap.size, 3, none⟩ = some (.slice bo m.cost.length bc) := by go_simp
  have HX := Lib.hid hX
  have HA := Lib.hid (fun y (hx : Ext w y) => spec_l6Good (w := y) (ac := ac) (bc := bc) (cap := cap) (h.rise.ext hx) (h.cost.ext hx) h.n1 h.n2 (h.ctls.ext hx) h.n3)
  have HO := Lib.hid (fun y (hx : Ext w y) (hm : mapB m = true) => spec_l2Open (w := y) (ao := ao) (ac := ac) (bc := bc) (x := center) hm (h.cost.ext hx))
  have HC := Lib.hid (fun y (hx : Ext w y) => spec_l17Tour (w := y) (cap := cap) (h.ctls.ext hx) h.n3 (hq.ext hx) hn hcap)
  have HF : Hid (tourB m xs center cs = (ctlsB m xs && openB m center && decide (cs.length ≤ 8) && onceU cs cs.length && ofB xs cs)) := Lib.hid rfl
  cases ha : ctlsB m xs
  · have HG := Lib.hid (gTT_no (show goB m xs center cs = false by unfold goB; rw [HF.out, ha]; rfl))
    rw [ha] at HA
    unfold MapD.val at *
    clear h hq hX ha
    go_enter Try.func11, Try.ntmps11
    go_wp2_with fail
    refine (HA.out _ HX.out).mono ?_; rintro e w1 ⟨rfl, hx1⟩
    have HX1 := Lib.hid (HX.out.trans hx1)
    clear hx1 HA p0 p1 p2 p3
    go_wp2
    go_ret2
    rw [HG.out]
    exact ⟨rfl, HX1.out⟩
  · rw [ha] at HA
    have hm := (ctls_map ha).1
    cases hb : openB m center
    · have HG := Lib.hid (gTT_no (show goB m xs center cs = false by unfold goB; rw [HF.out, ha, hb]; rfl))
      have HOO := Lib.hid (fun y hx => HO.out y hx hm)
      rw [hb] at HOO
      unfold MapD.val at *
      clear h hq hX ha hb
      go_enter Try.func11, Try.ntmps11
      go_wp2_with fail
      refine (HA.out _ HX.out).mono ?_; rintro e w1 ⟨rfl, hx1⟩
      have HX1 := Lib.hid (HX.out.trans hx1)
      have q0 := hx1.cells p0
      have q1 := hx1.cells p1
      have q2 := hx1.cells p2
      have q3 := hx1.cells p3
      clear hx1 HA p0 p1 p2 p3
      go_wp2_with fail
      refine (HOO.out _ HX1.out).mono ?_; rintro e w2 ⟨rfl, hx2⟩
      have HX2 := Lib.hid (HX1.out.trans hx2)
      clear hx2 HOO q0 q1 q2 q3
      go_wp2
      go_ret2
      rw [HG.out]
      exact ⟨rfl, HX2.out⟩
    · have HOO := Lib.hid (fun y hx => HO.out y hx hm)
      rw [hb] at HOO
      cases hc : (ofB xs cs && onceU cs cs.length && decide (cs.length ≤ 8))
      · have ht : tourB m xs center cs = false := by
          rw [HF.out, ha, hb]
          rw [Bool.and_assoc] at hc
          revert hc
          generalize ofB xs cs = x1
          generalize onceU cs cs.length = x2
          generalize decide (cs.length ≤ 8) = x3
          cases x1 <;> cases x2 <;> cases x3 <;> simp
        have HG := Lib.hid (gTT_no (show goB m xs center cs = false by unfold goB; rw [ht]; rfl))
        rw [hc] at HC
        unfold MapD.val at *
        clear h hq hX ha hb hc ht
        go_enter Try.func11, Try.ntmps11
        go_wp2_with fail
        refine (HA.out _ HX.out).mono ?_; rintro e w1 ⟨rfl, hx1⟩
        have HX1 := Lib.hid (HX.out.trans hx1)
        have q0 := hx1.cells p0
        have q1 := hx1.cells p1
        have q2 := hx1.cells p2
        have q3 := hx1.cells p3
        clear hx1 HA p0 p1 p2 p3
        go_wp2_with fail
        refine (HOO.out _ HX1.out).mono ?_; rintro e w2 ⟨rfl, hx2⟩
        have HX2 := Lib.hid (HX1.out.trans hx2)
        clear hx2 HOO q0 q1 q2 q3
        go_wp2_with fail
        refine (HC.out _ HX2.out).mono ?_; rintro e w3 ⟨rfl, hx3⟩
        have HX3 := Lib.hid (HX2.out.trans hx3)
        clear hx3 HC
        go_wp2
        go_ret2
        rw [HG.out]
        exact ⟨rfl, HX3.out⟩
      · have ht : tourB m xs center cs = true := by
          rw [HF.out, ha, hb]
          revert hc
          generalize ofB xs cs = x1
          generalize onceU cs cs.length = x2
          generalize decide (cs.length ≤ 8) = x3
          cases x1 <;> cases x2 <;> cases x3 <;> simp
        rw [hc] at HC
        obtain ⟨hc2, hl8, ho, q, e, hqn⟩ := tour_open ht
        have hbd := time_bd ht
        have HTI := Lib.hid (fun y (hx : Ext w y) => spec_l17Time (w := y) (ac := ac) (bc := bc) (cap := cap) (qc := qc) (h.ext hx) hc2 (hq.ext hx) (by omega) ho hqn)
        have htm : tmI m xs q cs = if wayF m center.toNat (tourW xs center.toNat cs) then timeI m xs center cs else -1 := by rw [e]; rfl
        rw [htm, ← e] at HTI
        have hb0 := hbd.1; have hb1 := hbd.2.1
        have HGN := Lib.hid (fun (hf : wayF m center.toNat (tourW xs center.toNat cs) = false) => gTT_no (show goB m xs center cs = false by unfold goB; rw [ht, hf]; rfl))
        have HGY := Lib.hid (fun (hf : wayF m center.toNat (tourW xs center.toNat cs) = true) => gTT_yes (show goB m xs center cs = true by unfold goB; rw [ht, hf]; rfl))
        generalize wayF m center.toNat (tourW xs center.toNat cs) = F at *
        generalize timeI m xs center cs = tt at *
        unfold MapD.val at *
        clear h hq hX ha hb hc ht hbd htm e hc2 ho
        cases F
        all_goals
          simp only [Bool.false_eq_true, if_false, if_true] at HTI
          go_enter Try.func11, Try.ntmps11
          go_wp2_with fail
          refine (HA.out _ HX.out).mono ?_; rintro e w1 ⟨rfl, hx1⟩
          have HX1 := Lib.hid (HX.out.trans hx1)
          have q0 := hx1.cells p0
          have q1 := hx1.cells p1
          have q2 := hx1.cells p2
          have q3 := hx1.cells p3
          clear hx1 HA p0 p1 p2 p3
          go_wp2_with fail
          refine (HOO.out _ HX1.out).mono ?_; rintro e w2 ⟨rfl, hx2⟩
          have HX2 := Lib.hid (HX1.out.trans hx2)
          have r0 := hx2.cells q0
          have r1 := hx2.cells q1
          have r2 := hx2.cells q2
          have r3 := hx2.cells q3
          clear hx2 HOO q0 q1 q2 q3
          go_wp2_with fail
          refine (HC.out _ HX2.out).mono ?_; rintro e w3 ⟨rfl, hx3⟩
          have HX3 := Lib.hid (HX2.out.trans hx3)
          have s0 := hx3.cells r0
          have s1 := hx3.cells r1
          have s2 := hx3.cells r2
          have s3 := hx3.cells r3
          clear hx3 HC r0 r1 r2 r3
          go_wp2_with fail
          refine (HTI.out _ HX3.out).mono ?_; rintro e w4 ⟨rfl, hx4⟩
          have HX4 := Lib.hid (HX3.out.trans hx4)
          have t0 := hx4.cells s0
          have t1 := hx4.cells s1
          have t2 := hx4.cells s2
          have t3 := hx4.cells s3
          clear hx4 s0 s1 s2 s3
        · have HG := Lib.hid (HGN.out (by first | rfl | trivial))
          clear t0 t1 t2 t3
          go_wp2
          go_ret2
          rw [HG.out]
          exact ⟨rfl, HX4.out⟩
        · have HG := Lib.hid (HGY.out (by first | rfl | trivial))
          have hnn : ¬ tt < 0 := by omega
          go_wp2_with fail
          refine (HTI.out _ HX4.out).mono ?_; rintro e w5 ⟨rfl, hx5⟩
          have HX5 := Lib.hid (HX4.out.trans hx5)
          clear hx5 t0 t1 t2 t3
          go_wp2
          go_ret2
          rw [HG.out]
          exact ⟨rfl, HX5.out⟩

end Go.Proofs.Ytidcfohlhamgmaa
