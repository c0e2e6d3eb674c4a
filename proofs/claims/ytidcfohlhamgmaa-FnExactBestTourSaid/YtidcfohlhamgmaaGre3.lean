/-
  Proved here: what the reference's GreedyTour returns.
  Conditions: the lengths fit an int.
-/
import Derived.Test.YtidcfohlhamgmaaGre2
import Derived.Test.YtidcfohlhamgmaaTour8
import Derived.Test.YtidcfohlhamgmaaSco2
namespace Go.Proofs.Ytidcfohlhamgmaa
open Go.RowKit

theorem enc1_yes {x : Int} (h : x < NT) : enc1 x = x := if_pos h
theorem enc1_no {x : Int} (h : ¬ x < NT) : enc1 x = -1 := if_neg h
theorem pkI_step (m : MapD) (xs : List Ctl) (here : Nat) (cs : List Int) (k : Nat) :
    pkI m xs here cs (k + 1) = if frB m here cs (nth xs k) && (decide ((pkI m xs here cs k).2 < 0) || decide (dist m here (nth xs k) < (pkI m xs here cs k).2)) then ((k : Int), dist m here (nth xs k)) else pkI m xs here cs k := rfl
theorem frozen_new (w : World) (c : Array Value) (e : TypeId) (j : Nat) : (w.alloc (.cells c e)).frozen? ⟨w.heap.size, j, none⟩ = false := by go_simp
theorem frB_eq (m : MapD) (here : Nat) (cs : List Int) (c : Ctl) : frB m here cs c = (!hasI cs cs.length c.code && decide (dist m here c < NT)) := rfl

set_option maxRecDepth 100000 in
set_option maxHeartbeats 4000000 in
theorem spec_GreedyTour {m : MapD} {ao bo : Option Addr} {ac bc : Nat} {xs : List Ctl} {co : Option Addr} {cap : Nat} {r : RuleD} {po : Option Addr} {pc : Nat} {center : Int} {w : World} (h : Site w m ao bo xs co cap) (hp : RowAt w po 1 r.pts.length (ic r.pts)) (hn : r.pts.length ≤ 9223372036854775807) :
    Calls Try.prog 24 #[m.val ao ac bo bc, .slice co xs.length cap, r.val po pc, .int .i64 center] w (ResN w (grT m xs r center) (grB m xs r center)) := by
  have hx0 : Ext w (((w.alloc (.cells #[.int .i64 m.wid, .int .i64 m.hei, .slice ao m.rise.length ac, .slice bo m.cost.length bc] 30)).alloc (.cells #[.slice po r.pts.length pc, .int .i64 r.lim, .int .i64 r.pen] 43)).alloc (.cells #[] 3)) := (((Ext.refl w).alloc _).alloc _).alloc _
  have hbm : BoxM (((w.alloc (.cells #[.int .i64 m.wid, .int .i64 m.hei, .slice ao m.rise.length ac, .slice bo m.cost.length bc] 30)).alloc (.cells #[.slice po r.pts.length pc, .int .i64 r.lim, .int .i64 r.pen] 43)).alloc (.cells #[] 3)) w.heap.size m ao ac bo bc := ⟨by go_simp, by go_simp, by go_simp, by go_simp⟩
  have r0 : (((w.alloc (.cells #[.int .i64 m.wid, .int .i64 m.hei, .slice ao m.rise.length ac, .slice bo m.cost.length bc] 30)).alloc (.cells #[.slice po r.pts.length pc, .int .i64 r.lim, .int .i64 r.pen] 43)).alloc (.cells #[] 3)).cell? ⟨w.heap.size + 1, 0, none⟩ = some (.slice po r.pts.length pc) := by go_simp
  have r1 : (((w.alloc (.cells #[.int .i64 m.wid, .int .i64 m.hei, .slice ao m.rise.length ac, .slice bo m.cost.length bc] 30)).alloc (.cells #[.slice po r.pts.length pc, .int .i64 r.lim, .int .i64 r.pen] 43)).alloc (.cells #[] 3)).cell? ⟨w.heap.size + 1, 1, none⟩ = some (.int .i64 r.lim) := by go_simp
  have r2 : (((w.alloc (.cells #[.int .i64 m.wid, .int .i64 m.hei, .slice ao m.rise.length ac, .slice bo m.cost.length bc] 30)).alloc (.cells #[.slice po r.pts.length pc, .int .i64 r.lim, .int .i64 r.pen] 43)).alloc (.cells #[] 3)).cell? ⟨w.heap.size + 1, 2, none⟩ = some (.int .i64 r.pen) := by go_simp
  have hfe : ∀ y, Ext (((w.alloc (.cells #[.int .i64 m.wid, .int .i64 m.hei, .slice ao m.rise.length ac, .slice bo m.cost.length bc] 30)).alloc (.cells #[.slice po r.pts.length pc, .int .i64 r.lim, .int .i64 r.pen] 43)).alloc (.cells #[] 3)) y → FreshAt w.heap.size y (some ⟨w.heap.size + 1 + 1, 0, none⟩) 1 ([] : List Int).length (ic []) := fun y hy => ⟨fun h => absurd h (by simp), fun a e => by
    injection e with e; subst e
    have := hy.size
    simp only [World.size_alloc] at this ⊢
    omega, fun b off e j => by
    injection e with e; injection e with e1 e2; subst e1
    rw [show w.heap.size + 1 + 1 = ((w.alloc (.cells #[.int .i64 m.wid, .int .i64 m.hei, .slice ao m.rise.length ac, .slice bo m.cost.length bc] 30)).alloc (.cells #[.slice po r.pts.length pc, .int .i64 r.lim, .int .i64 r.pen] 43)).heap.size by simp]
    exact (hy.frozenr _ _ (by simp only [World.size_alloc]; omega)).trans (frozen_new _ _ _ _)⟩
  have hsw : w.heap.size + 1 + 1 < (((w.alloc (.cells #[.int .i64 m.wid, .int .i64 m.hei, .slice ao m.rise.length ac, .slice bo m.cost.length bc] 30)).alloc (.cells #[.slice po r.pts.length pc, .int .i64 r.lim, .int .i64 r.pen] 43)).alloc (.cells #[] 3)).heap.size := by simp
  have HFE := Lib.hid hfe; have HSW := Lib.hid hsw
  clear hfe hsw
  have HA := Lib.hid (fun y (hx : Ext w y) => spec_l17Rule (w := y) (ac := ac) (bc := bc) (cap := cap) (pc := pc) (h.ext hx) (hp.ext hx) hn)
  have HBF : Hid (grB m xs r center = (ruleB m xs r && openB m center)) := Lib.hid rfl
  have HTF : Hid (grT m xs r center = if grB m xs r center then grL m xs r.lim center.toNat 8 [] center.toNat else []) := Lib.hid rfl
  unfold MapD.val at *
  unfold RuleD.val at *
  cases ha : ruleB m xs r
  · have HB : Hid (grB m xs r center = false) := Lib.hid (by rw [HBF.out, ha]; rfl)
    have HT : Hid (grT m xs r center = []) := Lib.hid (by rw [HTF.out, HB.out]; rfl)
    rw [ha] at HA
    clear ha h hp
    go_enter Try.func24, Try.ntmps24
    go_wp2_with fail
    refine (HA.out _ hx0).mono ?_; rintro e w1 ⟨rfl, hx1⟩
    have HX1 := Lib.hid (hx0.trans hx1)
    have HF1 := Lib.hid (HFE.out _ hx1)
    clear hx1 hx0 HA hbm r0 r1 r2 HFE
    go_wp2
    go_ret2
    rw [HT.out, HB.out]
    exact ⟨some ⟨w.heap.size + 1 + 1, 0, none⟩, 0, rfl, HX1.out, HF1.out⟩
  · rw [ha] at HA
    have hc := rule_ctls ha
    have hm := (ctls_map hc).1
    have h10 := (ctls_map hc).2
    have HO := Lib.hid (fun y (hx : Ext w y) => spec_l2Open (w := y) (ao := ao) (ac := ac) (bc := bc) (x := center) hm (h.cost.ext hx))
    unfold MapD.val at HO
    obtain ⟨d0, d1, d2, d3⟩ := hbm
    cases hb : openB m center
    · have HB : Hid (grB m xs r center = false) := Lib.hid (by rw [HBF.out, hb, Bool.and_false])
      have HT : Hid (grT m xs r center = []) := Lib.hid (by rw [HTF.out, HB.out]; rfl)
      rw [hb] at HO
      clear ha hb h hp
      go_enter Try.func24, Try.ntmps24
      go_wp2_with fail
      refine (HA.out _ hx0).mono ?_; rintro e w1 ⟨rfl, hx1⟩
      have HX1 := Lib.hid (hx0.trans hx1)
      have HY1 := Lib.hid hx1
      have d0 := hx1.cells d0
      have d1 := hx1.cells d1
      have d2 := hx1.cells d2
      have d3 := hx1.cells d3
      clear hx1 hx0 HA r0 r1 r2
      go_wp2_with fail
      refine (HO.out _ HX1.out).mono ?_; rintro e w2 ⟨rfl, hx2⟩
      have HX2 := Lib.hid (HX1.out.trans hx2)
      have HF2 := Lib.hid (HFE.out _ (HY1.out.trans hx2))
      clear hx2 HO d0 d1 d2 d3 HFE
      go_wp2
      go_ret2
      rw [HT.out, HB.out]
      exact ⟨some ⟨w.heap.size + 1 + 1, 0, none⟩, 0, rfl, HX2.out, HF2.out⟩
    · obtain ⟨c0, ec, hc0⟩ := open_nat hb
      subst ec
      have HB : Hid (grB m xs r c0 = true) := Lib.hid (by rw [HBF.out, ha, hb]; rfl)
      have HT : Hid (grT m xs r c0 = grL m xs r.lim c0 8 [] c0) := Lib.hid (by rw [HTF.out, HB.out]; rfl)
      have HTO := Lib.hid (fun y b (hx : Ext w y) hb => spec_l4To (w := y) (ac := ac) (bc := bc) (b := b) (h.rise.ext hx) (h.cost.ext hx) hm hb)
      have HTT := Lib.hid (fun y (hx : Ext w y) (cs : List Int) (qo : Option Addr) (qc : Nat) (hq : RowAt y qo 1 cs.length (ic cs)) (hl : cs.length ≤ 20) (ho : ofB xs cs = true) => spec_l17Time (w := y) (ac := ac) (bc := bc) (cap := cap) (qc := qc) (h.ext hx) hc hq hl ho hc0)
      have HSITE := Lib.hid h
      obtain ⟨j0, hj, hy0, hy1, hy2⟩ := info_parts infoInt
      have HJ := Lib.hid hj; have HY0 := Lib.hid hy0; have HY1 := Lib.hid hy1; have HY2 := Lib.hid hy2
      clear hj hy0 hy1 hy2
      rw [hb] at HO
      unfold MapD.val at HTO HTT
      clear ha hb h hp hn HBF HTF
      go_enter Try.func24, Try.ntmps24
      go_wp2_with fail
      refine (HA.out _ hx0).mono ?_; rintro e w1 ⟨rfl, hx1⟩
      have HX1 := Lib.hid (hx0.trans hx1)
      have HE1 := Lib.hid hx1
      have d0 := hx1.cells d0
      have d1 := hx1.cells d1
      have d2 := hx1.cells d2
      have d3 := hx1.cells d3
      have r1 := hx1.cells r1
      clear hx1 hx0 HA r0 r2
      go_wp2_with fail
      refine (HO.out _ HX1.out).mono ?_; rintro e w2 ⟨rfl, hx2⟩
      have HX2 := Lib.hid (HX1.out.trans hx2)
      have HF2 := Lib.hid (HFE.out _ (HE1.out.trans hx2))
      have HBM2 : Hid (BoxM w2 w.heap.size m ao ac bo bc) := Lib.hid ⟨hx2.cells d0, hx2.cells d1, hx2.cells d2, hx2.cells d3⟩
      have HR2 := Lib.hid (hx2.cells r1)
      have hwl := World.block_lt_of_cell? _ _ HR2.out
      simp only at hwl
      clear hx2 HO d0 d1 d2 d3 r1 HFE HE1 HX1
      go_wp2
      go_loopw [10, 11] (fun o l wr => ∃ (cs : List Int) (here f ob oc : Nat), o = .slice (some ⟨ob, 0, none⟩) cs.length oc ∧ l = .int .i64 (here : Nat) ∧ f + cs.length = 8 ∧ grL m xs r.lim c0 f cs here = grL m xs r.lim c0 8 [] c0 ∧ GInv m xs c0 cs here ∧ Ext w2 wr ∧ FreshAt w.heap.size wr (some ⟨ob, 0, none⟩) 1 cs.length (ic cs)) (fun o _ _ => 8 - (match o with | .slice _ n _ => n | _ => 0))
      case atStart => exact ⟨[], c0, 8, w.heap.size + 1 + 1, 0, rfl, rfl, rfl, rfl, GInv.start hc0, Ext.refl _, HF2.out⟩
      case round =>
        obtain ⟨cs, here, f, ob, oc, rfl, rfl, hf, hgr, hinv, hx, hFO⟩ := hrel
        have HGR := Lib.hid hgr
        have HX := Lib.hid hx
        have HINV := Lib.hid hinv
        have HFO := Lib.hid hFO
        have hh := hinv.lt
        clear hgr hinv hx hFO
        by_cases h8 : cs.length < 8
        · have h8i : (cs.length : Int) < 8 := by omega
          obtain ⟨f, rfl⟩ : ∃ f', f = f' + 1 := ⟨f - 1, by omega⟩
          have HPZ : Hid (pkI m xs here cs 0 = (-1, -1)) := Lib.hid rfl
          go_wp2
          go_loopw [12, 13, 14] (fun b l i wq => ∃ k : Nat, k ≤ xs.length ∧ i = .int .i64 k ∧ b = .int .i64 (pkI m xs here cs k).1 ∧ l = .int .i64 (pkI m xs here cs k).2 ∧ Ext wr wq) (fun _ _ i _ => xs.length - (intOf i).toNat)
          case atStart => exact ⟨0, Nat.zero_le _, rfl, by rw [HPZ.out], by rw [HPZ.out], Ext.refl _⟩
          case round =>
            obtain ⟨k, hk, rfl, rfl, rfl, hxq⟩ := hrel
            have HXQ := Lib.hid hxq
            clear hxq
            by_cases hlt : k < xs.length
            · have hXk := cellN_lt hc hlt
              have HXW := Lib.hid (HX2.out.trans (HX.out.trans HXQ.out))
              obtain ⟨lb, loff, rfl, hcell⟩ := HSITE.out.ctls (by omega)
              have q0 := HXW.out.cells (hcell k hlt 0 (by decide))
              have q1 := HXW.out.cells (hcell k hlt 1 (by decide))
              simp only [Ctl.c0, Ctl.c1, Nat.add_zero] at q0 q1
              rw [hXk.1] at q1
              have HTQ := Lib.hid (fun y (hy : Ext wr y) => HTO.out y (cellN (nth xs k)) (HXW.out.trans hy) hXk.2)
              have HGET := Lib.hid (fun (y : World) (B : Nat) (hr : RowAt y (some ⟨B, 0, none⟩) 1 m.cost.length (ic (encL (timL m (cellN (nth xs k)))))) => show y.cell? ⟨B, here, none⟩ = some (.int .i64 (enc1 (dist m here (nth xs k)))) from by
                obtain ⟨b', off', e, H⟩ := hr (by omega)
                injection e with e; injection e with e1 e2; subst e1 e2
                have h1 := H here hh 0 (by decide)
                rw [show 0 + here * 1 + 0 = here by omega] at h1
                rw [h1, ic, encL_nth (by rw [(timL_ok hm hXk.2).len]; exact hh)]; rfl)
              have HHAS := Lib.hid (fun y (hy : Ext wr y) => spec_l1Has (w := y) (cap := oc) (n := cs.length) (v := (nth xs k).code) (HFO.out.row.ext (HXQ.out.trans hy)) (by omega))
              have hstep := pkI_step m xs here cs k
              rw [frB_eq] at hstep
              have hD0 := (dist_bd hc hh (nth_in hlt)).1
              obtain ⟨p0, p1, p2, p3⟩ := HBM2.out.ext (HX.out.trans HXQ.out)
              have pl0 := World.block_lt_of_cell? _ _ p0
              have hk0 : (0 : Int) ≤ (k : Int) := by omega
              have hk1 : (k : Int) < (xs.length : Int) := by omega
              have hh0 : (0 : Int) ≤ (here : Int) := by omega
              have hh1 : (here : Int) < (m.cost.length : Int) := by omega
              generalize hb1 : (pkI m xs here cs k).1 = pb at *
              generalize hb2 : (pkI m xs here cs k).2 = pl at *
              have HB1 := Lib.hid hb1; have HB2 := Lib.hid hb2
              clear hb1 hb2
              generalize hasI cs cs.length (nth xs k).code = Hb at *
              by_cases hfin : dist m here (nth xs k) < NT
              · rw [enc1_yes hfin] at HGET
                rw [decide_eq_true hfin, Bool.and_true] at hstep
                have HSTEP := Lib.hid hstep
                have hnn : ¬ dist m here (nth xs k) < 0 := by omega
                generalize dist m here (nth xs k) = D at *
                generalize (nth xs k).code = cd at *
                generalize cellN (nth xs k) = cq at *
                clear hcell hXk hstep hfin
                go_upto_region 10 with fail
                go_cut [15] (fun v wc => v = .int .i64 D ∧ Ext wr wc)
                case first =>
                  go_region_law (first | (go_simp; go_at_call 61; (with_reducible refine Calls.mono (HTQ.out _ (by repeat (first | (with_reducible exact Ext.refl _) | (with_reducible assumption) | with_reducible refine Ext.drew ?_ | with_reducible refine Ext.alloc ?_ _ | with_reducible refine Ext.setCell ?_ (by first | (simp; done) | (simp; omega) | omega) _ | with_reducible refine Ext.trans ?_ (by with_reducible assumption)))) ?_); rintro e w3 ⟨B, gc, rfl, hx3, hF⟩; (have d1 := HGET.out _ _ hF.row; have HX3 := Lib.hid (show Ext wr w3 from (by repeat (first | (with_reducible exact Ext.refl _) | (with_reducible assumption) | with_reducible refine Ext.drew ?_ | with_reducible refine Ext.alloc ?_ _ | with_reducible refine Ext.setCell ?_ (by first | (simp; done) | (simp; omega) | omega) _ | with_reducible refine Ext.trans ?_ (by with_reducible assumption)))))))
                  all_goals
                    go_wp2_with fail
                    go_meet
                    exact ⟨rfl, HX3.out⟩
                case rest =>
                obtain ⟨rfl, hx3⟩ := hcut
                rename_i w3
                have HX3 := Lib.hid hx3
                have q0 := hx3.cells q0
                clear q1 p0 p1 p2 p3 hx3
                go_wp2_with fail
                refine (HHAS.out _ (HX3.out)).mono ?_; rintro e w4 ⟨rfl, hx4⟩
                have HX4 := Lib.hid (HXQ.out.trans (HX3.out.trans hx4))
                clear hx4 q0
                cases Hb
                · by_cases hl1 : pl < 0
                  · have HS : Hid (pkI m xs here cs (k + 1) = ((k : Int), D)) := Lib.hid (by rw [HSTEP.out, decide_eq_true hl1]; rfl)
                    go_wp2
                    go_roundw
                    case rel => exact ⟨k + 1, by omega, by go_num, by rw [HS.out], by rw [HS.out], HX4.out⟩
                    case measure => simp [intOf] <;> omega
                  · by_cases hl2 : D < pl
                    · have HS : Hid (pkI m xs here cs (k + 1) = ((k : Int), D)) := Lib.hid (by rw [HSTEP.out, decide_eq_true hl2, Bool.or_true]; rfl)
                      go_wp2
                      go_roundw
                      case rel => exact ⟨k + 1, by omega, by go_num, by rw [HS.out], by rw [HS.out], HX4.out⟩
                      case measure => simp [intOf] <;> omega
                    · have HS : Hid (pkI m xs here cs (k + 1) = pkI m xs here cs k) := Lib.hid (by rw [HSTEP.out, decide_eq_false hl1, decide_eq_false hl2]; rfl)
                      go_wp2
                      go_roundw
                      case rel => exact ⟨k + 1, by omega, by go_num, by rw [HS.out, HB1.out], by rw [HS.out, HB2.out], HX4.out⟩
                      case measure => simp [intOf] <;> omega
                · have HS : Hid (pkI m xs here cs (k + 1) = pkI m xs here cs k) := Lib.hid (by rw [HSTEP.out]; rfl)
                  go_wp2
                  go_roundw
                  case rel => exact ⟨k + 1, by omega, by go_num, by rw [HS.out, HB1.out], by rw [HS.out, HB2.out], HX4.out⟩
                  case measure => simp [intOf] <;> omega
              · rw [enc1_no hfin] at HGET
                rw [decide_eq_false hfin, Bool.and_false, Bool.false_and] at hstep
                have HS : Hid (pkI m xs here cs (k + 1) = pkI m xs here cs k) := Lib.hid (by rw [hstep]; rfl)
                generalize (nth xs k).code = cd at *
                generalize cellN (nth xs k) = cq at *
                clear hcell hXk hstep hfin hD0
                go_upto_region 10 with fail
                go_cut [15] (fun v wc => v = .int .i64 (-1) ∧ Ext wr wc)
                case first =>
                  go_region_law (first | (go_simp; go_at_call 61; (with_reducible refine Calls.mono (HTQ.out _ (by repeat (first | (with_reducible exact Ext.refl _) | (with_reducible assumption) | with_reducible refine Ext.drew ?_ | with_reducible refine Ext.alloc ?_ _ | with_reducible refine Ext.setCell ?_ (by first | (simp; done) | (simp; omega) | omega) _ | with_reducible refine Ext.trans ?_ (by with_reducible assumption)))) ?_); rintro e w3 ⟨B, gc, rfl, hx3, hF⟩; (have d1 := HGET.out _ _ hF.row; have HX3 := Lib.hid (show Ext wr w3 from (by repeat (first | (with_reducible exact Ext.refl _) | (with_reducible assumption) | with_reducible refine Ext.drew ?_ | with_reducible refine Ext.alloc ?_ _ | with_reducible refine Ext.setCell ?_ (by first | (simp; done) | (simp; omega) | omega) _ | with_reducible refine Ext.trans ?_ (by with_reducible assumption)))))))
                  all_goals
                    go_wp2_with fail
                    go_meet
                    exact ⟨rfl, HX3.out⟩
                case rest =>
                obtain ⟨rfl, hx3⟩ := hcut
                rename_i w3
                have HX3 := Lib.hid hx3
                have q0 := hx3.cells q0
                clear q1 p0 p1 p2 p3 hx3
                go_wp2_with fail
                refine (HHAS.out _ (HX3.out)).mono ?_; rintro e w4 ⟨rfl, hx4⟩
                have HX4 := Lib.hid (HXQ.out.trans (HX3.out.trans hx4))
                clear hx4 q0
                cases Hb
                · go_wp2
                  go_roundw
                  case rel => exact ⟨k + 1, by omega, by go_num, by rw [HS.out, HB1.out], by rw [HS.out, HB2.out], HX4.out⟩
                  case measure => simp [intOf] <;> omega
                · go_wp2
                  go_roundw
                  case rel => exact ⟨k + 1, by omega, by go_num, by rw [HS.out, HB1.out], by rw [HS.out, HB2.out], HX4.out⟩
                  case measure => simp [intOf] <;> omega
            · obtain rfl : k = xs.length := by omega
              have hkn : ¬ (xs.length : Int) < (xs.length : Int) := by omega
              rcases HINV.out.pick hc hc0 with ⟨hl0, hpk⟩ | ⟨_, k0, hk0, hfr, hpk, _⟩
              · have HE := Lib.hid (HT.out.trans (HGR.out.symm.trans (gr_empty HINV.out hc hc0 hl0)))
                generalize hb1 : (pkI m xs here cs xs.length).1 = pb at *
                generalize hb2 : (pkI m xs here cs xs.length).2 = pl at *
                obtain rfl : pb = -1 := by rw [← hb1, hpk]
                clear hb1 hb2 hpk hl0
                go_wp2
                go_ret2
                rw [HE.out, HB.out]
                have HF9 := HFO.out.ext HXQ.out
                exact ⟨some ⟨ob, 0, none⟩, oc, rfl, HX2.out.trans (HX.out.trans HXQ.out), HF9⟩
              · have HNX := Lib.hid (HINV.out.step hc hk0 hfr)
                have HGN := Lib.hid (gr_next (lim := r.lim) (c0 := c0) (f := f) hpk)
                have hXk := cellN_lt hc hk0
                have HXW := Lib.hid (HX2.out.trans (HX.out.trans HXQ.out))
                obtain ⟨lb, loff, rfl, hcell⟩ := HSITE.out.ctls (by omega)
                have q0 := HXW.out.cells (hcell k0 hk0 0 (by decide))
                have q1 := HXW.out.cells (hcell k0 hk0 1 (by decide))
                simp only [Ctl.c0, Ctl.c1, Nat.add_zero] at q0 q1
                rw [hXk.1] at q1
                generalize hb1 : (pkI m xs here cs xs.length).1 = pb at *
                generalize hb2 : (pkI m xs here cs xs.length).2 = pl at *
                obtain rfl : pb = (k0 : Int) := by rw [← hb1, hpk]
                have hk2 : ¬ (k0 : Int) < 0 := by omega
                have hk3 : (0 : Int) ≤ (k0 : Int) := by omega
                have hk1 : (k0 : Int) < (xs.length : Int) := by omega
                have hqs := World.block_lt_of_cell? _ _ q0
                simp only at hqs
                generalize hX : nth xs k0 = X at *
                clear hb1 hb2 hpk hfr hcell hX
                have HROW := Lib.hid (HFO.out.row.ext HXQ.out)
                obtain ⟨N, hN⟩ : ∃ N, N = cs ++ [X.code] := ⟨_, rfl⟩
                rw [← hN] at HNX HGN
                have HNL := Lib.hid hN; clear hN
                go_upto_region 17 with fail
                go_cut [16] (fun v wc => ∃ mb mc, v = .slice (some ⟨mb, 0, none⟩) N.length mc ∧ Ext wr wc ∧ FreshAt wr.heap.size wc (some ⟨mb, 0, none⟩) 1 N.length (ic N))
                case first =>
                  have HCP := Lib.hid (fun x (hx2 : Ext wr x) => spec_l1Own (w := x) (cap := oc) (HROW.out.ext hx2) (by omega))
                  generalize X.code = cd at *
                  clear hXk q1
                  go_region_law (first
                    | (go_simp; go_at_call 63; (with_reducible refine Calls.mono (HCP.out _ (by repeat (first | (with_reducible exact Ext.refl _) | (with_reducible assumption) | with_reducible refine Ext.drew ?_ | with_reducible refine Ext.alloc ?_ _ | with_reducible refine Ext.setCell ?_ (by first | (simp; done) | (simp; omega) | omega) _ | with_reducible refine Ext.trans ?_ (by with_reducible assumption)))) ?_); rintro e w6 ⟨g1, c1, rfl, hx6, ho6⟩; (have q0 := hx6.cells (show World.cell? _ ⟨lb, loff + k0 * 2, none⟩ = some (.int .i64 cd) by go_simp)); (have HO6 := Lib.hid ho6; have HX6 := Lib.hid (show Ext wr w6 from (by repeat (first | (with_reducible exact Ext.refl _) | (with_reducible assumption) | with_reducible refine Ext.drew ?_ | with_reducible refine Ext.alloc ?_ _ | with_reducible refine Ext.setCell ?_ (by first | (simp; done) | (simp; omega) | omega) _ | with_reducible refine Ext.trans ?_ (by with_reducible assumption)))); have HRL := Lib.hid (show RowAt (w6.alloc (.cells #[.int .i64 cd] 3)) (some ⟨w6.heap.size, 0, none⟩) 1 [cd].length (fun j => icc (nth [cd] j)) from row_lit (w := w6) (cs := #[.int .i64 cd]) (T := 3) (s := 1) (cc := icc) (x := cd) (by intro j hj; obtain rfl : j = 0 := (by omega); rfl))); have hz6 := hx6.size)
                    | (refine step_append_bf (o := ⟨some 81, _, _, _, _, _⟩) rfl _ _ 22 rfl 3 j0 _ 1 8 Try.underlying22 HJ.out HY0.out HY1.out HY2.out rfl (by decide) icc icc_one wr.heap.size ?_ (.slice (some g1) cs.length c1) cs [cd] N HNL rfl ((HO6.out.down (by first | exact Nat.le_refl _ | simp)).ext' ((Ext.refl _).alloc _)) ⟨w6.heap.size, 0, none⟩ 1 1 rfl rfl HRL.out (by simp; omega) (by simp; omega) ?_; (have := HX6.out.size; simp; omega); intro go7 gc7 w7 ho7 hb7 hg7 hv7; have HX7 := Lib.hid (HX6.out.alloc (.cells #[.int .i64 cd] 3)))
                    | (refine step_append_bf (o := ⟨some 81, _, _, _, _, _⟩) rfl _ _ 22 rfl 3 j0 _ 1 8 Try.underlying22 HJ.out HY0.out HY1.out HY2.out rfl (by decide) icc icc_one wr.heap.size ?_ (.slice (some g1) cs.length c1) cs [cd] N HNL rfl (HO6.out.down (by simp)) ⟨wr.heap.size, 0, none⟩ 1 1 rfl rfl (fun _ => ⟨wr.heap.size, 0, rfl, fun k hk j hj => by
                        obtain rfl : k = 0 := by simpa using hk
                        obtain rfl : j = 0 := by omega
                        exact hx6.cells (by go_simp; rfl)⟩) (by simp; omega) (by simp; omega) ?_; (have := HX6.out.size; omega); intro go7 gc7 w7 ho7 hb7 hg7 hv7; have HX7 := Lib.hid HX6.out))
                  all_goals
                    have HXD := Lib.hid (Ext.below HX7.out hb7 (Nat.le_refl _))
                    have hfm := ho7.form
                    rcases hfm with ⟨_, q⟩ | ⟨mb, mc, q, _, _, hF7⟩
                    · exact absurd (HNL.out.symm.trans q) (by simp)
                    injection q with q1 q2 q3
                    subst q1 q3
                    have HF7 := Lib.hid hF7
                    clear ho7 hb7 hg7 hv7 hF7 q2
                    go_wp2_with fail
                    go_meet
                    exact ⟨mb, gc7, rfl, HXD.out, HF7.out⟩
                case rest =>
                  obtain ⟨mb, mc, rfl, hx6, hF6⟩ := hcut
                  have HX6 := Lib.hid hx6; have HF6 := Lib.hid hF6
                  have q1 := hx6.cells q1
                  have hlc8 : N.length = cs.length + 1 := by rw [HNL.out, List.length_append]; rfl
                  have HL8 := Lib.hid hlc8
                  have htm : tmI m xs c0 N = wayT m c0 (tourW xs c0 N) := if_pos (HNX.out.fin hc hc0)
                  have HTC := Lib.hid (fun y (hy : Ext wc y) => HTT.out y (HXW.out.trans (HX6.out.trans hy)) N (some ⟨mb, 0, none⟩) mc (HF6.out.row.ext hy) (by omega) HNX.out.codes)
                  have HXC := Lib.hid (HX.out.trans (HXQ.out.trans HX6.out))
                  obtain ⟨d0, d1, d2, d3⟩ := HBM2.out.ext HXC.out
                  have r1 := HXC.out.cells HR2.out
                  have k0' := Grow.cells d0
                  have k1' := Grow.cells d1
                  have k2' := Grow.cells d2
                  have k3' := Grow.cells d3
                  have k4' := Grow.cells r1
                  rw [htm] at HTC
                  obtain ⟨T, hT⟩ : ∃ T, T = wayT m c0 (tourW xs c0 N) := ⟨_, rfl⟩
                  rw [← hT] at HTC HGN
                  clear hx6 hF6 HROW hlc8 hT htm q0
                  by_cases hlt : r.lim < T
                  · have HE := Lib.hid (HT.out.trans (HGR.out.symm.trans (HGN.out.trans (if_pos hlt))))
                    have hld : decide (r.lim < T) = true := by simpa using hlt
                    go_wp2
                    refine wp_region_ext (by kernel_rfl) (by kernel_rfl) ?_
                    repeat (go_big_quiet_step ((first | (go_at_call 53; with_reducible exact Calls.ext_of (HTC.out _ (Grow.h _))))))
                    refine wpQuiet_nil ?_
                    rintro _ ⟨⟨w1, hx1⟩, rfl⟩
                    clear k0' k1' k2' k3' k4'
                    have HX7 := Lib.hid (HXC.out.trans hx1)
                    have HFO7 := Lib.hid (HFO.out.ext (HXQ.out.trans (HX6.out.trans hx1)))
                    clear hx1 d0 d1 d2 d3 r1 q1
                    go_wp2
                    go_ret2
                    rw [HE.out, HB.out]
                    exact ⟨some ⟨ob, 0, none⟩, oc, rfl, HX2.out.trans HX7.out, HFO7.out⟩
                  · have HGE := Lib.hid ((HGR.out.symm.trans (HGN.out.trans (if_neg hlt))).symm)
                    have hld : decide (r.lim < T) = false := by simpa using hlt
                    go_wp2
                    refine wp_region_ext (by kernel_rfl) (by kernel_rfl) ?_
                    repeat (go_big_quiet_step ((first | (go_at_call 53; with_reducible exact Calls.ext_of (HTC.out _ (Grow.h _))))))
                    refine wpQuiet_nil ?_
                    rintro _ ⟨⟨w1, hx1⟩, rfl⟩
                    clear k0' k1' k2' k3' k4'
                    have q1 := hx1.cells q1
                    have HX7 := Lib.hid hx1
                    clear d0 d1 d2 d3 r1 hx1
                    go_wp2
                    go_roundw
                    case rel => exact ⟨N, cellN X, f, mb, mc, rfl, rfl, by have := HL8.out; omega, HGE.out, HNX.out, HXC.out.trans HX7.out, (HF6.out.ext HX7.out).low (by have := HXW.out.size; omega)⟩
                    case measure => have := HL8.out; show 8 - N.length < 8 - cs.length; omega
        · have h8i : ¬ (cs.length : Int) < 8 := by omega
          obtain rfl : f = 0 := by omega
          have HE := Lib.hid (HT.out.trans HGR.out.symm)
          go_wp2
          go_ret2
          rw [HE.out, HB.out]
          exact ⟨some ⟨ob, 0, none⟩, oc, rfl, HX2.out.trans HX.out, HFO.out⟩

end Go.Proofs.Ytidcfohlhamgmaa
