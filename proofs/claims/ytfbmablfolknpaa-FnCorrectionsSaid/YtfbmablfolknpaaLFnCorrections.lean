/-
  Proved here: the law FnCorrections answers true for every input and leaves its arguments as they were.
  Conditions: none.
-/
import Derived.Test.YtfbmablfolknpaaCorPl
import Derived.Test.YtfbmablfolknpaaDrawK
import Derived.Test.YtfbmablfolknpaaVCard
import Derived.Test.YtfbmablfolknpaaTByteS
import Derived.Test.YtfbmablfolknpaaForm
import Derived.Deep.RegionWith
import Derived.IntWalk
import Derived.Deep.RegionLaw
import Derived.Deep.DrawnRows
import Derived.Deep.DeepCutAuto
namespace Go.Proofs.Ytfbmablfolknpaa.FnCorrections
open Go.ChangeShapes Go.WideShapes Go.ChangeAt Go.RowKit

theorem row_below {w w' : World} {ao : Option Addr} {s n base : Nat} {c : Nat → Nat → Value} (h : RowAt w ao s n c) (hb : Below base w w') (hlt : ∀ a, ao = some a → a.block < base) : RowAt w' ao s n c := fun hn => by
  obtain ⟨b, off, e, H⟩ := h hn
  have h1 : b < base := hlt _ e
  exact ⟨b, off, e, fun k hk j hj => (hb.cell (p := ⟨b, _, none⟩) h1).trans (H k hk j hj)⟩

set_option maxRecDepth 100000 in
set_option maxHeartbeats 8000000 in
theorem walk {co : Option Addr} {cc m : Nat} {bs : Nat → Nat} {w : World} (hr : RowAt w co 1 m (by8 bs)) (hm : m ≤ 9223372036854775807) (hb : ∀ k, bs k < 256) :
    Calls Try.prog 7 #[.slice co m cc] w fun e w' => e = .returned (.bool true) ∧ Ext w w' := by
  by_cases hbig : 65536 < m
  · go_enter Try.func7, Try.ntmps7
    go_wp2_with fail
    refine (laws_vBig hm).mono ?_; rintro e w1 ⟨rfl, rfl⟩
    rw [show decide (65536 < m) = true by simpa using hbig]
    go_wp2
    go_ret
    exact ⟨rfl, (by repeat (first | (with_reducible exact Ext.refl _) | (with_reducible assumption) | with_reducible refine Ext.drew ?_ | with_reducible refine Ext.alloc ?_ _ | with_reducible refine Ext.setCell ?_ (by first | (simp; done) | (simp; omega) | omega) _ | with_reducible refine Ext.trans ?_ (by with_reducible assumption)))⟩
  · have HD1 := Lib.hid (draw_corr (cc := cc) hr hb hm)
    have HD2 := Lib.hid (fun x (hx : Ext w x) => draw_needless (cc := cc) (hr.ext hx) hb hm)
    have HV := Lib.hid (laws_vBig (ao := co) (cap := cc) (w := w) hm)
    have HBIG : Hid (decide (65536 < m) = false) := Lib.hid (by simpa using hbig)
    clear hr hb hbig hm
    go_enter Try.func7, Try.ntmps7
    go_wp2_with fail
    refine HV.out.mono ?_; rintro e w1 ⟨rfl, rfl⟩
    rw [HBIG.out]
    go_wp2_with fail
    refine HD1.out.mono ?_; rintro e w1 ⟨c, b, off, gc, code, ms, mo, mcap, rfl, hD, hM, hx1⟩
    have hml : ms.length ≤ 1048576 := by have := hM.1; omega
    have hgc : c.ps.length ≤ gc ∧ gc ≤ 9223372036854775807 := ⟨hD.2.2.1, hD.2.2.2.1⟩
    have HIM := Lib.hid (fun x (hx : Ext w1 x) => impl_CorrectCard (w := x) (c := c) (ad := ⟨b, off, none⟩) (cap := gc) (code := code) (ms := ms) (mcap := mcap) (hD.2.2.2.2.row.ext hx) hgc (hM.2.2.2.row.ext hx) hml)
    have HSP := Lib.hid (fun x (hx : Ext w1 x) => spec_CorrectCard (w := x) (c := c) (ad := ⟨b, off, none⟩) (cap := gc) (code := code) (ms := ms) (mcap := mcap) (hD.2.2.2.2.row.ext hx) hgc (hM.2.2.2.row.ext hx) hml)
    have HIO := Lib.hid (fun x (hx : Ext w1 x) => impl_OrderTrouble (w := x) (c := c) (ad := ⟨b, off, none⟩) (cap := gc) (code := code) (ms := ms) (mcap := mcap) (hD.2.2.2.2.row.ext hx) hgc (hM.2.2.2.row.ext hx) hml)
    have HSO := Lib.hid (fun x (hx : Ext w1 x) => spec_OrderTrouble (w := x) (c := c) (ad := ⟨b, off, none⟩) (cap := gc) (code := code) (ms := ms) (mcap := mcap) (hD.2.2.2.2.row.ext hx) hgc (hM.2.2.2.row.ext hx) hml)
    have HTT := Lib.hid (fun x t (hx : Ext w1 x) ht => impl_TrueTime (w := x) (ms := ms) (t := t) (ao := mo) (cap := mcap) (hM.2.2.2.row.ext hx) (by omega) ht)
    have HROWC := Lib.hid (fun x (hx : Ext w1 x) => hD.2.2.2.2.row.ext hx)
    have hyl : (ccC c code ms).ps.length ≤ 9223372036854775807 := by have := ccC_len c code ms; omega
    have hol : (otL c code ms).length ≤ 9223372036854775807 := by have := otL_len c code ms; omega
    have HVC := Lib.hid (fun x go gc go' gc' hx hx' => laws_vCard (w := x) (c := ccC c code ms) (ao := go) (ac := gc) (bo := go') (bc := gc') hx hx' hyl)
    have HVI := Lib.hid (fun x go gc go' gc' hx hx' => laws_vInts (w := x) (xs := otL c code ms) (ao := go) (ac := gc) (bo := go') (bc := gc') hx hx' hol)
    have HIC := Lib.hid (fun x go gc hx => impl_IsCard (w := x) (c := ccC c code ms) (ao := go) (cap := gc) hx hyl)
    have HCO := Lib.hid (@corr_ok c code ms)
    have HCT := Lib.hid (fun k => @cor_time c code ms · k)
    have HCL : Hid (c.ps.length ≤ 12) := Lib.hid hD.1
    have HX1 := Lib.hid hx1
    have HA1 := Lib.hid ((Ext.refl w1).alloc (.cells #[.int .i64 c.number, .int .i64 c.start, .int .i64 c.finish, .slice (some ⟨b, off, none⟩) c.ps.length gc] 41))
    clear hD hM hx1 HD1 HV HBIG hml hgc hol
    generalize hy : ccC c code ms = y at HIM HSP HVC HIC HCO hyl
    generalize ccB c code ms = B at HIM HSP HCO
    generalize otL c code ms = L at HIO HSO HVI HCO
    generalize corA c code ms = A at HIO HSO HCO
    clear hy hyl
    unfold CardD.val at HIM HSP HIO HSO HVC HIC ⊢
    go_wp2_with fail
    refine (HIM.out _ HA1.out).mono ?_; rintro e w2 ⟨go2, g2, rfl, hx2, hF2⟩
    have hb2 := Box4.of hx2
    obtain ⟨q0, q1, q2, q3⟩ := hb2
    have ql := World.block_lt_of_cell? _ _ q0
    have HX2 := Lib.hid (HA1.out.trans hx2)
    have HA2 := Lib.hid ((Ext.refl w2).alloc (.cells #[.int .i64 y.number, .int .i64 y.start, .int .i64 y.finish, .slice go2 y.ps.length g2] 41))
    have HF2 := Lib.hid hF2.row
    clear hx2 hF2 HIM HA1
    go_wp2_with fail
    refine (HSP.out _ (HX2.out.trans HA2.out)).mono ?_; rintro e w3 ⟨go3, g3, rfl, hx3, hF3⟩
    obtain ⟨q0, q1, q2, q3⟩ := Box4.ext ⟨q0, q1, q2, q3⟩ (HA2.out.trans hx3)
    have ql := World.block_lt_of_cell? _ _ q0
    obtain ⟨p0, p1, p2, p3⟩ := Box4.of hx3
    have pl := World.block_lt_of_cell? _ _ p0
    have HX3 := Lib.hid (HX2.out.trans (HA2.out.trans hx3))
    have HA3 := Lib.hid ((Ext.refl w3).alloc (.cells #[.int .i64 y.number, .int .i64 y.start, .int .i64 y.finish, .slice go3 y.ps.length g3] 41))
    have HF23 := Lib.hid (HF2.out.ext (HA2.out.trans hx3))
    have HF3 := Lib.hid hF3.row
    clear hx3 hF3 HSP HA2 HF2 HX2
    go_wp2_with fail
    refine (HVC.out _ go2 g2 go3 g3 (HF23.out.ext HA3.out) (HF3.out.ext HA3.out)).mono ?_; rintro e w4 ⟨rfl, hx4⟩
    obtain ⟨q0, q1, q2, q3⟩ := Box4.ext ⟨q0, q1, q2, q3⟩ (HA3.out.trans hx4)
    have ql := World.block_lt_of_cell? _ _ q0
    obtain ⟨p0, p1, p2, p3⟩ := Box4.ext ⟨p0, p1, p2, p3⟩ (HA3.out.trans hx4)
    have pl := World.block_lt_of_cell? _ _ p0
    have HX4 := Lib.hid (HX3.out.trans (HA3.out.trans hx4))
    have HF4 := Lib.hid (HF23.out.ext (HA3.out.trans hx4))
    clear hx4 HF23 HF3 HX3 HA3 HVC
    go_wp2_with fail
    refine (HIO.out _ HX4.out).mono ?_; rintro e w5 ⟨go5, g5, rfl, hx5, hF5⟩
    obtain ⟨q0, q1, q2, q3⟩ := Box4.ext ⟨q0, q1, q2, q3⟩ hx5
    have ql := World.block_lt_of_cell? _ _ q0
    have HP5 := Lib.hid (Box4.ext ⟨p0, p1, p2, p3⟩ hx5)
    have HX5 := Lib.hid (HX4.out.trans hx5)
    have HF45 := Lib.hid (HF4.out.ext hx5)
    have HF5 := Lib.hid hF5.row
    clear hx5 hF5 HIO HX4 HF4 p0 p1 p2 p3 pl
    go_wp2_with fail
    refine (HSO.out _ HX5.out).mono ?_; rintro e w6 ⟨go6, g6, rfl, hx6, hF6⟩
    have HQ6 := Lib.hid (Box4.ext ⟨q0, q1, q2, q3⟩ hx6)
    have HP6 := Lib.hid (HP5.out.ext hx6)
    have HX6 := Lib.hid (HX5.out.trans hx6)
    have HF46 := Lib.hid (HF45.out.ext hx6)
    have HV6 := Lib.hid (HVI.out _ go5 g5 go6 g6 (HF5.out.ext hx6) hF6.row)
    clear hx6 hF6 HSO HX5 HF45 HF5 HP5 HVI q0 q1 q2 q3 ql
    go_wp2_with fail
    refine HV6.out.mono ?_; rintro e w7 ⟨rfl, hx7⟩
    have HQ7 := Lib.hid (HQ6.out.ext hx7)
    have HP7 := Lib.hid (HP6.out.ext hx7)
    have HX7 := Lib.hid (HX6.out.trans hx7)
    have HF7 := Lib.hid (HF46.out.ext hx7)
    clear hx7 HV6 HQ6 HP6 HX6 HF46
    go_upto_if 83 with fail
    go_cut [] (fun wc => Ext w1 wc)
    case first =>
      cases B
      · go_wp2_with fail
        go_meet
        exact HX7.out
      · obtain ⟨rfl, rfl, hc1, hc2, hc3, hc4, hc5⟩ := HCO.out (by trivial)
        have HLEN := Lib.hid hc1
        have HCB := Lib.hid hc3
        have HMB := Lib.hid hc4
        have HNTH := Lib.hid hc5
        rw [hc2] at HIC
        clear HCO hc1 hc2 hc3 hc4 hc5
        have hlen : (y.ps.length != c.ps.length) = false := by rw [HLEN.out]; simp
        have hlen' : ((y.ps.length : Int) != (c.ps.length : Int)) = false := by rw [HLEN.out]; simp
        obtain ⟨q0, q1, q2, q3⟩ := HQ7.out
        have ql := World.block_lt_of_cell? _ _ q0
        obtain ⟨p0, p1, p2, p3⟩ := HP7.out
        have pl := World.block_lt_of_cell? _ _ p0
        go_wp2_with fail
        refine (HIC.out _ go2 g2 HF7.out).mono ?_; rintro e w8 ⟨rfl, hx8⟩
        obtain ⟨q0, q1, q2, q3⟩ := Box4.ext ⟨q0, q1, q2, q3⟩ hx8
        obtain ⟨p0, p1, p2, p3⟩ := Box4.ext ⟨p0, p1, p2, p3⟩ hx8
        have HX8 := Lib.hid (HX7.out.trans hx8)
        have HF8 := Lib.hid (HF7.out.ext hx8)
        have Q3 := Lib.hid q3
        have P3 := Lib.hid p3
        have ql := World.block_lt_of_cell? _ _ q0
        have pl := World.block_lt_of_cell? _ _ p0
        clear hx8 HF7 HQ7 HP7 HX7 HIC
        go_wp2
        clear q0 q1 q2 q3 p0 p1 p2 p3 ql pl hlen hlen'
        go_loopw [14] (fun i wr => ∃ k : Nat, k ≤ y.ps.length ∧ i = .int .i64 k ∧ Ext w8 wr) (fun i _ => y.ps.length - (intOf i).toNat)
        case atStart => exact ⟨0, by omega, rfl, Ext.refl _⟩
        case round =>
          obtain ⟨k, hk, rfl, hx⟩ := hrel
          have q3 := hx.cells Q3.out
          have p3 := hx.cells P3.out
          have ql := World.block_lt_of_cell? _ _ q3
          have pl := World.block_lt_of_cell? _ _ p3
          by_cases hlt : k < y.ps.length
          · have hkc : k < c.ps.length := by rw [← HLEN.out]; exact hlt
            obtain ⟨b2, off2, rfl, hcell2⟩ := HF8.out (by omega)
            obtain ⟨b1, off1, e1, hcell1⟩ := HROWC.out _ (HX8.out.trans hx) (by omega)
            injection e1 with e1; injection e1 with e2 e3; subst e2 e3
            have d0 := hcell1 k hkc 0 (by decide)
            have d1 := hcell1 k hkc 1 (by decide)
            have g0 := hx.cells (hcell2 k hlt 0 (by decide))
            have g1 := hx.cells (hcell2 k hlt 1 (by decide))
            obtain ⟨ct0, ct1, ct2, r, o, ct3, ct4⟩ := HCT.out HCB.out k hkc
            simp only [HNTH.out k hkc, Pch.c0, Pch.c1, ct0, Nat.add_zero] at d0 d1 g0 g1
            have HT9 := Lib.hid (fun x hx => HTT.out x (nth c.ps k).time hx ct2)
            rw [ct3] at HT9
            have dl := World.block_lt_of_cell? _ _ d0
            have gl := World.block_lt_of_cell? _ _ g0
            clear hcell1 hcell2 ct0 ct3 ct2
            generalize (corP ms code (nth c.ps k)).time = qt at g1 ct1 ct4
            generalize (nth c.ps k).code = pc at d0 g0 ct1 ct4
            generalize (nth c.ps k).time = pt at d1 ct1 HT9
            have hk0 : (0 : Int) ≤ (k : Int) := by omega
            have hk12 : k ≤ 12 := by have := HCL.out; omega
            have hk1 : (k : Int) < (c.ps.length : Int) := by omega
            have hk2 : (k : Int) < (y.ps.length : Int) := by omega
            have d0a : ∀ z, (wr.alloc z).cell? ⟨b, off + k * 2, none⟩ = some (.int .i64 pc) := fun z => ((Ext.refl wr).alloc z).cells d0
            have g0a : ∀ z, (wr.alloc z).cell? ⟨b2, off2 + k * 2, none⟩ = some (.int .i64 pc) := fun z => ((Ext.refl wr).alloc z).cells g0
            have HXR := Lib.hid (HX8.out.trans hx)
            have HXW := Lib.hid hx
            have HKL := Lib.hid hlt
            clear HF8 hx
            go_upto_region 18 with fail
            go_cut [15, 16] (fun s t wx => ∃ P Q : Nat, s = .pointer (some ⟨P, 0, none⟩) ∧ t = .pointer (some ⟨Q, 0, none⟩) ∧ Ext wr wx ∧ wx.cell? ⟨P, 0, none⟩ = some (.int .i64 pc) ∧ wx.cell? ⟨P, 1, none⟩ = some (.int .i64 pt) ∧ wx.cell? ⟨Q, 0, none⟩ = some (.int .i64 pc) ∧ wx.cell? ⟨Q, 1, none⟩ = some (.int .i64 qt))
            case first =>
              go_region
              all_goals
                go_wp2_with fail
                go_meet
                exact ⟨_, _, rfl, rfl, (by repeat (first | (with_reducible exact Ext.refl _) | (with_reducible assumption) | with_reducible refine Ext.drew ?_ | with_reducible refine Ext.alloc ?_ _ | with_reducible refine Ext.setCell ?_ (by first | (simp; done) | (simp; omega) | omega) _ | with_reducible refine Ext.trans ?_ (by with_reducible assumption))), by go_simp, by go_simp, by go_simp, by go_simp⟩
            case rest =>
              obtain ⟨P, Q, rfl, rfl, hxx, t0, t1, t2, t3⟩ := hcut
              have HXX := Lib.hid hxx
              have tl := World.block_lt_of_cell? _ _ t0
              have tm := World.block_lt_of_cell? _ _ t2
              have T2 := Lib.hid t2
              have T3 := Lib.hid t3
              have T0 := Lib.hid t0
              clear hxx d0 d1 g0 g1 d0a g0a q3 p3 ql pl
              by_cases hpc : pc = code
              · have b1 : (pc != code) = false := by simp [hpc]
                have b2 : (pc == code) = true := by simp [hpc]
                have HW := Lib.hid (ct4 hpc)
                clear ct4 ct1 hpc
                go_wp2_with fail
                refine (HT9.out _ (HXR.out.trans HXX.out)).mono ?_; rintro e w9 ⟨rfl, hx9⟩
                have HXE := Lib.hid (HXX.out.trans hx9)
                have t0 := hx9.cells T0.out
                have t3 := hx9.cells T3.out
                clear hx9 t1 t2
                cases o
                · go_wp2
                  go_roundw
                  case rel => exact ⟨k + 1, by have := HKL.out; omega, by go_num, HXW.out.trans HXE.out⟩
                  case measure => simp [intOf] <;> omega
                · have hq := HW.out (by trivial)
                  subst hq
                  go_wp2
                  go_roundw
                  case rel => exact ⟨k + 1, by have := HKL.out; omega, by go_num, HXW.out.trans HXE.out⟩
                  case measure => simp [intOf] <;> omega
              · have b1 : (pc != code) = true := by simpa using hpc
                have b2 : (pc == code) = false := by simpa using hpc
                have hq := ct1 hpc
                subst hq
                clear ct4 hpc
                go_wp2_with fail
                refine (HT9.out _ (HXR.out.trans HXX.out)).mono ?_; rintro e w9 ⟨rfl, hx9⟩
                have HXE := Lib.hid (HXX.out.trans hx9)
                have t0 := hx9.cells T0.out
                clear hx9 t1 t2
                go_wp2
                go_roundw
                case rel => exact ⟨k + 1, by have := HKL.out; omega, by go_num, HXW.out.trans HXE.out⟩
                case measure => simp [intOf] <;> omega
          · have hkl : k = y.ps.length := by omega
            have hnk : ¬ (k : Int) < (y.ps.length : Int) := by omega
            clear hkl
            go_wp2_with fail
            go_meet
            exact HX8.out.trans hx
    case rest =>
      have HXC := Lib.hid (HX1.out.trans hcut)
      clear hcut HX1 HTT HROWC HCT HCL HF7 HQ7 HP7 HX7 HIC HCO
      obtain ⟨i0, hi, hz0, hz1, hz2⟩ := info_parts infoMark
      have HI := Lib.hid hi; have HZ0 := Lib.hid hz0; have HZ1 := Lib.hid hz1; have HZ2 := Lib.hid hz2
      clear hi hz0 hz1 hz2
      go_wp2_with fail
      refine (HD2.out _ HXC.out).mono ?_; rintro e w2 ⟨xs, mo2, xcap, rfl, hM, hx2⟩
      have hxl : xs.length ≤ 6 := hM.1
      have hxc : xs.length ≤ xcap := hM.2.1
      have hxm : xcap ≤ 9223372036854775807 := hM.2.2.1
      have HROW := Lib.hid (fun x (hx : Ext w2 x) => hM.2.2.2.row.ext hx)
      have HIN := Lib.hid (impl_NeedlessMarks (w := w2) (cap := xcap) hM.2.2.2.row (by omega))
      have HSN := Lib.hid (fun x (hx : Ext w2 x) => spec_NeedlessMarks (w := x) (cap := xcap) (hM.2.2.2.row.ext hx) (by omega))
      have hnl : (nmL xs).length ≤ 7 := by
        unfold nmL
        split
        · have := needU_len xs (max (xs.length - 1) 1); omega
        · simp
      have HVN := Lib.hid (fun x go gc go' gc' hx hx' => laws_vInts (w := x) (xs := nmL xs) (ao := go) (ac := gc) (bo := go') (bc := gc') hx hx' (by omega))
      have HNE := Lib.hid (fun i => @need_ok xs i)
      have HX2 := Lib.hid (HXC.out.trans hx2)
      clear hM hx2 HXC HD2
      generalize nmL xs = N at HIN HSN HVN HNE hnl
      generalize marksB xs = MB at HIN HSN
      go_wp2_with fail
      refine HIN.out.mono ?_; rintro e w3 ⟨go3, g3, rfl, hx3, hF3⟩
      have HX3 := Lib.hid hx3
      have HF3 := Lib.hid hF3.row
      clear hx3 hF3 HIN
      go_wp2_with fail
      refine (HSN.out _ HX3.out).mono ?_; rintro e w4 ⟨go4, g4, rfl, hx4, hF4⟩
      have HV4 := Lib.hid (HVN.out _ go3 g3 go4 g4 (HF3.out.ext hx4) hF4.row)
      have HX4 := Lib.hid (HX3.out.trans hx4)
      have HF4 := Lib.hid (HF3.out.ext hx4)
      clear hx4 hF4 HSN HX3 HF3 HVN
      go_wp2_with fail
      refine HV4.out.mono ?_; rintro e w5 ⟨rfl, hx5⟩
      have HX5 := Lib.hid (HX4.out.trans hx5)
      have HF5 := Lib.hid (HF4.out.ext hx5)
      clear hx5 HV4 HX4 HF4
      go_wp2
      go_loopw [24] (fun i wr => ∃ k : Nat, k ≤ N.length ∧ i = .int .i64 k ∧ Ext w5 wr) (fun i _ => N.length - (intOf i).toNat)
      case atStart => exact ⟨0, by omega, rfl, Ext.refl _⟩
      case round =>
        obtain ⟨k, hk, rfl, hx⟩ := hrel
        by_cases hlt : k < N.length
        · obtain ⟨nb, noff, rfl, hcell⟩ := ints_at' HF5.out (by omega)
          have d0 := hx.cells (hcell k hlt)
          obtain ⟨q, hq, hq1, hq2, hq3, hq4, hq5⟩ := HNE.out k hlt
          rw [hq] at d0
          obtain ⟨xb, xoff, rfl, hxcell⟩ := HROW.out _ (HX5.out.trans hx) (by omega)
          have d1 : wr.cell? ⟨xb, xoff + q * 2, none⟩ = some (.int .i64 (nth xs q).shown) := hxcell q (by omega) 0 (by decide)
          have d2 : wr.cell? ⟨xb, xoff + q * 2 + 1, none⟩ = some (.int .i64 (nth xs q).real) := hxcell q (by omega) 1 (by decide)
          have hxbl := World.block_lt_of_cell? _ _ d1
          obtain ⟨T1, hT1⟩ : ∃ T1, T1 = xs.take q := ⟨_, rfl⟩
          obtain ⟨T2, hT2⟩ : ∃ T2, T2 = xs.drop (q + 1) := ⟨_, rfl⟩
          obtain ⟨LL, hLL⟩ : ∃ LL, LL = T1 ++ T2 := ⟨_, rfl⟩
          have hl1 : q = T1.length := by rw [hT1]; simp; omega
          have hl2 : xs.length - (q + 1) = T2.length := by rw [hT2]; simp
          have hlm : LL = lessM xs q := by rw [hLL, hT1, hT2]; rfl
          have hr1 : RowAt ((wr.alloc (.cells #[] 30)).drew) (some ⟨xb, xoff, none⟩) 2 T1.length (fun j => (nth T1 j).c) := fun h0 => ⟨xb, xoff, rfl, fun j hj i hi => by
            have := hxcell j (by omega) i hi
            show _ = some ((nth T1 j).c i)
            rw [show nth T1 j = nth xs j by rw [hT1]; simp only [nth, List.getD]; rw [List.getElem?_take_of_lt (by omega)]]
            exact (((Ext.refl wr).alloc _).drew).cells this⟩
          have hr2 : RowAt wr (some ⟨xb, xoff + (q + 1) * 2, none⟩) 2 T2.length (fun j => (nth T2 j).c) := fun h0 => ⟨xb, _, rfl, fun j hj i hi => by
            have := hxcell (q + 1 + j) (by omega) i hi
            show _ = some ((nth T2 j).c i)
            rw [show nth T2 j = nth xs (q + 1 + j) by rw [hT2]; simp [nth, List.getD]]
            rw [show xoff + (q + 1) * 2 + j * 2 + i = xoff + (q + 1 + j) * 2 + i by omega]
            exact this⟩
          have HR1 := Lib.hid hr1
          have HR2 := Lib.hid (hr2.ext ((Ext.refl wr).alloc (.cells #[] 30)).drew)
          have HLE1 := Lib.hid hl1; have HLE2 := Lib.hid hl2
          have HLL := Lib.hid hLL
          have HT11 : Hid (T1 = [] ++ T1) := Lib.hid rfl
          rw [← hlm] at hq3 hq5
          have hll6 : LL.length ≤ 6 := hq3
          have HG := Lib.hid hq5; have HI64 := Lib.hid hq4
          have HXR := Lib.hid (HX5.out.trans hx)
          have HXW := Lib.hid hx
          have HKL := Lib.hid hlt
          have hq6 : q ≤ 6 := by omega
          have hT16 : T1.length ≤ 6 := by omega
          have hT26 : T2.length ≤ 6 := by omega
          have HOWN := Lib.hid ((Owns.start' (e := 30) (s := 2) (cc := Mark.c) (Nat.le_refl wr.heap.size)).ext' (Ext.refl _).drew)
          have hk0 : (0 : Int) ≤ (k : Int) := by omega
          have hk1 : (k : Int) < (N.length : Int) := by omega
          have hq0 : (0 : Int) ≤ (q : Int) := by omega
          have hq7 : (q : Int) ≤ (xcap : Int) := by omega
          have hq8 : (0 : Int) ≤ (q : Int) + 1 := by omega
          have hq9 : (q : Int) + 1 ≤ (xs.length : Int) := by omega
          have hq10 : (q : Int) < (xs.length : Int) := by omega
          have hq11 : (xs.length : Int) ≤ (xcap : Int) := by omega
          have hq12 : ¬ xcap = q + 1 := by omega
          have hq13 : ((q : Int) + 1).toNat = q + 1 := by omega
          have hqw : IntKind.i64.wrap ((q : Int) + 1) = (q : Int) + 1 := IntWalk.i64_in _ (by omega)
          clear hcell hxcell hq hq1 hq2 hq3 hq4 hq5 hT1 hT2 hLL hl1 hl2 hlm hr1 hr2 hx
          go_wp2
          go_region_law (first
            | (refine step_append_bf (o := ⟨some 195, _, _, _, _, _⟩) (by rfl) _ _ 26 (by rfl) 30 i0 _ 2 16 Try.underlying26 HI.out HZ0.out HZ1.out HZ2.out rfl (by decide) Mark.c mark_cells wr.heap.size (by simp) (.slice (some ⟨wr.heap.size, 0, none⟩) 0 0) [] T1 T1 HT11 (by rfl) HOWN.out ⟨xb, xoff, none⟩ q xcap (by rfl) HLE1.out HR1.out (by simp; omega) (by simp; omega) ?_; intro go1 gc1 w6 ho1 hb1 hg1 hv1; have hs6 := hb1.size)
            | (refine step_append_bf (o := ⟨some 200, _, _, _, _, _⟩) (by rfl) _ _ 26 (by rfl) 30 i0 _ 2 16 Try.underlying26 HI.out HZ0.out HZ1.out HZ2.out rfl (by decide) Mark.c mark_cells wr.heap.size (by simp at hs6; omega) (.slice go1 T1.length gc1) T1 T2 LL HLL (by rfl) ho1 ⟨xb, xoff + (q + 1) * 2, none⟩ (xs.length - (q + 1)) (xcap - (q + 1)) (by rfl) HLE2.out (row_below HR2.out hb1 (fun a e => by injection e with e; subst e; exact hxbl)) (by omega) (by omega) ?_; intro go2 gc2 w7 ho2 hb2 hg2 hv2))
          all_goals
            clear hqw
            have hxq : Ext wr w7 := Ext.below (Ext.below (((Ext.refl wr).alloc (.cells #[] 30)).drew) hb1 (Nat.le_refl _)) hb2 (Nat.le_refl _)
            have d3 := hxq.cells d1
            have d4 := hxq.cells d2
            have dl := World.block_lt_of_cell? _ _ d3
            obtain ⟨go9, gc9, e9, hF9, _⟩ := ho2.fresh
            injection e9 with e1 e2 e3
            subst e1
            have HT := Lib.hid (impl_TrueTime (w := w7) (ao := go2) (cap := gc2) (ms := LL) (t := (nth xs q).shown) hF9.row (by omega) HI64.out)
            rw [HG.out] at HT
            have HXQ := Lib.hid hxq
            clear hxq hF9 e2 e3 ho1 ho2 hb1 hb2 hg1 hg2 hv1 hv2 HR1 HR2 HOWN d0 d1 d2
            go_wp2_with fail
            refine HT.out.mono ?_; rintro e w8 ⟨rfl, hx8⟩
            have d4 := hx8.cells d4
            have HX8 := Lib.hid (HXW.out.trans (HXQ.out.trans hx8))
            clear hx8 HT d3
            go_wp2
            go_roundw
            case rel => exact ⟨k + 1, by have := HKL.out; omega, by go_num, HX8.out⟩
            case measure => simp [intOf] <;> omega
        · have hnk : ¬ (k : Int) < (N.length : Int) := by omega
          go_wp2
          go_ret
          exact ⟨rfl, HX2.out.trans (HX5.out.trans hx)⟩

set_option maxRecDepth 100000 in
theorem lifted (os : Os) (started : os.Started) (H : Type) (enc : TypeId × Value → H) :
    ReturnsInHanded {} Try.checked os 7 .any (Rows.fnCorrectionsSpec.pre6 enc Try.prog Try.f7 Rows.fnCorrectionsRow.domain false) (Rows.fnCorrectionsSpec.post enc Try.prog Try.f7 false true false false) := by
  refine returnsInHanded_of_change (C := Try.checked) (by kernel_rfl) started (by kernel_rfl) Try.func7
    (ChangeSpec.witness6 (enc := enc) (C := Try.checked) false ⟨#[], #[.slice none 0 0], []⟩ 8 (by kernel_rfl) (by kernel_rfl) (by kernel_rfl) (by kernel_rfl)) ?_
  intro W base args ds gs before hval0 hW _ _
  have hval : ∀ (j : Nat) t v, Try.f7.params[j]? = some t → args[j]? = some v → Value.okWide Try.prog W .any base t v := hval0
  have hW' := hW
  obtain ⟨p, q, hA0, hV, rfl, hfz, hnd⟩ := hW
  have hA : DataW.TrodAll enc Try.prog W 0 (fun _ => true) true Try.f7.params.toList args.toList ds p := hA0
  rw [Try.params7] at hA hval
  obtain ⟨v0, vs0, d0, ds0, p0, q0, hargs, rfl, rfl, h0, r0⟩ := trodAll_cons hA
  obtain ⟨rfl, rfl, rfl⟩ := trodAll_nil r0
  obtain rfl : args = #[v0] := by cases args; simp_all
  obtain ⟨rfl, rfl⟩ := trodVars_none hV
  obtain ⟨ao0, cap0, m0, bs0, rfl, hl0, hr0, hw0⟩ := open_ByteS (hval 0 53 v0 rfl rfl) h0
  refine (walk hr0 hl0 hw0).mono fun e W' ⟨he, hx⟩ => ?_
  subst he
  exact ⟨_, rfl, law_post (by kernel_rfl) (by kernel_rfl) Try.underlying4 rfl rfl hW' rfl hx⟩

theorem holds : Rows.FnCorrectionsSaid :=
  OpenClaim.holds_of_wide 7 Try.f7 rfl rfl rfl rfl rfl rfl rfl ⟨rfl, rfl, rfl, rfl, rfl⟩ rfl rfl rfl rfl rfl (by kernel_rfl) Try.func7 (by kernel_rfl)
    (of_decide_eq_true (by kernel_rfl)) (by unfold Func.isWrapper; first | (rw [if_pos (by decide +kernel)]; kernel_rfl) | (rw [if_neg (by decide +kernel)]; exact ⟨rfl, rfl⟩))
    (fun os started H enc _ => lifted os started H enc)

end Go.Proofs.Ytfbmablfolknpaa.FnCorrections
