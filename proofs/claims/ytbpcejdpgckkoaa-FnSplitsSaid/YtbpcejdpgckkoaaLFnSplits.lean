/-
  Proved here: the law FnSplits answers true for every input and leaves its arguments as they were.
  Conditions: none.
-/
import Derived.Test.YtbpcejdpgckkoaaSplits1
import Derived.Test.YtbpcejdpgckkoaaDrawC
import Derived.Test.YtbpcejdpgckkoaaVCard
import Derived.Test.YtbpcejdpgckkoaaCards2
import Derived.Test.YtbpcejdpgckkoaaCards7
import Derived.Test.YtbpcejdpgckkoaaCards9
import Derived.Test.YtbpcejdpgckkoaaCards10
import Derived.Test.YtbpcejdpgckkoaaCards11
import Derived.Test.YtbpcejdpgckkoaaTByteS
import Derived.Deep.RegionWith
import Derived.IntWalk
import Derived.Deep.DeepCutAuto
namespace Go.Proofs.Ytbpcejdpgckkoaa.FnSplits
open Go.ChangeShapes Go.WideShapes Go.ChangeAt Go.RowKit

theorem run_shape (c : CardD) : ∃ (r : Int) (b : Bool), gRun c = .tuple #[.int .i64 r, .bool b] ∧ (cardB c = true → b = true → c.finish ≠ -1 ∧ r = c.finish - c.start) := by
  unfold gRun
  split
  · rename_i h
    simp only [Bool.and_eq_true, bne_iff_ne] at h
    exact ⟨_, _, rfl, fun _ _ => ⟨h.2, rfl⟩⟩
  · exact ⟨_, _, rfl, fun _ hb => by cases hb⟩

theorem most_shape (c : CardD) (cs : List Int) : ∃ (r : Nat) (b : Bool), gMost c cs = .tuple #[.int .i64 r, .bool b] ∧ (b = true → askB c cs = true ∧ r = lcsB cs (pco c) 0 0) ∧ (askB c cs = true → b = true) ∧ r ≤ cs.length := by
  unfold gMost
  split
  · rename_i h
    exact ⟨_, _, rfl, fun _ => ⟨h, rfl⟩, fun _ => rfl, lcsB_le _ _ _ _⟩
  · rename_i h
    exact ⟨0, false, rfl, (fun hb => by cases hb), (fun hb => absurd hb h), by omega⟩
theorem drop_row {ab aoff : Nat} {cs : List Int} {w : World} (h : RowAt w (some ⟨ab, aoff, none⟩) 1 cs.length (ic cs)) : RowAt w (some ⟨ab, aoff + 1, none⟩) 1 (cs.length - 1) (ic (cs.drop 1)) := fun h0 => by
  obtain ⟨b, off, e, H⟩ := h (by omega)
  injection e with e; injection e with e1 e2; subst e1 e2
  refine ⟨_, _, rfl, fun k hk j hj => ?_⟩
  have := H (1 + k) (by omega) j hj
  show _ = some (ic (cs.drop 1) k j)
  simp only [ic, nth_drop] at this ⊢
  rw [show aoff + 1 + k * 1 + j = aoff + (1 + k) * 1 + j by omega]
  exact this

set_option maxRecDepth 100000 in
set_option maxHeartbeats 8000000 in
theorem walk {co : Option Addr} {cc m : Nat} {bs : Nat → Nat} {w : World} (hr : RowAt w co 1 m (by8 bs)) (hm : m ≤ 9223372036854775807) (hb : ∀ k, bs k < 256) :
    Calls Try.prog 9 #[.slice co m cc] w fun e w' => e = .returned (.bool true) ∧ Ext w w' := by
  by_cases hbig : 65536 < m
  · go_enter Try.func9, Try.ntmps9
    go_wp2_with fail
    refine (laws_vBig hm).mono ?_; rintro e w1 ⟨rfl, rfl⟩
    rw [show decide (65536 < m) = true by simpa using hbig]
    go_wp2
    go_ret
    exact ⟨rfl, (by repeat (first | (with_reducible exact Ext.refl _) | (with_reducible assumption) | with_reducible refine Ext.drew ?_ | with_reducible refine Ext.alloc ?_ _ | with_reducible refine Ext.setCell ?_ (by first | (simp; done) | (simp; omega) | omega) _ | with_reducible refine Ext.trans ?_ (by with_reducible assumption)))⟩
  · have HD1 := Lib.hid (draw_split (cc := cc) hr hb hm)
    have HD2 := Lib.hid (fun x (hx : Ext w x) => draw_merge (cc := cc) (hr.ext hx) hb hm)
    have HD3 := Lib.hid (fun x (hx : Ext w x) => draw_run (cc := cc) (hr.ext hx) hb hm)
    have HD4 := Lib.hid (fun x (hx : Ext w x) => draw_most (cc := cc) (hr.ext hx) hb hm)
    have HV := Lib.hid (laws_vBig (ao := co) (cap := cc) (w := w) hm)
    have HBIG : Hid (decide (65536 < m) = false) := Lib.hid (by simpa using hbig)
    clear hr hb hbig hm
    go_enter Try.func9, Try.ntmps9
    go_wp2_with fail
    refine HV.out.mono ?_; rintro e w1 ⟨rfl, rfl⟩
    rw [HBIG.out]
    go_wp2_with fail
    refine HD1.out.mono ?_; rintro e w1 ⟨c, b, off, gc, cs, ao, cap, rfl, hD, hI, hx1⟩
    have HIM := Lib.hid (fun x (hx : Ext w1 x) => impl_SplitTimes (w := x) (cap := gc) (bcap := cap) (hD.2.2.2.2.row.ext hx) ⟨hD.2.2.1, hD.2.2.2.1⟩ (hI.2.2.2.row.ext hx) (by have := hI.1; omega))
    have HSP := Lib.hid (fun x (hx : Ext w1 x) => spec_SplitTimes (w := x) (cap := gc) (bcap := cap) (hD.2.2.2.2.row.ext hx) ⟨hD.2.2.1, hD.2.2.2.1⟩ (hI.2.2.2.row.ext hx) (by have := hI.1; omega))
    have HRT := Lib.hid (fun x (hx : Ext w1 x) => impl_RunTime (w := x) (cap := gc) (hD.2.2.2.2.row.ext hx) (by have := hD.1; omega))
    have HSL := Lib.hid (spL_len c cs)
    have HSO := Lib.hid (@split_ok c cs)
    have HX1 := Lib.hid hx1
    have HA1 := Lib.hid ((Ext.refl w1).alloc (.cells #[.int .i64 c.number, .int .i64 c.start, .int .i64 c.finish, .slice (some ⟨b, off, none⟩) c.ps.length gc] 31))
    clear hD hI hx1 HD1 HV HBIG
    unfold CardD.val at HIM HSP HRT ⊢
    obtain ⟨r1, o1, hr1, hr2⟩ := run_shape c
    rw [hr1] at HRT
    clear hr1
    have hsB : spB c cs = true → cardB c = true := fun h => by simp only [spB, askB, Bool.and_eq_true] at h; exact h.1.1
    have HRS : Hid (spB c cs = true → o1 = true → c.finish ≠ -1 ∧ r1 = c.finish - c.start) := Lib.hid (fun h => hr2 (hsB h))
    clear hr2 hsB
    generalize spL c cs = L at HIM HSP HSL HSO
    generalize spB c cs = B at HIM HSP HSO HRS
    go_wp2_with fail
    refine (HIM.out _ HA1.out).mono ?_; rintro e w2 ⟨go, g2, rfl, hx2, hF2⟩
    obtain ⟨q0, q1, q2, q3⟩ := Box4.of hx2
    have ql := World.block_lt_of_cell? _ _ q0
    have HX2 := Lib.hid (HA1.out.trans hx2)
    clear hx2
    go_wp2_with fail
    refine (HSP.out _ HX2.out).mono ?_; rintro e w3 ⟨go', g3, rfl, hx3, hF3⟩
    obtain ⟨q0, q1, q2, q3⟩ := Box4.ext ⟨q0, q1, q2, q3⟩ hx3
    have ql := World.block_lt_of_cell? _ _ q0
    have HX3 := Lib.hid (HX2.out.trans hx3)
    have hF2 := hF2.ext hx3
    have HR2 := Lib.hid hF2.row
    have HVI := Lib.hid (laws_vInts (ac := g2) (bc := g3) hF2.row hF3.row (by have := HSL.out; omega))
    clear hx3 hF3 hF2
    go_wp2_with fail
    refine HVI.out.mono ?_; rintro e w4 ⟨rfl, hx4⟩
    have HX4 := Lib.hid (HX3.out.trans hx4)
    have HQ4 := Lib.hid (Box4.ext ⟨q0, q1, q2, q3⟩ hx4)
    have HE34 := Lib.hid hx4
    clear hx4 HVI q0 q1 q2 q3 ql
    go_upto_if 60 with fail
    go_cut [] (fun wc => Ext w1 wc)
    case first =>
      cases B
      · go_wp2_with fail
        go_meet
        exact HX4.out
      · obtain ⟨q0, q1, q2, q3⟩ := HQ4.out
        have ql := World.block_lt_of_cell? _ _ q0
        go_wp2_with fail
        refine (HRT.out _ HX4.out).mono ?_; rintro e w5 ⟨rfl, hx5⟩
        have hso := HSO.out (by trivial)
        have hll := hso.1
        have HSO2 := Lib.hid hso.2
        have hsl := HSL.out
        have HX5 := Lib.hid (HX4.out.trans hx5)
        have HR5 := Lib.hid ((HR2.out.ext HE34.out).ext hx5)
        have HRS2 := Lib.hid (HRS.out (by trivial))
        rw [← hll] at HSO2
        have HSL2 : Hid (L.length ≤ 12) := Lib.hid HSL.out
        clear hso hll HSO HSL HRS hx5 HQ4 HX4 HE34 HR2 HRT HSP HIM q0 q1 q2 q3 ql
        go_wp2
        go_loopw [11] (fun i wr => ∃ k : Nat, k ≤ L.length ∧ i = .int .i64 k ∧ Ext w5 wr) (fun i _ => L.length - (intOf i).toNat)
        case atStart => exact ⟨0, by omega, rfl, Ext.refl _⟩
        case round =>
          obtain ⟨k, hk, rfl, hx⟩ := hrel
          by_cases hlt : k < L.length
          · obtain ⟨lb, loff, rfl, hcell⟩ := ints_at' HR5.out (by omega)
            have d0 := hx.cells (hcell k hlt)
            have hs := HSO2.out k hlt
            have hk0 : (0 : Int) ≤ (k : Int) := by omega
            have hk1 : (k : Int) < (L.length : Int) := by omega
            have t0 : decide (nth L k < 0) = false := by have := hs.1; simpa using this
            have HD0 : Hid (nth L k = nth L k) := Lib.hid rfl
            by_cases hz : k = 0
            · have t1 : decide (0 < k) = false := by simp; omega
              clear hz
              cases o1
              · clear hcell hs
                go_wp2
                go_quiet (fail)
                go_wp2
                go_roundw
                case rel => exact ⟨k + 1, by omega, by go_num, hx.trans (Ext.drewQ _ _)⟩
                case measure => simp [intOf] <;> omega
              · have hq := HRS2.out (by trivial)
                have t3 : decide (r1 < nth L k) = false := by have h1 := hs.2.2 hq.1; have h2 := hq.2; simp; omega
                clear hcell hs hq
                go_wp2
                go_quiet (fail)
                go_wp2
                go_roundw
                case rel => exact ⟨k + 1, by omega, by go_num, hx.trans (Ext.drewQ _ _)⟩
                case measure => simp [intOf] <;> omega
            · have t1 : decide (0 < k) = true := by simp; omega
              have d1 := hx.cells (hcell (k - 1) (by omega))
              have hk2 : (0 : Int) ≤ (k : Int) - 1 := by omega
              have hk3 : (k : Int) - 1 < (L.length : Int) := by omega
              have hk4 : ((k : Int) - 1).toNat = k - 1 := by omega
              have hk5 : IntKind.i64.wrap ((k : Int) - 1) = (k : Int) - 1 := IntWalk.i64_in _ (by have := HSL2.out; omega)
              have t2 : decide (nth L k < nth L (k - 1)) = false := by have := hs.2.1 (by omega); simp; omega
              clear hz
              cases o1
              · clear hcell hs
                go_wp2
                go_quiet (fail)
                go_wp2
                go_roundw
                case rel => exact ⟨k + 1, by omega, by go_num, hx.trans (Ext.drewQ _ _)⟩
                case measure => simp [intOf] <;> omega
              · have hq := HRS2.out (by trivial)
                have t3 : decide (r1 < nth L k) = false := by have h1 := hs.2.2 hq.1; have h2 := hq.2; simp; omega
                clear hcell hs hq
                go_wp2
                go_quiet (fail)
                go_wp2
                go_roundw
                case rel => exact ⟨k + 1, by omega, by go_num, hx.trans (Ext.drewQ _ _)⟩
                case measure => simp [intOf] <;> omega
          · have hki : ¬ (k : Int) < (L.length : Int) := by omega
            go_wp2_with fail
            go_meet
            exact HX5.out.trans hx
    case rest =>
      have HXC := Lib.hid hcut
      clear hcut
      go_wp2_with fail
      refine (HD2.out _ (HX1.out.trans HXC.out)).mono ?_; rintro e w2 ⟨c2, b2, off2, gc2, rfl, hD, hx2⟩
      have hl12 : c2.ps.length ≤ 9223372036854775807 := by have := hD.1; omega
      have HIM2 := Lib.hid (fun x (hx : Ext w2 x) => impl_MergeRepeats (w := x) (cap := gc2) (hD.2.2.2.2.row.ext hx) hl12)
      have HSP2 := Lib.hid (fun x (hx : Ext w2 x) => spec_MergeRepeats (w := x) (cap := gc2) (hD.2.2.2.2.row.ext hx) hl12)
      have HMO := Lib.hid (@merge_ok c2)
      have hml : (mrC c2).ps.length ≤ 9223372036854775807 := by have := mrC_len c2; omega
      have HAG := Lib.hid (fun x go gc (hx : RowAt x go 2 (mrC c2).ps.length (fun k => (nth (mrC c2).ps k).c)) => impl_MergeRepeats (w := x) (cap := gc) hx hml)
      have HVC := Lib.hid (fun x go gc go' gc' hx hx' => laws_vCard (w := x) (c := mrC c2) (ao := go) (ac := gc) (bo := go') (bc := gc') hx hx' hml)
      have HX2 := Lib.hid ((HX1.out.trans HXC.out).trans hx2)
      have HA2 := Lib.hid ((Ext.refl w2).alloc (.cells #[.int .i64 c2.number, .int .i64 c2.start, .int .i64 c2.finish, .slice (some ⟨b2, off2, none⟩) c2.ps.length gc2] 31))
      clear hD hx2 hl12 HD2 HSO HSL HRS HIM HSP HRT HX3 HX4 HQ4 HE34 HR2 HXC hml hF2 q0 q1 q2 q3 ql HA1
      generalize mrC c2 = y at HIM2 HSP2 HMO HAG HVC
      generalize cardB c2 = B2 at HIM2 HSP2 HMO
      unfold CardD.val at HIM2 HSP2 HAG HVC ⊢
      go_wp2_with fail
      refine (HIM2.out _ HA2.out).mono ?_; rintro e w3 ⟨go3, g3, rfl, hx3, hF3⟩
      obtain ⟨q0, q1, q2, q3⟩ := Box4.of hx3
      have ql := World.block_lt_of_cell? _ _ q0
      have HX3 := Lib.hid (HA2.out.trans hx3)
      have HA3 := Lib.hid ((Ext.refl w3).alloc (.cells #[.int .i64 y.number, .int .i64 y.start, .int .i64 y.finish, .slice go3 y.ps.length g3] 31))
      have HF3 := Lib.hid hF3.row
      clear hx3 hF3 HIM2 HA2
      go_wp2_with fail
      refine (HSP2.out _ (HX3.out.trans HA3.out)).mono ?_; rintro e w4 ⟨go4, g4, rfl, hx4, hF4⟩
      obtain ⟨q0, q1, q2, q3⟩ := Box4.ext ⟨q0, q1, q2, q3⟩ (HA3.out.trans hx4)
      have ql := World.block_lt_of_cell? _ _ q0
      obtain ⟨p0, p1, p2, p3⟩ := Box4.of hx4
      have pl := World.block_lt_of_cell? _ _ p0
      have HX4 := Lib.hid (HX3.out.trans (HA3.out.trans hx4))
      have HA4 := Lib.hid ((Ext.refl w4).alloc (.cells #[.int .i64 y.number, .int .i64 y.start, .int .i64 y.finish, .slice go4 y.ps.length g4] 31))
      have HF34 := Lib.hid (HF3.out.ext (HA3.out.trans hx4))
      have HF4 := Lib.hid hF4.row
      clear hx4 hF4 HSP2 HA3 HF3 HX3
      go_wp2_with fail
      refine (HVC.out _ _ g3 _ g4 (HF34.out.ext HA4.out) (HF4.out.ext HA4.out)).mono ?_; rintro e w5 ⟨rfl, hx5⟩
      have HQ5 := Lib.hid (Box4.ext ⟨q0, q1, q2, q3⟩ (HA4.out.trans hx5))
      have HP5 := Lib.hid (Box4.ext ⟨p0, p1, p2, p3⟩ (HA4.out.trans hx5))
      have HX5 := Lib.hid (HX4.out.trans (HA4.out.trans hx5))
      have HF5 := Lib.hid (HF34.out.ext (HA4.out.trans hx5))
      clear hx5 HF34 HF4 HX4 HA4 q0 q1 q2 q3 ql p0 p1 p2 p3 pl
      go_upto_if 125 with fail
      go_cut [] (fun wc => Ext w2 wc)
      case first =>
        cases B2
        · go_wp2_with fail
          go_meet
          exact HX5.out
        · have hmo := HMO.out (by trivial)
          simp only [hmo.1, hmo.2.1] at HAG
          have HLE := Lib.hid hmo.2.2
          clear hmo HMO
          obtain ⟨q0, q1, q2, q3⟩ := HQ5.out
          have ql := World.block_lt_of_cell? _ _ q0
          obtain ⟨p0, p1, p2, p3⟩ := HP5.out
          have pl := World.block_lt_of_cell? _ _ p0
          go_wp2_with fail
          refine (HAG.out _ go3 g3 HF5.out).mono ?_; rintro e w6 ⟨go6, g6, rfl, hx6, hF6⟩
          have HA6 := Lib.hid ((Ext.refl w6).alloc (.cells #[.int .i64 y.number, .int .i64 y.start, .int .i64 y.finish, .slice go6 y.ps.length g6] 31))
          obtain ⟨q0, q1, q2, q3⟩ := Box4.ext ⟨q0, q1, q2, q3⟩ hx6
          have ql := World.block_lt_of_cell? _ _ q0
          obtain ⟨p0, p1, p2, p3⟩ := Box4.ext ⟨p0, p1, p2, p3⟩ hx6
          have pl := World.block_lt_of_cell? _ _ p0
          have HX6 := Lib.hid (HX5.out.trans hx6)
          have HF6 := Lib.hid (hF6.row.ext HA6.out)
          have HF56 := Lib.hid ((HF5.out.ext hx6).ext HA6.out)
          clear hx6 hF6 HF5 HX5 HQ5 HP5 HAG
          go_wp2_with fail
          refine (HVC.out _ _ g6 _ g3 HF6.out HF56.out).mono ?_; rintro e w7 ⟨rfl, hx7⟩
          obtain ⟨q0, q1, q2, q3⟩ := Box4.ext ⟨q0, q1, q2, q3⟩ (HA6.out.trans hx7)
          have ql := World.block_lt_of_cell? _ _ q0
          obtain ⟨p0, p1, p2, p3⟩ := Box4.ext ⟨p0, p1, p2, p3⟩ (HA6.out.trans hx7)
          have pl := World.block_lt_of_cell? _ _ p0
          have HX7 := Lib.hid (HX6.out.trans (HA6.out.trans hx7))
          have hle : ¬ (c2.ps.length : Int) < (y.ps.length : Int) := by have := HLE.out; omega
          clear hx7 HF6 HF56 HA6 HX6
          go_wp2_with fail
          go_meet
          exact HX7.out
      case rest =>
        have HXD := Lib.hid (HX2.out.trans hcut)
        clear hcut
        clear HX2 HX1 HMO HVC HAG HQ5 HP5 HF5 HX5
        go_wp2_with fail
        refine (HD3.out _ HXD.out).mono ?_; rintro e w3 ⟨c3, b3, off3, gc3, rfl, hD, hx3⟩
        have hl12 : c3.ps.length ≤ 9223372036854775807 := by have := hD.1; omega
        have HIM3 := Lib.hid (fun x (hx : Ext w3 x) => impl_RunTime (w := x) (cap := gc3) (hD.2.2.2.2.row.ext hx) hl12)
        have HSP3 := Lib.hid (fun x (hx : Ext w3 x) => spec_RunTime (w := x) (cap := gc3) (hD.2.2.2.2.row.ext hx) hl12)
        have HX3 := Lib.hid (HXD.out.trans hx3)
        have HA3 := Lib.hid ((Ext.refl w3).alloc (.cells #[.int .i64 c3.number, .int .i64 c3.start, .int .i64 c3.finish, .slice (some ⟨b3, off3, none⟩) c3.ps.length gc3] 31))
        obtain ⟨r3, o3, hr3, _⟩ := run_shape c3
        rw [hr3] at HIM3 HSP3
        clear hD hx3 hl12 HD3 HXD hr3
        unfold CardD.val at HIM3 HSP3 ⊢
        go_wp2_with fail
        refine (HIM3.out _ HA3.out).mono ?_; rintro e w4 ⟨rfl, hx4⟩
        obtain ⟨q0, q1, q2, q3⟩ := Box4.of hx4
        have ql := World.block_lt_of_cell? _ _ q0
        have HX4 := Lib.hid (HA3.out.trans hx4)
        clear hx4 HA3 HIM3
        go_wp2_with fail
        refine (HSP3.out _ HX4.out).mono ?_; rintro e w5 ⟨rfl, hx5⟩
        have HX5 := Lib.hid (HX3.out.trans (HX4.out.trans hx5))
        clear hx5 HX3 HX4 HSP3 q0 q1 q2 q3 ql
        go_wp2_with fail
        refine (HD4.out _ HX5.out).mono ?_; rintro e w6 ⟨c6, b6, off6, gc6, cs6, ao6, cap6, rfl, hD, hI, hx6⟩
        have hl6 : c6.ps.length ≤ gc6 ∧ gc6 ≤ 9223372036854775807 := ⟨hD.2.2.1, hD.2.2.2.1⟩
        have hl14 : cs6.length ≤ 1048576 := by have := hI.1; omega
        have HIM6 := Lib.hid (fun x (hx : Ext w6 x) => impl_MostFound (w := x) (cap := gc6) (bcap := cap6) (hD.2.2.2.2.row.ext hx) hl6 (hI.2.2.2.row.ext hx) hl14)
        have HSP6 := Lib.hid (fun x (hx : Ext w6 x) => spec_MostFound (w := x) (cap := gc6) (bcap := cap6) (hD.2.2.2.2.row.ext hx) hl6 (hI.2.2.2.row.ext hx) hl14)
        have HTL := Lib.hid (fun x ab aoff acap (hx : Ext w6 x) hy => impl_MostFound (w := x) (c := c6) (b0 := b6) (off0 := off6) (cap := gc6) (cs := cs6.drop 1) (bo := some ⟨ab, aoff + 1, none⟩) (bcap := acap) (hD.2.2.2.2.row.ext hx) hl6 hy (by rw [List.length_drop]; omega))
        have HTL0 := Lib.hid (fun x ao acap (hx : Ext w6 x) hy => impl_MostFound (w := x) (c := c6) (b0 := b6) (off0 := off6) (cap := gc6) (cs := cs6.drop 1) (bo := ao) (bcap := acap) (hD.2.2.2.2.row.ext hx) hl6 hy (by rw [List.length_drop]; omega))
        have HTM := Lib.hid (@most_tail c6 cs6)
        obtain ⟨m6, o6, hm6, hm7, _, hm9⟩ := most_shape c6 cs6
        obtain ⟨n6, p6, hn6, hn7, hn8, hn9⟩ := most_shape c6 (cs6.drop 1)
        rw [hm6] at HIM6 HSP6
        rw [hn6] at HTL HTL0
        rw [List.length_drop] at HTL HTL0
        have HFIN : Hid (o6 = true → 0 < cs6.length → p6 = true ∧ n6 ≤ m6 ∧ m6 ≤ n6 + 1) := Lib.hid (fun h1 h2 => by
          obtain ⟨a1, a2⟩ := hm7 h1
          obtain ⟨t1, t2, t3⟩ := HTM.out a1 h2
          have hp := hn8 t1
          obtain ⟨_, b2⟩ := hn7 hp
          exact ⟨hp, by rw [a2, b2]; exact t2, by rw [a2, b2]; exact t3⟩)
        have HROW6 := Lib.hid hI.2.2.2.row
        have hcap1 : cs6.length ≤ cap6 := hI.2.1
        have hcap2 : cap6 ≤ 9223372036854775807 := hI.2.2.1
        have hm14 : m6 ≤ 14 := by have := hI.1; omega
        have hn14 : n6 ≤ 14 := by have := hI.1; rw [List.length_drop] at hn9; omega
        have HX6 := Lib.hid (HX5.out.trans hx6)
        have HA6 := Lib.hid ((Ext.refl w6).alloc (.cells #[.int .i64 c6.number, .int .i64 c6.start, .int .i64 c6.finish, .slice (some ⟨b6, off6, none⟩) c6.ps.length gc6] 31))
        clear hD hI hx6 hl6 hl14 HD4 HX5 hm6 hm7 hn6 hn7 hn8 hm9 hn9 HTM
        unfold CardD.val at HIM6 HSP6 HTL HTL0 ⊢
        go_wp2_with fail
        refine (HIM6.out _ HA6.out).mono ?_; rintro e w7 ⟨rfl, hx7⟩
        obtain ⟨q0, q1, q2, q3⟩ := Box4.of hx7
        have ql := World.block_lt_of_cell? _ _ q0
        have HX7 := Lib.hid (HA6.out.trans hx7)
        clear hx7 HA6 HIM6
        go_wp2_with fail
        refine (HSP6.out _ HX7.out).mono ?_; rintro e w8 ⟨rfl, hx8⟩
        obtain ⟨q0, q1, q2, q3⟩ := Box4.ext ⟨q0, q1, q2, q3⟩ hx8
        have ql := World.block_lt_of_cell? _ _ q0
        have HX8 := Lib.hid (HX7.out.trans hx8)
        clear hx8 HX7 HSP6
        cases o6
        · clear HFIN q0 q1 q2 q3 ql
          go_wp2
          go_ret
          exact ⟨rfl, HX6.out.trans HX8.out⟩
        · by_cases hpos : 0 < cs6.length
          · have hfin := HFIN.out (by trivial) hpos
            obtain ⟨rfl, hf1, hf2⟩ := hfin
            obtain ⟨ab, aoff, rfl, _⟩ := ints_at' HROW6.out hpos
            have hpi : (1 : Int) ≤ (cs6.length : Int) := by omega
            have hci : (cs6.length : Int) ≤ (cap6 : Int) := by omega
            have hf1' : (n6 : Int) ≤ (m6 : Int) := by omega
            have hf2' : (m6 : Int) ≤ (n6 : Int) + 1 := by omega
            clear HFIN
            by_cases hc1 : cap6 = 1
            · subst hc1
              have hl1 : cs6.length = 1 := by omega
              have HT := Lib.hid (fun x (hx : Ext w6 x) => HTL0.out x (some ⟨ab, aoff, none⟩) 0 hx (fun h0 => by rw [hl1] at h0; simp at h0))
              clear HTL HTL0
              rw [hl1] at HT
              have HL1 := Lib.hid hl1; clear hl1
              go_wp2
              refine wp_region_ext (by kernel_rfl) (by kernel_rfl) ?_
              have e0 : ∀ x : Grow w8, x.w.cell? ⟨w6.heap.size, 0, none⟩ = some (.int .i64 c6.number) := Grow.cells q0
              have e1 : ∀ x : Grow w8, x.w.cell? ⟨w6.heap.size, 1, none⟩ = some (.int .i64 c6.start) := Grow.cells q1
              have e2 : ∀ x : Grow w8, x.w.cell? ⟨w6.heap.size, 2, none⟩ = some (.int .i64 c6.finish) := Grow.cells q2
              have e3 : ∀ x : Grow w8, x.w.cell? ⟨w6.heap.size, 3, none⟩ = some (.slice (some ⟨b6, off6, none⟩) c6.ps.length gc6) := Grow.cells q3
              have hl0 : cs6.length - 1 = 0 := by rw [HL1.out]
              repeat (go_big_quiet_step (exact Calls.ext_of (HT.out _ (HX8.out.trans (Grow.h _)))))
              refine wpQuiet_nil ?_
              rintro _ ⟨⟨w9, hx9⟩, rfl⟩
              clear e0 e1 e2 e3 q0 q1 q2 q3 ql hl0
              go_wp2
              go_ret
              exact ⟨rfl, HX6.out.trans (HX8.out.trans hx9)⟩
            · have HT := Lib.hid (fun x (hx : Ext w6 x) => HTL.out x ab aoff (cap6 - 1) hx (drop_row (HROW6.out.ext hx)))
              clear HTL HTL0
              go_wp2
              refine wp_region_ext (by kernel_rfl) (by kernel_rfl) ?_
              have e0 : ∀ x : Grow w8, x.w.cell? ⟨w6.heap.size, 0, none⟩ = some (.int .i64 c6.number) := Grow.cells q0
              have e1 : ∀ x : Grow w8, x.w.cell? ⟨w6.heap.size, 1, none⟩ = some (.int .i64 c6.start) := Grow.cells q1
              have e2 : ∀ x : Grow w8, x.w.cell? ⟨w6.heap.size, 2, none⟩ = some (.int .i64 c6.finish) := Grow.cells q2
              have e3 : ∀ x : Grow w8, x.w.cell? ⟨w6.heap.size, 3, none⟩ = some (.slice (some ⟨b6, off6, none⟩) c6.ps.length gc6) := Grow.cells q3
              repeat (go_big_quiet_step (exact Calls.ext_of (HT.out _ (HX8.out.trans (Grow.h _)))))
              refine wpQuiet_nil ?_
              rintro _ ⟨⟨w9, hx9⟩, rfl⟩
              clear e0 e1 e2 e3 q0 q1 q2 q3 ql
              go_wp2
              go_ret
              exact ⟨rfl, HX6.out.trans (HX8.out.trans hx9)⟩
          · have hpi : ¬ (0 : Int) < (cs6.length : Int) := by omega
            clear HFIN q0 q1 q2 q3 ql
            go_wp2
            go_ret
            exact ⟨rfl, HX6.out.trans HX8.out⟩

set_option maxRecDepth 100000 in
theorem lifted (os : Os) (started : os.Started) (H : Type) (enc : TypeId × Value → H) :
    ReturnsInHanded {} Try.checked os 9 .any (Rows.fnSplitsSpec.pre6 enc Try.prog Try.f9 Rows.fnSplitsRow.domain false) (Rows.fnSplitsSpec.post enc Try.prog Try.f9 false true false false) := by
  refine returnsInHanded_of_change (C := Try.checked) (by kernel_rfl) started (by kernel_rfl) Try.func9
    (ChangeSpec.witness6 (enc := enc) (C := Try.checked) false ⟨#[], #[.slice none 0 0], []⟩ 8 (by kernel_rfl) (by kernel_rfl) (by kernel_rfl) (by kernel_rfl)) ?_
  intro W base args ds gs before hval0 hW _ _
  have hval : ∀ (j : Nat) t v, Try.f9.params[j]? = some t → args[j]? = some v → Value.okWide Try.prog W .any base t v := hval0
  have hW' := hW
  obtain ⟨p, q, hA0, hV, rfl, hfz, hnd⟩ := hW
  have hA : DataW.TrodAll enc Try.prog W 0 (fun _ => true) true Try.f9.params.toList args.toList ds p := hA0
  rw [Try.params9] at hA hval
  obtain ⟨v0, vs0, d0, ds0, p0, q0, hargs, rfl, rfl, h0, r0⟩ := trodAll_cons hA
  obtain ⟨rfl, rfl, rfl⟩ := trodAll_nil r0
  obtain rfl : args = #[v0] := by cases args; simp_all
  obtain ⟨rfl, rfl⟩ := trodVars_none hV
  obtain ⟨ao0, cap0, m0, bs0, rfl, hl0, hr0, hw0⟩ := open_ByteS (hval 0 44 v0 rfl rfl) h0
  refine (walk hr0 hl0 hw0).mono fun e W' ⟨he, hx⟩ => ?_
  subst he
  exact ⟨_, rfl, law_post (by kernel_rfl) (by kernel_rfl) Try.underlying4 rfl rfl hW' rfl hx⟩

theorem holds : Rows.FnSplitsSaid :=
  OpenClaim.holds_of_wide 9 Try.f9 rfl rfl rfl rfl rfl rfl rfl ⟨rfl, rfl, rfl, rfl, rfl⟩ rfl rfl rfl rfl rfl (by kernel_rfl) Try.func9 (by kernel_rfl)
    (of_decide_eq_true (by kernel_rfl)) (by unfold Func.isWrapper; first | (rw [if_pos (by decide +kernel)]; kernel_rfl) | (rw [if_neg (by decide +kernel)]; exact ⟨rfl, rfl⟩))
    (fun os started H enc _ => lifted os started H enc)

end Go.Proofs.Ytbpcejdpgckkoaa.FnSplits
