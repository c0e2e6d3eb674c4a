/-
  Proved here: what AddLeg returns.
  Conditions: the number of teams fits an int; every team's legs have an address.
-/
import Derived.Test.YtlpogglcbphilaaAddLeg1
import Derived.Test.YtlpogglcbphilaaRel1
import Derived.Test.YtlpogglcbphilaaRel5
import Derived.Deep.DeepCutAuto
import Derived.Deep.CutBlock
import Derived.Deep.RegionLaw
namespace Go.Proofs.Ytlpogglcbphilaa
open Go.RowKit

set_option maxRecDepth 100000 in
set_option maxHeartbeats 4000000 in
theorem impl_AddLeg {ao : Option Addr} {cap : Nat} {vs : List TmV} {legs number time : Int} {w : World} (hr : RowAt w ao 2 vs.length (fun k => (nth vs k).c)) (hok : ∀ x, x ∈ vs → x.ok w ∧ x.a ≠ none) (hn : vs.length ≤ 9223372036854775807) :
    Calls Try.prog 27 #[.slice ao vs.length cap, .int .i64 legs, .int .i64 number, .int .i64 time] w (ResT w (legL (vs.map TmV.t) legs number time) (legB (vs.map TmV.t) legs number time)) := by
  obtain ⟨i0, hi, hz0, hz1, hz2⟩ := info_parts infoTeam
  obtain ⟨j0, hj, hy0, hy1, hy2⟩ := info_parts infoInt
  have HI := Lib.hid hi; have HZ0 := Lib.hid hz0; have HZ1 := Lib.hid hz1; have HZ2 := Lib.hid hz2
  have HJ := Lib.hid hj; have HY0 := Lib.hid hy0; have HY1 := Lib.hid hy1; have HY2 := Lib.hid hy2
  clear hi hz0 hz1 hz2 hj hy0 hy1 hy2
  have hgrow := grow_of hr (fun x hx => (hok x hx).1)
  obtain ⟨ts, hts⟩ : ∃ ts, ts = vs.map TmV.t := ⟨_, rfl⟩
  have hlen : ts.length = vs.length := by rw [hts, List.length_map]
  rw [← hts] at hgrow ⊢
  have hti := fun x hx => impl_teamIndex (w := x) (cap := cap) (number := number) (hgrow.ext hx) (by omega)
  have hat := fun x hx => impl_AreTeams (w := x) (cap := cap) (legs := legs) (hgrow.ext hx) (by omega)
  rw [hlen] at hti hat
  have HTI := Lib.hid hti; have HAT := Lib.hid hat
  have HTS := Lib.hid hts; have HLEN := Lib.hid hlen
  have HR := Lib.hid hr; have HOK := Lib.hid hok
  clear hti hat hgrow hr hok hts hlen
  cases hv : teamsB ts legs
  · have HB := Lib.hid (show legB ts legs number time = false by unfold legB; rw [hv]; rfl)
    have HL := Lib.hid (show legL ts legs number time = [] by unfold legL; rw [HB.out]; rfl)
    rw [hv] at HAT
    clear hv
    go_enter Try.func27, Try.ntmps27
    go_wp2_with fail
    refine (HTI.out _ (Ext.refl _)).mono ?_; rintro e w1 ⟨rfl, hx1⟩
    go_wp2_with fail
    refine (HAT.out _ hx1).mono ?_; rintro e w2 ⟨rfl, hx2⟩
    have HX := Lib.hid (hx1.trans hx2)
    clear hx1 hx2
    go_wp2
    go_ret2
    rw [HL.out, HB.out]
    exact ⟨none, 0, rfl, HX.out, .inl ⟨rfl, rfl, rfl⟩⟩
  · have htb := teamsB_at hv
    have hl8 := htb.2.1
    have hlegs := htb.1
    have hle4 : legs ≤ 4 := hlegs.2
    have hlg := fun k hk => (htb.2.2 k hk).2.1
    have HLG := Lib.hid hlg
    by_cases hf : 0 ≤ fdT ts number
    · obtain ⟨i, hi, hfi⟩ := fdT_at hf
      have HB := Lib.hid (show legB ts legs number time = teamsB (legAt ts i time) legs by unfold legB; rw [hv, hfi]; simp)
      have HL := Lib.hid (show legL ts legs number time = if legB ts legs number time then legAt ts i time else [] by unfold legL; rw [hfi]; simp)
      rw [hv] at HAT
      rw [hfi] at HTI
      have hvl := HLEN.out
      have hiv : i < vs.length := by omega
      clear hv htb hlg hf hfi hlegs
      go_enter Try.func27, Try.ntmps27
      go_wp2_with fail
      refine (HTI.out _ (Ext.refl _)).mono ?_; rintro e w1 ⟨rfl, hx1⟩
      go_wp2_with fail
      refine (HAT.out _ hx1).mono ?_; rintro e w2 ⟨rfl, hx2⟩
      have HX := Lib.hid (hx1.trans hx2)
      have HS0 := Lib.hid (OwnT.start (w := w2) (base := w.heap.size) (hx1.trans hx2).size)
      clear hx1 hx2 HTI HAT
      go_wp2
      go_loopw [11, 28] (fun o q wr => ∃ (k : Nat) (us : List TmV), k ≤ vs.length ∧ q = .int .i64 k ∧ us.length = k ∧ us.map TmV.t = ts.take k ∧ Ext w wr ∧ OwnT wr w.heap.size o us) (fun _ q _ => vs.length - (intOf q).toNat)
      case atStart => exact ⟨0, [], Nat.zero_le _, rfl, rfl, rfl, HX.out.alloc _, HS0.out⟩
      case round =>
        clear HS0
        obtain ⟨k, us, hk, rfl, hul, hum, hx, hS⟩ := hrel
        have HUL := Lib.hid hul; have HUM := Lib.hid hum; have HXR := Lib.hid hx; have HS := Lib.hid hS
        by_cases hlt : k < vs.length
        · obtain ⟨xb, xoff, rfl, hcell⟩ := (HR.out.ext hx) (by omega)
          have hm : nth vs k ∈ vs := by simp [nth, hlt]
          have hq := HOK.out _ hm
          have htk : nth ts k = (nth vs k).t := by rw [HTS.out]; simp [nth, hlt]
          have d0 := hcell k hlt 0 (by decide)
          have d1 := hcell k hlt 1 (by decide)
          simp only [TmV.c0, TmV.c1, Nat.add_zero] at d0 d1
          have hll := HLG.out k (by omega)
          rw [htk] at hll
          have hk0 : (0 : Int) ≤ (k : Int) := by omega
          have hk1 : (k : Int) < (vs.length : Int) := by omega
          have HTK := Lib.hid (show ts.take (k + 1) = ts.take k ++ [(nth vs k).t] by rw [take_succ_nth (by omega), htk])
          obtain ⟨⟨hrow, hac, hl64⟩, hsm⟩ := hq
          cases hxa : (nth vs k).a with
          | none => exact absurd hxa hsm
          | some xa =>
            rw [hxa] at d1 hrow
            have HCP := Lib.hid (fun x (hx2 : Ext wr x) => impl_copyInts (w := x) (cap := (nth vs k).ac) (hrow.ext (hx.trans hx2)) (by omega))
            generalize hT : (nth vs k).t = T at *
            generalize (nth vs k).ac = xc at *
            obtain ⟨num, lg⟩ := T
            dsimp only at d0 d1 hll HCP
            have HB0 := Lib.hid (show Ext wr (wr.alloc (.cells #[.int .i64 num, .slice (some xa) lg.length xc] 51)) from (Ext.refl _).alloc _)
            clear hcell hm htk hrow hac hl64 hsm hxa hT hx hS hul hum
            go_upto_block 1 with fail
            go_cut [11] (fun o' wd => ∃ us' : List TmV, us'.length = k + 1 ∧ us'.map TmV.t = ts.take (k + 1) ∧ Ext w wd ∧ OwnT wd w.heap.size o' us')
            case rest =>
              obtain ⟨us', hul', hum', hx', hS'⟩ := hcut
              have HU' := Lib.hid hul'; have HM' := Lib.hid hum'; have HX' := Lib.hid hx'; have HS' := Lib.hid hS'
              clear hul' hum' hx' hS' d0 d1
              go_wp2
              go_roundw
              case rel => exact ⟨k + 1, us', by omega, by go_num, HU'.out, HM'.out, HX'.out, HS'.out⟩
              case measure => simp [intOf] <;> omega
            case first =>
              have hul8 : us.length ≤ 8 := by have := HUL.out; omega
              have hws := HXR.out.size
              have HRF := Lib.hid (fun (x : World) (g : Addr) (c : Nat) => row_lit (w := x) (cs := #[.int .i64 num, .slice (some g) lg.length c]) (T := 51) (s := 2) (cc := TmV.c) (x := ⟨⟨num, lg⟩, some g, c⟩) (by
                intro j hj
                match j, hj with
                | 0, _ => rfl
                | 1, _ => rfl))
              go_wp2_with fail
              go_region_law (first
                | (go_simp; go_at_call 61; with_reducible refine Calls.mono (HCP.out _ (by repeat (first | (with_reducible exact Ext.refl _) | (with_reducible assumption) | with_reducible refine Ext.drew ?_ | with_reducible refine Ext.alloc ?_ _ | with_reducible refine Ext.setCell ?_ (by first | (simp; done) | (simp; omega) | omega) _ | with_reducible refine Ext.trans ?_ (by with_reducible assumption)))) ?_; rintro e w3 ⟨g, c, rfl, hx3, ho3⟩; have b0 := hx3.cells (show World.cell? _ ⟨wr.heap.size, 0, none⟩ = some (.int .i64 num) by go_simp); have bl := World.block_lt_of_cell? _ _ b0; have HO3 := Lib.hid ho3; have HX3 := Lib.hid (show Ext wr w3 from (by repeat (first | (with_reducible exact Ext.refl _) | (with_reducible assumption) | with_reducible refine Ext.drew ?_ | with_reducible refine Ext.alloc ?_ _ | with_reducible refine Ext.setCell ?_ (by first | (simp; done) | (simp; omega) | omega) _ | with_reducible refine Ext.trans ?_ (by with_reducible assumption)))); have HRL := Lib.hid (HRF.out w3 g c))
                | (refine step_append_bf (o := ⟨some 40, _, _, _, _, _⟩) rfl _ _ 24 rfl 51 i0 _ 2 32 Try.underlying24 HI.out HZ0.out HZ1.out HZ2.out rfl (by decide) TmV.c tm_cells w.heap.size ?_ u11 us [⟨⟨num, lg⟩, some g, c⟩] (us ++ [⟨⟨num, lg⟩, some g, c⟩]) (Lib.hid rfl) rfl (HS.out.own.ext' (HX3.out.alloc _)) ⟨w3.heap.size, 0, none⟩ 1 1 rfl rfl HRL.out (by simp; omega) (by simp; omega) ?_; (have := HX3.out.size; simp; omega); intro go4 gc4 w4 ho4 hb4 hg4 hv4))
              all_goals
                have hP := HS.out.push (x := ⟨⟨num, lg⟩, some g, c⟩) (HX3.out.alloc (.cells #[.int .i64 num, .slice (some g) lg.length c] 51)) ((HO3.out.mono (show w.heap.size ≤ _ from by first | omega | (simp; omega))).ext' ((Ext.refl _).alloc _)) (by simp) (fun b hb => by have h1 := (own_block HO3.out hb).1; first | omega | (simp at h1; omega)) ho4 hg4 hv4.out
                rw [List.length_append, List.length_singleton] at hP
                have HP := Lib.hid hP
                have HXD := Lib.hid (Ext.below (HXR.out.trans (HX3.out.alloc (.cells #[.int .i64 num, .slice (some g) lg.length c] 51))) hb4 (Nat.le_refl _))
                clear hP ho4 hb4 hg4 hv4 b0 bl
                go_wp2_with fail
                go_meet
                exact ⟨us ++ [⟨⟨num, lg⟩, some g, c⟩], by rw [List.length_append, HUL.out]; rfl, by rw [List.map_append, HUM.out, HTK.out]; rfl, HXD.out, HP.out⟩
        · obtain rfl : k = vs.length := by omega
          have hnk : ¬ (vs.length : Int) < (vs.length : Int) := by omega
          have hum2 : us.map TmV.t = ts := by rw [HUM.out, ← HLEN.out, List.take_length]
          obtain ⟨oa, oc, e, _, hoc, hoF⟩ := hS.form
          subst e
          obtain ⟨ob, ooff, e, _⟩ := hoF.row (by omega)
          subst e
          obtain rfl : ooff = 0 := by
            have := own_addr hS.own
            injection this
          obtain ⟨A, cp, hT, hcp⟩ := hS.teams
          rw [hum2] at hT hcp
          have HT := Lib.hid hT
          have HUI := Lib.hid (hS.inn (nth us i) (by simp [nth, hul, hiv]))
          have hci := hcp i (by omega)
          have hti : (nth us i).t = nth ts i := by rw [← hum2]; simp [nth, hul, hiv]
          have e1 := hT.legs i (by omega)
          have f1 := hT.free (i * 2 + 1)
          have hlo := HUI.out.1
          unfold TmV.leg at hlo
          rw [hti, hci.2.1, hci.2.2] at hlo
          have HLO := Lib.hid hlo
          have HCP := Lib.hid hcp
          have hli := HLG.out i hi
          have hi0 : (0 : Int) ≤ (i : Int) := by omega
          have hi1 : (i : Int) < (vs.length : Int) := by omega
          have hbase := hT.base
          have hws := hx.size
          rw [hul] at HT
          have HRL := Lib.hid (show RowAt (wr.alloc (.cells #[.int .i64 time] 3)) (some ⟨wr.heap.size, 0, none⟩) 1 [time].length (fun j => icc (nth [time] j)) from row_lit (w := wr) (cs := #[.int .i64 time]) (T := 3) (s := 1) (cc := icc) (x := time) (by intro j hj; obtain rfl : j = 0 := (by omega); rfl))
          unfold tlen at e1
          have hob : ob < wr.heap.size := hbase.2
          have HNE := Lib.hid (show (some (A i) : Option Nat) ≠ some ob from fun q => hT.apart i (by omega) (Option.some.inj q))
          have HCP2 := Lib.hid (fun k hk => (hcp k hk).1)
          have hsx := HXR.out.size
          have HFO := Lib.hid (show ∀ j, wr.frozen? ⟨ob, j, none⟩ = false from hT.free)
          have HHUL := Lib.hid hul
          clear hT hcp hci hti hlo hoF hx hS hum hum2 hoc HCP HUI HS HOK HR HUM f1
          rw [HHUL.out]
          clear hul HUL
          go_wp2_with (at_builtin; refine wpList_append_bf rfl _ _ 31 rfl 3 j0 _ 1 8 Try.underlying31 HJ.out HY0.out HY1.out HY2.out rfl (by decide) icc icc_one w.heap.size (by simp; omega) (.slice (some ⟨A i, 0, none⟩) (nth ts i).legs.length (cp i)) (nth ts i).legs [time] ((nth ts i).legs ++ [time]) (Lib.hid rfl) rfl (HLO.out.ext' ((Ext.refl wr).alloc _)) ⟨wr.heap.size, 0, none⟩ 1 1 rfl rfl HRL.out (by simp; omega) (by simp; omega) ?_; intro go gc w4 ho4 hb4 hg4 hv4; have c4 := (grown_cell (o := i * 2 + 1) hg4 (by simp; omega) HNE.out).trans (((Ext.refl wr).alloc _).cells e1); have fz4 := (grown_frozen (o := i * 2 + 1) hg4 (by simp; omega) HNE.out).trans ((((Ext.refl wr).alloc _).frozenr ob (i * 2 + 1) hob).trans (HFO.out _)))
          have hsm : go ≠ none := fun q => by subst q; rcases hv4.out with q | q <;> cases q
          cases go with
          | none => exact absurd rfl hsm
          | some g =>
            have hput := HT.out.put (time := time) (n := vs.length) HLEN.out.symm hiv ((Ext.refl wr).alloc (.cells #[.int .i64 time] 3)) ho4 hg4 hv4.out
            have hgc : ((nth ts i).legs ++ [time]).length ≤ gc := by
              obtain ⟨_, _, q, _, _, h2, _⟩ := ho4.fresh
              injection q with q1 q2 q3
              omega
            have HXN := Lib.hid ((Ext.below (HXR.out.alloc (.cells #[.int .i64 time] 3)) hb4 (Nat.le_refl _)).setCell (p := ⟨ob, i * 2 + 1, none⟩) hbase.1 (.slice (some g) ((nth ts i).legs ++ [time]).length gc))
            have hLl : (legAt ts i time).length = vs.length := by rw [legAt_len, HLEN.out]
            rw [← hLl] at hput
            have hc2 : ∀ k, k < (legAt ts i time).length → tlen (legAt ts i time) k ≤ (if k = i then gc else cp k) := fun k hk => by
              have h1 := legAt_nth (ts := ts) (i := i) (time := time) (k := k) (by have := HLEN.out; omega)
              by_cases q : k = i
              · subst q; rw [if_pos rfl, tlen, h1, if_pos rfl]; exact hgc
              · rw [if_neg q, tlen, h1, if_neg (fun z => q z.symm)]; exact HCP2.out k (by have h5 := HHUL.out; rw [hLl] at hk; omega)
            have hl64 : ∀ k, k < (legAt ts i time).length → tlen (legAt ts i time) k ≤ 9223372036854775807 := fun k hk => by
              have h1 := legAt_nth (ts := ts) (i := i) (time := time) (k := k) (by have := HLEN.out; omega)
              have h2 := HLG.out k (by have := HLEN.out; omega)
              rw [tlen, h1]
              split
              · have := HLG.out i hi
                simp
                omega
              · omega
            have hat2 := fun x (hx : Ext _ x) => impl_AreTeams (w := x) (cap := oc) (legs := legs) ((hput.row hc2 hl64).ext hx) (by omega)
            rw [hLl] at hat2
            have HA2 := Lib.hid hat2; have HPUT := Lib.hid hput; have HC2 := Lib.hid hc2; have HLL := Lib.hid hLl
            rw [List.length_append, List.length_singleton] at HA2 HPUT HXN
            clear hat2 hput hc2 hl64 hLl ho4 hb4 hg4 hv4 hsm hgc e1 HT HLO HRL HFO HCP2 HNE
            cases hb2 : teamsB (legAt ts i time) legs
            · rw [hb2] at HA2
              have HB2 := Lib.hid (HB.out.trans hb2)
              have HL2 := Lib.hid (show legL ts legs number time = [] by rw [HL.out, HB2.out]; rfl)
              clear hb2
              go_wp2_with fail
              refine (HA2.out _ (Ext.refl _)).mono ?_; rintro e w5 ⟨rfl, hx5⟩
              have HX5 := Lib.hid (HXN.out.trans hx5)
              clear hx5 c4 fz4
              go_wp2
              go_ret2
              rw [HL2.out, HB2.out]
              exact ⟨none, 0, rfl, HX5.out, .inl ⟨rfl, rfl, rfl⟩⟩
            · rw [hb2] at HA2
              have HB2 := Lib.hid (HB.out.trans hb2)
              have HL2 := Lib.hid (show legL ts legs number time = legAt ts i time by rw [HL.out, HB2.out]; rfl)
              clear hb2
              go_wp2_with fail
              refine (HA2.out _ (Ext.refl _)).mono ?_; rintro e w5 ⟨rfl, hx5⟩
              have HX5 := Lib.hid (HXN.out.trans hx5)
              have HP5 := Lib.hid (HPUT.out.ext hx5)
              clear hx5 c4 fz4
              go_wp2
              go_ret2
              rw [HL2.out, HB2.out]
              exact ⟨some ⟨ob, 0, none⟩, oc, by rw [HLL.out]; rfl, HX5.out, .inr ⟨ob, _, _, rfl, HP5.out, HC2.out⟩⟩
    · have hneg : fdT ts number < 0 := by omega
      have HB := Lib.hid (show legB ts legs number time = false by unfold legB; rw [hv]; simp [hf])
      have HL := Lib.hid (show legL ts legs number time = [] by unfold legL; rw [HB.out]; rfl)
      rw [hv] at HAT
      generalize fdT ts number = q at HTI hneg
      clear hv htb hlg hf hlegs
      go_enter Try.func27, Try.ntmps27
      go_wp2_with fail
      refine (HTI.out _ (Ext.refl _)).mono ?_; rintro e w1 ⟨rfl, hx1⟩
      go_wp2_with fail
      refine (HAT.out _ hx1).mono ?_; rintro e w2 ⟨rfl, hx2⟩
      have HX := Lib.hid (hx1.trans hx2)
      clear hx1 hx2
      go_wp2
      go_ret2
      rw [HL.out, HB.out]
      exact ⟨none, 0, rfl, HX.out, .inl ⟨rfl, rfl, rfl⟩⟩

end Go.Proofs.Ytlpogglcbphilaa
