/-
  Proved here: what AddLeg's reference returns.
  Conditions: the number of teams fits an int; every team's legs have an address.
-/
import Derived.Test.YtlpogglcbphilaaAddLeg1
import Derived.Test.YtlpogglcbphilaaRel2
import Derived.Deep.DeepCutAuto
import Derived.Deep.CutBlock
import Derived.Deep.RegionLaw
namespace Go.Proofs.Ytlpogglcbphilaa
open Go.RowKit

theorem Owns.setO {α : Type} {w : World} {base : Nat} {e : TypeId} {s : Nat} {cc : α → Nat → Value} {v : Value} {xs : List α} (h : Owns w base e s cc v xs) {p : Addr} (hp : v.ownBlock ≠ some p.block) (u : Value) : Owns (w.setCell p u) base e s cc v xs := by
  have h0 : w.ownsRow base e s v xs.length (fl s cc xs) := h
  refine ⟨h0.1, ?_⟩
  rcases h0.2 with hn | ⟨g, cap, cur, e1, e2, e3, e4, e5, e6, e7⟩
  · exact .inl hn
  · refine .inr ⟨g, cap, cur, e1, e2, ?_, e4, e5, e6, e7⟩
    rw [Below.heap_setCell _ _ _ _ (fun q => hp (by rw [e1, q]; rfl))]
    exact e3
theorem TeamsF.empty {B0 : Nat} {w : World} (h : B0 ≤ w.heap.size) : TeamsF B0 (w.alloc (.cells #[] 51)) w.heap.size ([] : List TeamD).length (fun _ => 0) (tnum []) (tlen []) (fun _ => 0) (tleg []) :=
  ⟨⟨h, by simp⟩, fun j => by go_simp, fun k hk => absurd hk (Nat.not_lt_zero _), fun k hk => absurd hk (Nat.not_lt_zero _), fun k hk => absurd hk (Nat.not_lt_zero _), fun k hk => absurd hk (Nat.not_lt_zero _), fun k _ hk => absurd hk (Nat.not_lt_zero _)⟩

/-- a team being made: its box X, its legs -/
structure BoxT (wr wd : World) (X : Nat) (num : Int) (g : Addr) (c : Nat) (lg : List Int) : Prop where
  ext : Ext wr wd
  c0 : wd.cell? ⟨X, 0, none⟩ = some (.int .i64 num)
  c1 : wd.cell? ⟨X, 1, none⟩ = some (.slice (some g) lg.length c)
  fr : ∀ j, wd.frozen? ⟨X, j, none⟩ = false
  lo : wr.heap.size ≤ X
  own : Owns wd wr.heap.size 3 1 icc (.slice (some g) lg.length c) lg
  ne : g.block ≠ X

theorem BoxT.of1 {wr w3 : World} {base c : Nat} {num : Int} {g : Addr} {lg : List Int} {T : TypeId} (hx : Ext wr w3) (ho : Owns w3 base 3 1 icc (.slice (some g) lg.length c) lg) (hb : wr.heap.size ≤ base) :
    BoxT wr (w3.alloc (.cells #[.int .i64 num, .slice (some g) lg.length c] T)) w3.heap.size num g c lg := by
  have h1 := (own_of_some ho).2
  exact ⟨hx.alloc _, by go_simp, by go_simp, fun j => by go_simp, hx.size, (ho.mono hb).ext' ((Ext.refl _).alloc _), by omega⟩
theorem BoxT.of2 {wr w3 : World} {base c : Nat} {num : Int} {g : Addr} {lg : List Int} {T : TypeId} (hx : Ext (wr.alloc (.cells #[.int .i64 0, .slice none 0 0] T)) w3) (ho : Owns w3 base 3 1 icc (.slice (some g) lg.length c) lg) (hb : wr.heap.size + 1 ≤ base) :
    BoxT wr ((w3.setCell ⟨wr.heap.size, 0, none⟩ (.int .i64 num)).setCell ⟨wr.heap.size, 1, none⟩ (.slice (some g) lg.length c)) wr.heap.size num g c lg := by
  have h1 := (own_of_some ho).1
  have hxw : Ext wr w3 := ((Ext.refl wr).alloc _).trans hx
  have d0 : w3.cell? ⟨wr.heap.size, 0, none⟩ = some (.int .i64 0) := hx.cells (by go_simp)
  have d1 : w3.cell? ⟨wr.heap.size, 1, none⟩ = some (.slice none 0 0) := hx.cells (by go_simp)
  have hne : g.block ≠ wr.heap.size := by omega
  have hn2 : (Value.slice (some g) lg.length c).ownBlock ≠ some wr.heap.size := fun q => hne (Option.some.inj q)
  refine ⟨(hxw.setCell (Nat.le_refl _) _).setCell (Nat.le_refl _) _, ?_, ?_, fun j => ?_, Nat.le_refl _, (((ho.mono (show wr.heap.size ≤ base by omega)).setO (p := ⟨wr.heap.size, 0, none⟩) hn2 _).setO (p := ⟨wr.heap.size, 1, none⟩) hn2 _), hne⟩
  · exact (World.cell?_setCell_other _ _ _ _ (fun q => by injection q with _ q; omega)).trans (World.cell?_setCell_same _ _ _ d0)
  · exact World.cell?_setCell_same _ _ _ ((World.cell?_setCell_other _ _ _ _ (fun q => by injection q with _ q; omega)).trans d1)
  · rw [World.frozen?_setCell, World.frozen?_setCell]
    exact (hx.frozenr _ _ (by simp)).trans (by go_simp)

set_option maxRecDepth 100000 in
set_option maxHeartbeats 4000000 in
theorem spec_AddLeg {ao : Option Addr} {cap : Nat} {vs : List TmV} {legs number time : Int} {w : World} (hr : RowAt w ao 2 vs.length (fun k => (nth vs k).c)) (hok : ∀ x, x ∈ vs → x.ok w ∧ x.a ≠ none) (hn : vs.length ≤ 9223372036854775807) :
    Calls Try.prog 28 #[.slice ao vs.length cap, .int .i64 legs, .int .i64 number, .int .i64 time] w (ResT w (legL (vs.map TmV.t) legs number time) (legB (vs.map TmV.t) legs number time)) := by
  obtain ⟨i0, hi, hz0, hz1, hz2⟩ := info_parts infoTeam
  obtain ⟨j0, hj, hy0, hy1, hy2⟩ := info_parts infoInt
  have HI := Lib.hid hi; have HZ0 := Lib.hid hz0; have HZ1 := Lib.hid hz1; have HZ2 := Lib.hid hz2
  have HJ := Lib.hid hj; have HY0 := Lib.hid hy0; have HY1 := Lib.hid hy1; have HY2 := Lib.hid hy2
  clear hi hz0 hz1 hz2 hj hy0 hy1 hy2
  have hgrow := grow_of hr (fun x hx => (hok x hx).1)
  obtain ⟨ts, hts⟩ : ∃ ts, ts = vs.map TmV.t := ⟨_, rfl⟩
  have hlen : ts.length = vs.length := by rw [hts, List.length_map]
  rw [← hts] at hgrow ⊢
  have hti := fun x hx => spec_l16Find (w := x) (cap := cap) (number := number) (hgrow.ext hx) (by omega)
  have hat := fun x hx => spec_l16Good (w := x) (cap := cap) (legs := legs) (hgrow.ext hx) (by omega)
  rw [hlen] at hti hat
  have HTI := Lib.hid hti; have HAT := Lib.hid hat
  have HTS := Lib.hid hts; have HLEN := Lib.hid hlen
  have HR := Lib.hid hr; have HOK := Lib.hid hok
  have HEM := Lib.hid (fun x (hx : Ext w x) => TeamsF.empty (w := x) (B0 := w.heap.size) hx.size)
  clear hti hat hgrow hr hok hts hlen
  cases hv : teamsB ts legs
  · have HB := Lib.hid (show legB ts legs number time = false by unfold legB; rw [hv]; rfl)
    have HL := Lib.hid (show legL ts legs number time = [] by unfold legL; rw [HB.out]; rfl)
    rw [hv] at HAT
    clear hv
    go_enter Try.func28, Try.ntmps28
    go_wp2_with fail
    refine (HTI.out _ (Ext.refl _)).mono ?_; rintro e w1 ⟨rfl, hx1⟩
    go_wp2_with fail
    refine (HAT.out _ hx1).mono ?_; rintro e w2 ⟨rfl, hx2⟩
    have HX := Lib.hid (hx1.trans hx2)
    clear hx1 hx2
    go_wp2
    go_ret2
    rw [HL.out, HB.out]
    exact ⟨some ⟨w2.heap.size, 0, none⟩, 0, rfl, HX.out.alloc _, .inr ⟨_, _, _, rfl, HEM.out _ HX.out, fun k hk => absurd hk (Nat.not_lt_zero _)⟩⟩
  · have htb := teamsB_at hv
    have hl8 := htb.2.1
    have hlegs := htb.1
    have hle4 : legs ≤ 4 := hlegs.2
    have hlg := fun k hk => (htb.2.2 k hk).2.1
    have HLG := Lib.hid hlg
    by_cases hf : 0 ≤ fdT ts number
    · obtain ⟨i, hi, hfi⟩ := fdT_at hf
      have HB := Lib.hid (show legB ts legs number time = teamsB (legAt ts i time) legs by unfold legB; rw [hv, hfi]; simp)
      have HL := Lib.hid (show legL ts legs number time = if legB ts legs number time then legAt ts i time else [] by unfold legL; rw [hfi]; simp)
      rw [hv] at HAT
      rw [hfi] at HTI
      have hvl := HLEN.out
      have hiv : i < vs.length := by omega
      clear hv htb hlg hf hfi hlegs
      go_enter Try.func28, Try.ntmps28
      go_wp2_with fail
      refine (HTI.out _ (Ext.refl _)).mono ?_; rintro e w1 ⟨rfl, hx1⟩
      go_wp2_with fail
      refine (HAT.out _ hx1).mono ?_; rintro e w2 ⟨rfl, hx2⟩
      have HX := Lib.hid (hx1.trans hx2)
      have HS0 := Lib.hid (OwnT.start (w := w2) (base := w.heap.size) (hx1.trans hx2).size)
      clear hx1 hx2 HTI HAT
      go_wp2
      go_loopw [11, 12] (fun o q wr => ∃ (k : Nat) (us : List TmV), k ≤ vs.length ∧ q = .int .i64 k ∧ us.length = k ∧ us.map TmV.t = (legAt ts i time).take k ∧ Ext w wr ∧ OwnT wr w.heap.size o us) (fun _ q _ => vs.length - (intOf q).toNat)
      case atStart => exact ⟨0, [], Nat.zero_le _, rfl, rfl, rfl, HX.out.alloc _, HS0.out⟩
      case round =>
        clear HS0
        obtain ⟨k, us, hk, rfl, hul, hum, hx, hS⟩ := hrel
        have HUL := Lib.hid hul; have HUM := Lib.hid hum; have HXR := Lib.hid hx; have HS := Lib.hid hS
        by_cases hlt : k < vs.length
        · obtain ⟨xb, xoff, rfl, hcell⟩ := (HR.out.ext hx) (by omega)
          have hm : nth vs k ∈ vs := by simp [nth, hlt]
          have hq := HOK.out _ hm
          have htk : nth ts k = (nth vs k).t := by rw [HTS.out]; simp [nth, hlt]
          have d0 := hcell k hlt 0 (by decide)
          have d1 := hcell k hlt 1 (by decide)
          simp only [TmV.c0, TmV.c1, Nat.add_zero] at d0 d1
          have hll := HLG.out k (by omega)
          rw [htk] at hll
          have hk0 : (0 : Int) ≤ (k : Int) := by omega
          have hk1 : (k : Int) < (vs.length : Int) := by omega
          have HTK := Lib.hid (show (legAt ts i time).take (k + 1) = (legAt ts i time).take k ++ [if i = k then ⟨(nth vs k).t.num, (nth vs k).t.legs ++ [time]⟩ else (nth vs k).t] by
            rw [take_succ_nth (by rw [legAt_len]; omega), legAt_nth (by omega)]
            by_cases e : i = k
            · subst e; rw [if_pos rfl, if_pos rfl, htk]
            · rw [if_neg e, if_neg e, htk])
          obtain ⟨⟨hrow, hac, hl64⟩, hsm⟩ := hq
          cases hxa : (nth vs k).a with
          | none => exact absurd hxa hsm
          | some xa =>
            rw [hxa] at d1 hrow
            have HCP := Lib.hid (fun x (hx2 : Ext wr x) => spec_l1Own (w := x) (cap := (nth vs k).ac) (hrow.ext (hx.trans hx2)) (by omega))
            generalize hT : (nth vs k).t = T at *
            generalize (nth vs k).ac = xc at *
            obtain ⟨num, lg⟩ := T
            dsimp only at d0 d1 hll HCP HTK
            have bl := World.block_lt_of_cell? _ _ d0
            clear hcell hm htk hrow hac hl64 hsm hxa hT hx hS hul hum
            go_upto_block 1 with fail
            go_cut [11] (fun o' wd => ∃ us' : List TmV, us'.length = k + 1 ∧ us'.map TmV.t = (legAt ts i time).take (k + 1) ∧ Ext w wd ∧ OwnT wd w.heap.size o' us')
            case rest =>
              obtain ⟨us', hul', hum', hx', hS'⟩ := hcut
              have HU' := Lib.hid hul'; have HM' := Lib.hid hum'; have HX' := Lib.hid hx'; have HS' := Lib.hid hS'
              clear hul' hum' hx' hS' d0 d1 bl
              go_wp2
              go_roundw
              case rel => exact ⟨k + 1, us', by omega, by go_num, HU'.out, HM'.out, HX'.out, HS'.out⟩
              case measure => simp [intOf] <;> omega
            case first =>
            have hul8 : us.length ≤ 8 := by have := HUL.out; omega
            have hws := HXR.out.size
            go_upto_region 8 with fail
            go_cut [13] (fun p wd => ∃ X g c, p = .pointer (some ⟨X, 0, none⟩) ∧ BoxT wr wd X num g c lg)
            case first =>
              go_region_law (first
                | (go_simp; go_at_call 62; with_reducible refine Calls.mono (HCP.out _ (by repeat (first | (with_reducible exact Ext.refl _) | (with_reducible assumption) | with_reducible refine Ext.drew ?_ | with_reducible refine Ext.alloc ?_ _ | with_reducible refine Ext.setCell ?_ (by first | (simp; done) | (simp; omega) | omega) _ | with_reducible refine Ext.trans ?_ (by with_reducible assumption)))) ?_; rintro e w3 ⟨g, c, rfl, hx3, ho3⟩; have p0 := hx3.cells (show World.cell? _ ⟨xb, xoff + k * 2, none⟩ = some (.int .i64 num) by go_simp); have p0l := World.block_lt_of_cell? _ _ p0; have hcc := Ext.cellr hx3; have hff := Ext.frozenr hx3; have hzz := hx3.size; have HO3 := Lib.hid ho3; have HX3 := Lib.hid hx3))
              all_goals
                go_wp2_with fail
                go_meet
                first
                  | exact ⟨_, g, c, rfl, BoxT.of1 ((Ext.refl wr).drew.trans HX3.out) HO3.out (Nat.le_refl _)⟩
                  | exact ⟨_, g, c, rfl, BoxT.of2 ((Ext.refl _).drew.trans HX3.out) HO3.out (by show wr.heap.size + 1 ≤ (wr.alloc _).heap.size; simp)⟩
            case rest =>
            obtain ⟨X, g, c, rfl, hbox⟩ := hcut
            have HBX := Lib.hid hbox
            clear hbox d0 d1 bl
            go_upto_if 47 with fail
            go_cut [] (fun wd => ∃ g' c', BoxT wr wd X num g' c' (if i = k then lg ++ [time] else lg))
            case first =>
              by_cases hik : i = k
              · subst hik
                have b0 := HBX.out.c0
                have b1 := HBX.out.c1
                have bf := HBX.out.fr 1
                have bl : X < wc.heap.size := World.block_lt_of_cell? _ _ b0
                have hwc := HBX.out.ext.size
                have hne : (some g.block : Option Nat) ≠ some X := fun q => HBX.out.ne (Option.some.inj q)
                have HNE := Lib.hid hne
                have HRT := Lib.hid (show RowAt (wc.alloc (.cells #[.int .i64 time] 3)) (some ⟨wc.heap.size, 0, none⟩) 1 [time].length (fun j => icc (nth [time] j)) from row_lit (w := wc) (cs := #[.int .i64 time]) (T := 3) (s := 1) (cc := icc) (x := time) (by intro j hj; obtain rfl : j = 0 := (by omega); rfl))
                clear hne
                go_wp2_with ((at_builtin; refine wpList_append_bf rfl _ _ 31 rfl 3 j0 _ 1 8 Try.underlying31 HJ.out HY0.out HY1.out HY2.out rfl (by decide) icc icc_one wr.heap.size (by simp; omega) (.slice (some g) lg.length c) lg [time] (lg ++ [time]) (Lib.hid rfl) rfl (HBX.out.own.ext' ((Ext.refl wc).alloc _)) ⟨wc.heap.size, 0, none⟩ 1 1 rfl rfl HRT.out (by simp; omega) (by simp; omega) ?_; intro go gc w4 ho4 hb4 hg4 hv4; have c4 := (grown_cell (o := 1) hg4 (by simp; omega) HNE.out).trans (((Ext.refl wc).alloc _).cells b1); have fz4 := (grown_frozen (o := 1) hg4 (by simp; omega) HNE.out).trans ((((Ext.refl wc).alloc _).frozenr X 1 bl).trans bf)))
                have hsm : go ≠ none := fun q => by subst q; rcases hv4.out with q | q <;> cases q
                cases go with
                | none => exact absurd rfl hsm
                | some g2 =>
                  have hgX : g2.block ≠ X := by
                    rcases hv4.out with q | q
                    · have q2 : g2.block = g.block := Option.some.inj q
                      rw [q2]; exact HBX.out.ne
                    · have q2 : g2.block = wc.heap.size + 1 := by simpa using Option.some.inj q
                      omega
                  have HN2 := Lib.hid (show BoxT wr (w4.setCell ⟨X, 1, none⟩ (.slice (some g2) (lg ++ [time]).length gc)) X num g2 gc (lg ++ [time]) from
                    ⟨(Ext.below (HBX.out.ext.alloc _) hb4 (Nat.le_refl _)).setCell HBX.out.lo _, (World.cell?_setCell_other _ _ _ _ (fun q => by injection q with _ q; omega)).trans ((grown_cell (o := 0) hg4 (by simp; omega) HNE.out).trans (((Ext.refl wc).alloc _).cells b0)), World.cell?_setCell_same _ _ _ c4,
                      fun j => by rw [World.frozen?_setCell]; exact (grown_frozen (o := j) hg4 (by simp; omega) HNE.out).trans ((((Ext.refl wc).alloc _).frozenr X j bl).trans (HBX.out.fr j)), HBX.out.lo, ho4.setO (p := ⟨X, 1, none⟩) (fun q => hgX (Option.some.inj q)) _, hgX⟩)
                  clear ho4 hb4 hg4 hv4 hsm hgX b0 b1 bf bl
                  go_wp2_with fail
                  go_meet
                  exact ⟨g2, gc, by simpa using HN2.out⟩
              · have hne : ((k : Int) == (i : Int)) = false := by simp; omega
                go_wp2_with fail
                go_meet
                exact ⟨g, c, by rw [if_neg hik]; exact HBX.out⟩
            case rest =>
            obtain ⟨g', c', hbox⟩ := hcut
            have HB2 := Lib.hid hbox
            have b0 := hbox.c0
            have b1 := hbox.c1
            have bl := World.block_lt_of_cell? _ _ b0
            have hLl : (if i = k then lg ++ [time] else lg).length ≤ 5 := by split <;> (try simp) <;> omega
            have HTK2 := Lib.hid (show (legAt ts i time).take (k + 1) = (legAt ts i time).take k ++ [(⟨num, if i = k then lg ++ [time] else lg⟩ : TeamD)] by rw [HTK.out]; congr 2; split <;> rfl)
            generalize (if i = k then lg ++ [time] else lg) = L at HB2 b1 hLl HTK2
            clear hbox HBX HTK
            have HRL := Lib.hid (row_lit (w := wc) (cs := #[.int .i64 num, .slice (some g') L.length c']) (T := 51) (s := 2) (cc := TmV.c) (x := ⟨⟨num, L⟩, some g', c'⟩) (by intro j hj; match j, hj with | 0, _ => rfl | 1, _ => rfl))
            have hwc := HB2.out.ext.size
            go_wp2_with (at_builtin; refine wpList_append_bf rfl _ _ 24 rfl 51 i0 _ 2 32 Try.underlying24 HI.out HZ0.out HZ1.out HZ2.out rfl (by decide) TmV.c tm_cells w.heap.size (by simp; omega) u11 us [⟨⟨num, L⟩, some g', c'⟩] (us ++ [⟨⟨num, L⟩, some g', c'⟩]) (Lib.hid rfl) rfl (HS.out.own.ext' (HB2.out.ext.alloc _)) ⟨wc.heap.size, 0, none⟩ 1 1 rfl rfl HRL.out (by simp; omega) (by simp; omega) ?_; intro go4 gc4 w4 ho4 hb4 hg4 hv4)
            have hP := HS.out.push (x := ⟨⟨num, L⟩, some g', c'⟩) (HB2.out.ext.alloc (.cells #[.int .i64 num, .slice (some g') L.length c'] 51)) ((HB2.out.own.mono hws).ext' ((Ext.refl _).alloc _)) (by simp) (fun b hb => (own_block HB2.out.own hb).1) ho4 hg4 hv4.out
            rw [List.length_append, List.length_singleton] at hP
            have HP := Lib.hid hP
            have HXD := Lib.hid (Ext.below (HXR.out.trans (HB2.out.ext.alloc (.cells #[.int .i64 num, .slice (some g') L.length c'] 51))) hb4 (Nat.le_refl _))
            clear hP ho4 hb4 hg4 hv4 b0 b1 bl
            go_wp2_with fail
            go_meet
            exact ⟨us ++ [⟨⟨num, L⟩, some g', c'⟩], by rw [List.length_append, HUL.out]; rfl, by rw [List.map_append, HUM.out, HTK2.out]; rfl, HXD.out, HP.out⟩
        · obtain rfl : k = vs.length := by omega
          have hnk : ¬ (vs.length : Int) < (vs.length : Int) := by omega
          have hLl : (legAt ts i time).length = vs.length := by rw [legAt_len, HLEN.out]
          have hum2 : us.map TmV.t = legAt ts i time := by rw [HUM.out, ← hLl, List.take_length]
          obtain ⟨oa, oc, e, _, hoc, hoF⟩ := hS.form
          subst e
          obtain ⟨ob, ooff, e, _⟩ := hoF.row (by omega)
          subst e
          obtain rfl : ooff = 0 := by
            have := own_addr hS.own
            injection this
          obtain ⟨A, cp, hT, hcp⟩ := hS.teams
          rw [hum2, hul, ← hLl] at hT
          rw [hum2, hul, ← hLl] at hcp
          have hl64 : ∀ q, q < (legAt ts i time).length → tlen (legAt ts i time) q ≤ 9223372036854775807 := fun q hq => by
            have h1 := legAt_nth (ts := ts) (i := i) (time := time) (k := q) (by have := HLEN.out; omega)
            have h2 := HLG.out q (by have := HLEN.out; omega)
            rw [tlen, h1]
            split
            · have := HLG.out i hi
              simp
              omega
            · omega
          have hat2 := fun x (hx : Ext wr x) => spec_l16Good (w := x) (cap := oc) (legs := legs) ((hT.row (fun k hk => (hcp k hk).1) hl64).ext hx) (by omega)
          rw [hLl] at hat2
          have HA2 := Lib.hid hat2; have HT := Lib.hid hT; have HC2 := Lib.hid (fun k hk => (hcp k hk).1); have HLL := Lib.hid hLl
          have HHUL := Lib.hid hul
          clear hT hcp hat2 hl64 hLl hum2 hoF hx hS hum hoc HS HOK HR HUM
          rw [HHUL.out]
          clear hul HUL HHUL
          cases hb2 : teamsB (legAt ts i time) legs
          · rw [hb2] at HA2
            have HB2 := Lib.hid (HB.out.trans hb2)
            have HL2 := Lib.hid (show legL ts legs number time = [] by rw [HL.out, HB2.out]; rfl)
            clear hb2
            go_wp2_with fail
            refine (HA2.out _ (Ext.refl _)).mono ?_; rintro e w5 ⟨rfl, hx5⟩
            have HX5 := Lib.hid (HXR.out.trans hx5)
            clear hx5
            go_wp2
            go_ret2
            rw [HL2.out, HB2.out]
            exact ⟨some ⟨w5.heap.size, 0, none⟩, 0, rfl, HX5.out.alloc _, .inr ⟨_, _, _, rfl, HEM.out _ HX5.out, fun k hk => absurd hk (Nat.not_lt_zero _)⟩⟩
          · rw [hb2] at HA2
            have HB2 := Lib.hid (HB.out.trans hb2)
            have HL2 := Lib.hid (show legL ts legs number time = legAt ts i time by rw [HL.out, HB2.out]; rfl)
            clear hb2
            go_wp2_with fail
            refine (HA2.out _ (Ext.refl _)).mono ?_; rintro e w5 ⟨rfl, hx5⟩
            have HX5 := Lib.hid (HXR.out.trans hx5)
            have HP5 := Lib.hid (HT.out.ext hx5)
            clear hx5
            go_wp2
            go_ret2
            rw [HL2.out, HB2.out]
            exact ⟨some ⟨ob, 0, none⟩, oc, by rw [HLL.out]; rfl, HX5.out, .inr ⟨ob, _, _, rfl, HP5.out, HC2.out⟩⟩
    · have hneg : fdT ts number < 0 := by omega
      have HB := Lib.hid (show legB ts legs number time = false by unfold legB; rw [hv]; simp [hf])
      have HL := Lib.hid (show legL ts legs number time = [] by unfold legL; rw [HB.out]; rfl)
      rw [hv] at HAT
      generalize fdT ts number = q at HTI hneg
      clear hv htb hlg hf hlegs
      go_enter Try.func28, Try.ntmps28
      go_wp2_with fail
      refine (HTI.out _ (Ext.refl _)).mono ?_; rintro e w1 ⟨rfl, hx1⟩
      go_wp2_with fail
      refine (HAT.out _ hx1).mono ?_; rintro e w2 ⟨rfl, hx2⟩
      have HX := Lib.hid (hx1.trans hx2)
      clear hx1 hx2
      go_wp2
      go_ret2
      rw [HL.out, HB.out]
      exact ⟨some ⟨w2.heap.size, 0, none⟩, 0, rfl, HX.out.alloc _, .inr ⟨_, _, _, rfl, HEM.out _ HX.out, fun k hk => absurd hk (Nat.not_lt_zero _)⟩⟩

end Go.Proofs.Ytlpogglcbphilaa
