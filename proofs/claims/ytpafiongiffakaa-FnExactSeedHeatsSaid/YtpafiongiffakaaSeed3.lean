/-
  Proved here: what SeedHeats returns.
  Conditions: the number of runners fits an int and the slice's capacity.
-/
import Derived.Test.YtpafiongiffakaaSeed2
import Derived.Test.YtpafiongiffakaaHeat2
import Derived.Test.YtpafiongiffakaaIdxInts
import Derived.IntWalk
import Derived.Deep.RegionLaw
import Derived.Deep.DeepCutAuto
import Derived.Deep.DrawnRows
namespace Go.Proofs.Ytpafiongiffakaa
open Go.RowKit

theorem impl_SeedHeats_1 {a : Int} {w : World} : Calls Try.prog 17 #[.int .i64 a] w fun e w' => e = .returned (.bool (!inB a 1 999)) ∧ Ext w w' := by
  go_enter Try.func17, Try.ntmps17
  go_wp2_with (go_at_call 18; refine (impl_isRunnerNumber).mono ?_; rintro e w1 ⟨rfl, rfl⟩)
  go_ret
  exact ⟨ret_b rfl, (by repeat (first | (with_reducible exact Ext.refl _) | (with_reducible assumption) | with_reducible refine Ext.drew ?_ | with_reducible refine Ext.alloc ?_ _ | with_reducible refine Ext.setCell ?_ (by first | (simp; done) | (simp; omega) | omega) _ | with_reducible refine Ext.trans ?_ (by with_reducible assumption)))⟩

set_option maxRecDepth 100000 in
set_option maxHeartbeats 4000000 in
theorem impl_SeedHeats {ao : Option Addr} {cap : Nat} {xs : List Int} {heats : Int} {w : World} (hr : RowAt w ao 1 xs.length (ic xs)) (hn : xs.length ≤ 9223372036854775807) (hc : xs.length ≤ cap) (_h64 : I64 heats) :
    Calls Try.prog 6 #[.slice ao xs.length cap, .int .i64 heats] w (ResSS w (seedL xs heats) (seedB xs heats)) := by
  obtain ⟨i0, hi, hz0, hz1, hz2⟩ := info_parts infoInt
  obtain ⟨j0, hj, hy0, hy1, hy2⟩ := info_parts infoIntS
  have HI := Lib.hid hi; have HZ0 := Lib.hid hz0; have HZ1 := Lib.hid hz1; have HZ2 := Lib.hid hz2
  have HJ := Lib.hid hj; have HY0 := Lib.hid hy0; have HY1 := Lib.hid hy1; have HY2 := Lib.hid hy2
  clear hi hz0 hz1 hz2 hj hy0 hy1 hy2
  have HCF := Lib.hid (fun x (hx : Ext w x) => containsFunc_Int (w := x) (cap := cap) (caps := #[]) (p := fun a => !inB a 1 999) (hr.ext hx) hn (entersF_of Try.func17 (by kernel_rfl) rfl) (fun a w' _ => impl_SeedHeats_1))
  by_cases hd : seedHead xs heats = true
  · have HD := Lib.hid hd
    simp only [seedHead, Bool.and_eq_true] at hd
    obtain ⟨⟨⟨h1, h2⟩, h3⟩, h4⟩ := hd
    have h1' := inB_iff.1 h1
    have h2' := inB_iff.1 h2
    obtain ⟨h, rfl⟩ : ∃ h : Nat, heats = h := ⟨heats.toNat, by omega⟩
    have hng : ¬ ((xs.length : Int) > (h : Int) * 6) := by omega
    have hup : (!upto (fun k => !!inB (nth xs k) 1 999) xs.length) = false := by
      simp only [Bool.not_not]
      rw [h4]; rfl
    simp only [hup] at HCF
    have HR := Lib.hid hr
    have H3 := Lib.hid h3
    clear hr h2 h2' h3 h4 hup _h64
    have hx12 : xs.length ≤ 24 := by omega
    go_enter Try.func6, Try.ntmps6
    go_wp2_with (first | (go_at_call 14; refine (impl_inside).mono ?_; rintro e w1 ⟨rfl, rfl⟩) | (go_at_call 15; refine (impl_hasTwice HR.out hn hc).mono ?_; rw [H3.out]; rintro e w1 ⟨rfl, hx1⟩) | (go_at_call 16; refine (HCF.out _ hx1).mono ?_; rintro e w2 ⟨rfl, hx2⟩; have hy := Ext.trans hx1 hx2) | (refine wpList_make_full _ rfl _ _ _ rfl (w2.heap.size) 22 j0 _ 1 Try.underlying23 HJ.out HY0.out HY1.out .i64 .i64 h h h rfl rfl rfl rfl (by rw [HY2.out]; omega) (by unfold maxLen; omega) (by simp) ?_; intro w3 hown hgrow))
    have HXY := Lib.hid hy
    have HD2 := Lib.hid (seed_fin (h := h) HD.out)
    have HR2 := Lib.hid (HR.out.ext hy)
    clear hx1 hx2 hy HCF HR H3
    have HS := Lib.hid (StG.start HXY.out hown hgrow rfl)
    have HX3 := Lib.hid (show Ext w2 w3 from (Below.refl _ _).grown hgrow (Nat.le_refl _) (fun k hk => by cases hk))
    clear hown hgrow
    go_wp2
    go_loopw [34] (fun i wr => ∃ (k : Nat) (f : Nat → Option Addr × Nat), k ≤ xs.length ∧ i = .int .i64 k ∧ Ext w2 wr ∧ StG w wr w2.heap.size h f (seedU xs h k)) (fun i _ => xs.length - (intOf i).toNat)
    case atStart => exact ⟨0, _, Nat.zero_le _, rfl, HX3.out, HS.out⟩
    case round =>
      clear HS HX3
      obtain ⟨k, f, hk, rfl, hx, hS⟩ := hrel
      have HS := Lib.hid hS; have HX := Lib.hid hx
      by_cases hlt : k < xs.length
      · obtain ⟨b, off, rfl, hcell⟩ := intsN HR2.out (by omega)
        have d0 := hx.cells (hcell k hlt)
        have hk0 : (0 : Int) ≤ (k : Int) := by omega
        have hk1 : (k : Int) < (xs.length : Int) := by omega
        have hh0 : (h : Int) ≠ 0 := by omega
        have hsn := snake_impl (h := h) (i := k) (by omega)
        have hsl := snake_lt (h := h) (i := k) (by omega)
        have hrl : k % h < h := Nat.mod_lt _ (by omega)
        have hql : k / h ≤ k := Nat.div_le_self _ _
        have hm : Int.tmod (k : Int) (h : Int) = ((k % h : Nat) : Int) := by rw [Int.tmod_eq_emod_of_nonneg hk0, Int.natCast_emod]
        have hq : Int.tdiv (k : Int) (h : Int) = ((k / h : Nat) : Int) := by rw [Int.tdiv_eq_ediv_of_nonneg hk0, Int.natCast_ediv]
        have HSU := Lib.hid (show seedU xs h (k + 1) = (seedU xs h k).set (snake h k) (nth (seedU xs h k) (snake h k) ++ [nth xs k]) from rfl)
        generalize k % h = r at *
        generalize k / h = q at *
        generalize snake h k = s at *
        have hq3 : wrap64 ((k : Int) / (h : Int)) = (q : Int) := by rw [← Int.tdiv_eq_ediv_of_nonneg hk0, hq]; unfold wrap64; omega
        clear hq
        have hpar : Int.tmod (q : Int) 2 = ((q % 2 : Nat) : Int) := by rw [Int.tmod_eq_emod_of_nonneg (by omega)]; omega
        have HS64 := Lib.hid hsn
        clear hcell hx hS hsn
        go_upto_if 46 with fail
        go_cut [9] (fun v wc => v = .int .i64 (s : Nat) ∧ Ext wr wc)
        case first =>
          by_cases hp : q % 2 = 1
          · have hsn := HS64.out
            rw [if_pos hp] at hsn
            have hp1 : Int.tmod (q : Int) 2 = 1 := by rw [hpar, hp]; omega
            go_wp2_with fail
            go_meet
            exact ⟨by go_num, Ext.refl _⟩
          · have hsn := HS64.out
            rw [if_neg hp] at hsn
            have hp1 : Int.tmod (q : Int) 2 = 0 := by rw [hpar, show q % 2 = 0 by omega]; omega
            go_wp2_with fail
            go_meet
            exact ⟨by go_num, Ext.refl _⟩
        case rest =>
        obtain ⟨rfl, hxc⟩ := hcut
        have HXC := Lib.hid hxc
        have e0 := (HS.out.kept hxc).cell s hsl
        have HSC := Lib.hid (HS.out.kept hxc)
        clear hm hq3 hpar HS64 hxc
        have hlr : (nth (seedU xs h k) s).length ≤ 6 := by
          rw [nth_len (by omega) hsl]
          exact len_le h (by omega) (by omega) k (by omega) (by omega) s hsl
        have hOs := HSC.out.size
        have HRL := Lib.hid (show RowAt (wc.alloc (.cells #[.int .i64 (nth xs k)] 3)) (some ⟨wc.heap.size, 0, none⟩) 1 [nth xs k].length (fun j => icc (nth [nth xs k] j)) from by
          have := row_lit (w := wc) (cs := #[.int .i64 (nth xs k)]) (T := 3) (s := 1) (cc := icc) (x := nth xs k) (by intro j hj; obtain rfl : j = 0 := (by omega); rfl)
          simpa using this)
        have hs0 : (0 : Int) ≤ (s : Int) := by omega
        have hs1 : (s : Int) < (h : Int) := by omega
        generalize hRR : seedU xs h k = R at *
        go_wp2_with (at_builtin; refine wpList_append_bf rfl _ _ 22 rfl 3 i0 _ 1 8 Try.underlying22 HI.out HZ0.out HZ1.out HZ2.out rfl (by decide) icc icc_one (w2.heap.size + 1) (by simp; omega) (.slice (f s).1 (nth R s).length (f s).2) (nth R s) [nth xs k] (nth R s ++ [nth xs k]) (Lib.hid rfl) rfl ((HSC.out.own s hsl).ext' ((Ext.refl wc).alloc _)) ⟨wc.heap.size, 0, none⟩ 1 1 rfl rfl HRL.out (by simp; omega) (by simp; omega) ?_; intro go1 gc1 w4 ho4 hb4 hg4 hv4; have c4 := (Below.cell hb4 (p := ⟨w2.heap.size, s, none⟩) (Nat.lt_succ_self _)).trans (((Ext.refl wc).alloc _).cells e0); have fz4 := (Below.frozen hb4 (p := ⟨w2.heap.size, s, none⟩) (Nat.lt_succ_self _)).trans ((((Ext.refl wc).alloc _).frozenr _ _ hOs).trans (HSC.out.free s)))
        have HSN := Lib.hid (HSC.out.push hsl ((Ext.refl wc).alloc _) ho4 hb4 hg4 hv4.out)
        have HXN := Lib.hid ((Ext.below ((HX.out.trans HXC.out).alloc _) hb4 (Nat.le_succ _)).setCell (p := ⟨w2.heap.size, s, none⟩) (Nat.le_refl _) (.slice go1 (nth R s ++ [nth xs k]).length gc1))
        clear ho4 hb4 hg4 hv4
        rw [List.length_append, List.length_singleton] at HSN HXN
        go_wp2
        go_roundw
        case rel => exact ⟨k + 1, _, by omega, by go_num, HXN.out, by rw [HSU.out]; exact HSN.out⟩
        case measure => simp [intOf] <;> omega
      · obtain rfl : k = xs.length := by omega
        have hnk : ¬ (xs.length : Int) < (xs.length : Int) := by omega
        have HLE := Lib.hid (fun j hj => (show (nth (seedU xs h xs.length) j).length ≤ 6 from by rw [nth_len (by omega) hj]; exact len_le h (by omega) (by omega) xs.length (by omega) (by omega) j hj))
        have HBB := Lib.hid (show seedB xs h = decide (2 * (h : Int) ≤ xs.length) by unfold seedB; rw [HD.out]; rfl)
        have HLL := Lib.hid (show seedL xs h = if decide (2 * (h : Int) ≤ xs.length) = true then seedU xs h xs.length else [] by unfold seedL; rw [HBB.out]; simp)
        generalize seedU xs h xs.length = R at *
        clear hx hS
        go_wp2
        go_loopw [64] (fun i wy => ∃ j : Nat, j ≤ h ∧ i = .int .i64 j ∧ Ext wr wy ∧ upto (okHeats R) j = true) (fun i _ => h - (intOf i).toNat)
        case atStart => exact ⟨0, Nat.zero_le _, rfl, Ext.refl _, rfl⟩
        case round =>
          obtain ⟨j, hj, rfl, hxy, hu⟩ := hrel
          have HU := Lib.hid hu; have HXY2 := Lib.hid hxy
          clear hu
          by_cases hjl : j < h
          · have e0 := (HS.out.kept hxy).cell j hjl
            have hOs := (HS.out.kept hxy).size
            have hj0 : (0 : Int) ≤ (j : Int) := by omega
            have hj1 : (j : Int) < (h : Int) := by omega
            cases hin : inB (nth R j).length 2 6
            · have HF := Lib.hid (HD2.out.symm.trans (upto_false hjl (by unfold okHeats; exact hin)))
              go_wp2_with fail
              refine impl_inside.mono ?_; rw [hin]; rintro e w5 ⟨rfl, rfl⟩
              go_wp2
              go_ret2
              rw [HLL.out, HBB.out, HF.out]
              exact ⟨none, 0, fun _ => (none, 0), rfl, HS.out.ext.trans HXY2.out, freshG_nil fresh_nil⟩
            · go_wp2_with fail
              refine impl_inside.mono ?_; rw [hin]; rintro e w5 ⟨rfl, rfl⟩
              go_wp2
              go_roundw
              case rel => exact ⟨j + 1, by omega, by go_num, HXY2.out, upto_succ HU.out (by unfold okHeats; exact hin)⟩
              case measure => simp [intOf] <;> omega
          · obtain rfl : j = h := by omega
            have hnj : ¬ (j : Int) < (j : Int) := by omega
            have HF := Lib.hid (HD2.out.symm.trans HU.out)
            have HFR := Lib.hid (HS.out.kept hxy).fresh
            have hRl := HS.out.len
            clear hxy
            go_wp2
            go_ret2
            rw [HLL.out, HBB.out, HF.out]
            exact ⟨some ⟨w2.heap.size, 0, none⟩, j, f, by simp [hRl], HS.out.ext.trans HXY2.out, HFR.out⟩
  · have hB : seedB xs heats = false := by unfold seedB; simp only [Bool.not_eq_true] at hd; rw [hd]; rfl
    have HL := Lib.hid (show seedL xs heats = [] by unfold seedL; rw [hB]; rfl)
    have HB := Lib.hid hB
    have HR := Lib.hid hr
    have HD := Lib.hid hd
    clear hB hr hd
    cases c1 : inB heats 1 4
    · go_enter Try.func6, Try.ntmps6
      go_wp2_with (first | (go_at_call 14; refine impl_inside.mono ?_; rw [c1]; rintro e w1 ⟨rfl, rfl⟩) | (go_at_call 15; refine (impl_hasTwice HR.out hn hc).mono ?_; rw [c3]; rintro e w1 ⟨rfl, hx1⟩) | (go_at_call 16; refine (HCF.out _ hx1).mono ?_; rintro e w2 ⟨rfl, hx2⟩; have hy := Ext.trans hx1 hx2))
      go_ret2
      rw [HL.out, HB.out]
      exact ⟨none, 0, fun _ => (none, 0), rfl, (by repeat (first | (with_reducible exact Ext.refl _) | (with_reducible assumption) | with_reducible refine Ext.drew ?_ | with_reducible refine Ext.alloc ?_ _ | with_reducible refine Ext.setCell ?_ (by first | (simp; done) | (simp; omega) | omega) _ | with_reducible refine Ext.trans ?_ (by with_reducible assumption))), freshG_nil fresh_nil⟩
    · have c1' := inB_iff.1 c1
      obtain ⟨h, rfl⟩ : ∃ h : Nat, heats = h := ⟨heats.toNat, by omega⟩
      by_cases c2 : (h : Int) * 6 < xs.length
      · go_enter Try.func6, Try.ntmps6
        go_wp2_with (first | (go_at_call 14; refine impl_inside.mono ?_; rw [c1]; rintro e w1 ⟨rfl, rfl⟩) | (go_at_call 15; refine (impl_hasTwice HR.out hn hc).mono ?_; rw [c3]; rintro e w1 ⟨rfl, hx1⟩) | (go_at_call 16; refine (HCF.out _ hx1).mono ?_; rintro e w2 ⟨rfl, hx2⟩; have hy := Ext.trans hx1 hx2))
        go_ret2
        rw [HL.out, HB.out]
        exact ⟨none, 0, fun _ => (none, 0), rfl, (by repeat (first | (with_reducible exact Ext.refl _) | (with_reducible assumption) | with_reducible refine Ext.drew ?_ | with_reducible refine Ext.alloc ?_ _ | with_reducible refine Ext.setCell ?_ (by first | (simp; done) | (simp; omega) | omega) _ | with_reducible refine Ext.trans ?_ (by with_reducible assumption))), freshG_nil fresh_nil⟩
      · cases c3 : onceU xs xs.length
        · go_enter Try.func6, Try.ntmps6
          go_wp2_with (first | (go_at_call 14; refine impl_inside.mono ?_; rw [c1]; rintro e w1 ⟨rfl, rfl⟩) | (go_at_call 15; refine (impl_hasTwice HR.out hn hc).mono ?_; rw [c3]; rintro e w1 ⟨rfl, hx1⟩) | (go_at_call 16; refine (HCF.out _ hx1).mono ?_; rintro e w2 ⟨rfl, hx2⟩; have hy := Ext.trans hx1 hx2))
          go_ret2
          rw [HL.out, HB.out]
          exact ⟨none, 0, fun _ => (none, 0), rfl, (by repeat (first | (with_reducible exact Ext.refl _) | (with_reducible assumption) | with_reducible refine Ext.drew ?_ | with_reducible refine Ext.alloc ?_ _ | with_reducible refine Ext.setCell ?_ (by first | (simp; done) | (simp; omega) | omega) _ | with_reducible refine Ext.trans ?_ (by with_reducible assumption))), freshG_nil fresh_nil⟩
        · cases c4 : upto (fun k => inB (nth xs k) 1 999) xs.length
          · have hup : (!upto (fun k => !!inB (nth xs k) 1 999) xs.length) = true := by
              simp only [Bool.not_not]
              rw [c4]; rfl
            simp only [hup] at HCF
            go_enter Try.func6, Try.ntmps6
            go_wp2_with (first | (go_at_call 14; refine impl_inside.mono ?_; rw [c1]; rintro e w1 ⟨rfl, rfl⟩) | (go_at_call 15; refine (impl_hasTwice HR.out hn hc).mono ?_; rw [c3]; rintro e w1 ⟨rfl, hx1⟩) | (go_at_call 16; refine (HCF.out _ hx1).mono ?_; rintro e w2 ⟨rfl, hx2⟩; have hy := Ext.trans hx1 hx2))
            go_ret2
            rw [HL.out, HB.out]
            exact ⟨none, 0, fun _ => (none, 0), rfl, (by repeat (first | (with_reducible exact Ext.refl _) | (with_reducible assumption) | with_reducible refine Ext.drew ?_ | with_reducible refine Ext.alloc ?_ _ | with_reducible refine Ext.setCell ?_ (by first | (simp; done) | (simp; omega) | omega) _ | with_reducible refine Ext.trans ?_ (by with_reducible assumption))), freshG_nil fresh_nil⟩
          · exfalso
            refine HD.out ?_
            unfold seedHead
            rw [c1, c3, c4, inB_iff.2 ⟨by omega, by omega⟩]
            rfl

end Go.Proofs.Ytpafiongiffakaa
