/-
  Proved here: what SeedHeats' reference returns.
  Conditions: the number of runners fits an int and the slice's capacity.
-/
import Derived.Test.YtpafiongiffakaaSeed3
namespace Go.Proofs.Ytpafiongiffakaa
open Go.RowKit

def okSeedS (xs : List Int) (k : Nat) : Bool := inB (nth xs k) 1 999 && !hasI xs k (nth xs k)
theorem seedB_spec (xs : List Int) (h : Int) : seedB xs h = (inB h 1 4 && inB xs.length (2 * h) (6 * h) && upto (okSeedS xs) xs.length) := by
  have hu : upto (okSeedS xs) xs.length = (onceU xs xs.length && upto (fun k => inB (nth xs k) 1 999) xs.length) := by
    rw [Bool.eq_iff_iff, Bool.and_eq_true, upto_true, upto_true, onceU, upto_true]
    simp only [okSeedS, Bool.and_eq_true]
    exact ⟨fun h => ⟨fun k hk => (h k hk).2, fun k hk => (h k hk).1⟩, fun h k hk => ⟨h.2 k hk, h.1 k hk⟩⟩
  rw [hu, Bool.eq_iff_iff]
  simp only [seedB, seedHead, Bool.and_eq_true, inB_iff, decide_eq_true_eq]
  constructor
  · rintro ⟨⟨⟨⟨h1, h2⟩, h3⟩, h4⟩, h5⟩
    exact ⟨⟨h1, by omega, by omega⟩, h3, h4⟩
  · rintro ⟨⟨h1, h2⟩, h3, h4⟩
    exact ⟨⟨⟨⟨h1, by omega, by omega⟩, h3⟩, h4⟩, by omega⟩

set_option maxRecDepth 100000 in
set_option maxHeartbeats 4000000 in
theorem spec_SeedHeats {ao : Option Addr} {cap : Nat} {xs : List Int} {heats : Int} {w : World} (hr : RowAt w ao 1 xs.length (ic xs)) (hn : xs.length ≤ 9223372036854775807) (hc : xs.length ≤ cap) (_h64 : I64 heats) :
    Calls Try.prog 4 #[.slice ao xs.length cap, .int .i64 heats] w (ResSS w (seedL xs heats) (seedB xs heats)) := by
  obtain ⟨i0, hi, hz0, hz1, hz2⟩ := info_parts infoInt
  obtain ⟨j0, hj, hy0, hy1, hy2⟩ := info_parts infoIntS
  have HI := Lib.hid hi; have HZ0 := Lib.hid hz0; have HZ1 := Lib.hid hz1; have HZ2 := Lib.hid hz2
  have HJ := Lib.hid hj; have HY0 := Lib.hid hy0; have HY1 := Lib.hid hy1; have HY2 := Lib.hid hy2
  clear hi hz0 hz1 hz2 hj hy0 hy1 hy2
  have HFN := Lib.hid (fun x (hx : Ext w x) => (show FreshAt w.heap.size (x.alloc (.cells #[] 22)) (some ⟨x.heap.size, 0, none⟩) 1 0 (fun _ _ => .slice none 0 0) from (Owns.start hx : Owns (x.alloc (.cells #[] 22)) w.heap.size 22 1 icc _ []).fresh0))
  have HR := Lib.hid hr
  clear hr
  cases c1 : inB heats 1 4
  · have hB : seedB xs heats = false := by rw [seedB_spec, c1]; rfl
    have HL := Lib.hid (show seedL xs heats = [] by unfold seedL; rw [hB]; rfl)
    have HB := Lib.hid hB
    clear hB
    go_enter Try.func4, Try.ntmps4
    go_wp2_with fail
    refine spec_l1In.mono ?_; rw [c1]; rintro e w1 ⟨rfl, rfl⟩
    go_wp2
    go_ret2
    rw [HL.out, HB.out]
    exact ⟨_, 0, fun _ => (none, 0), rfl, (Ext.refl w).alloc _, freshG_nil (HFN.out _ (Ext.refl w))⟩
  · have c1' := inB_iff.1 c1
    obtain ⟨h, rfl⟩ : ∃ h : Nat, heats = h := ⟨heats.toNat, by omega⟩
    cases c2 : inB xs.length (2 * (h : Int)) (6 * (h : Int))
    · have hB : seedB xs h = false := by rw [seedB_spec, c1, c2]; rfl
      have HL := Lib.hid (show seedL xs h = [] by unfold seedL; rw [hB]; rfl)
      have HB := Lib.hid hB
      clear hB
      go_enter Try.func4, Try.ntmps4
      go_wp2_with fail
      refine spec_l1In.mono ?_; rw [c1]; rintro e w1 ⟨rfl, rfl⟩
      go_wp2_with fail
      refine spec_l1In.mono ?_; rw [c2]; rintro e w1 ⟨rfl, rfl⟩
      go_wp2
      go_ret2
      rw [HL.out, HB.out]
      exact ⟨_, 0, fun _ => (none, 0), rfl, (Ext.refl w).alloc _, freshG_nil (HFN.out _ (Ext.refl w))⟩
    · have c2' := inB_iff.1 c2
      have hx12 : xs.length ≤ 24 := by omega
      have HBB := Lib.hid (show seedB xs h = upto (okSeedS xs) xs.length by rw [seedB_spec, c1, c2]; simp)
      have HLL := Lib.hid (show seedL xs h = if upto (okSeedS xs) xs.length then seedU xs h xs.length else [] by unfold seedL; rw [HBB.out]; simp)
      go_enter Try.func4, Try.ntmps4
      go_wp2_with fail
      refine spec_l1In.mono ?_; rw [c1]; rintro e w1 ⟨rfl, rfl⟩
      go_wp2_with fail
      refine spec_l1In.mono ?_; rw [c2]; rintro e w1 ⟨rfl, rfl⟩
      go_wp2_with (refine wpList_make_full _ rfl _ _ _ rfl (w.heap.size) 22 j0 _ 1 Try.underlying23 HJ.out HY0.out HY1.out .i64 .i64 h h h rfl rfl rfl rfl (by rw [HY2.out]; omega) (by unfold maxLen; omega) (by simp) ?_; intro w3 hown hgrow)
      have HS := Lib.hid (StG.start (Ext.refl w) hown hgrow rfl)
      have HX3 := Lib.hid (show Ext w w3 from (Below.refl _ _).grown hgrow (Nat.le_refl _) (fun k hk => by cases hk))
      clear hown hgrow
      go_wp2
      go_loopw [7] (fun i wr => ∃ (k : Nat) (f : Nat → Option Addr × Nat), k ≤ xs.length ∧ i = .int .i64 k ∧ Ext w wr ∧ StG w wr w.heap.size h f (seedU xs h k) ∧ upto (okSeedS xs) k = true) (fun i _ => xs.length - (intOf i).toNat)
      case atStart => exact ⟨0, _, Nat.zero_le _, rfl, HX3.out, HS.out, rfl⟩
      case round =>
        clear HS HX3
        obtain ⟨k, f, hk, rfl, hx, hS, hu⟩ := hrel
        have HS := Lib.hid hS; have HX := Lib.hid hx; have HU := Lib.hid hu
        clear hu hS
        by_cases hlt : k < xs.length
        · have hpre := fun x (hX : Ext wr x) => spec_l1Has (w := x) (v := nth xs k) (cap := cap) (((HR.out.ext hx).ext hX).take hk) (by omega)
          obtain ⟨b, off, rfl, hcell⟩ := intsN HR.out (by omega)
          have d0 := hx.cells (hcell k hlt)
          have g0 := Grow.cells d0
          have hA := fun x => spec_l1In (w := x) (x := nth xs k) (a := 1) (b := 999)
          have hk0 : (0 : Int) ≤ (k : Int) := by omega
          have hk1 : (k : Int) < (xs.length : Int) := by omega
          have hkc : k ≤ cap := by omega
          clear hcell hx
          cases a1 : inB (nth xs k) 1 999
          · have HF := Lib.hid (upto_false hlt (show okSeedS xs k = false by unfold okSeedS; rw [a1]; rfl))
            rw [a1] at hA
            clear a1
            go_wp2
            refine wp_region_ext (by kernel_rfl) (by kernel_rfl) ?_
            repeat (go_big_quiet_step ((first | (go_at_call 12; with_reducible exact Calls.ext_of_same (hA _)) | (go_at_call 13; with_reducible exact Calls.ext_of (hpre _ (Grow.h _))))))
            refine wpQuiet_nil ?_
            rintro _ ⟨⟨w1, hx1⟩, rfl⟩
            clear g0
            have HX1 := Lib.hid (HX.out.trans hx1)
            clear hx1
            go_wp2
            go_ret2
            rw [HLL.out, HBB.out, HF.out]
            exact ⟨_, 0, fun _ => (none, 0), rfl, HX1.out.alloc _, freshG_nil (HFN.out _ HX1.out)⟩
          · cases a2 : hasI xs k (nth xs k)
            · have HOK := Lib.hid (show okSeedS xs k = true by unfold okSeedS; rw [a1, a2]; rfl)
              rw [a1] at hA
              rw [a2] at hpre
              clear a1 a2
              go_wp2
              refine wp_region_ext (by kernel_rfl) (by kernel_rfl) ?_
              repeat (go_big_quiet_step ((first | (go_at_call 12; with_reducible exact Calls.ext_of_same (hA _)) | (go_at_call 13; with_reducible exact Calls.ext_of (hpre _ (Grow.h _))))))
              refine wpQuiet_nil ?_
              rintro _ ⟨⟨w1, hx1⟩, rfl⟩
              clear g0
              have HX1 := Lib.hid (HX.out.trans hx1)
              have HS1 := Lib.hid (HS.out.kept hx1)
              have d0 := hx1.cells d0
              clear hx1 hA hpre HS HX
              rename_i wz
              have hh2 : 2 * (h : Int) ≠ 0 := by omega
              have hsn : snake h k = if k % (2 * h) < h then k % (2 * h) else 2 * h - 1 - k % (2 * h) := rfl
              have hsl := snake_lt (h := h) (i := k) (by omega)
              have hml : k % (2 * h) < 2 * h := Nat.mod_lt _ (by omega)
              have hm : Int.tmod (k : Int) (2 * (h : Int)) = ((k % (2 * h) : Nat) : Int) := by rw [Int.tmod_eq_emod_of_nonneg hk0, Int.natCast_emod]; rfl
              have HSU := Lib.hid (show seedU xs h (k + 1) = (seedU xs h k).set (snake h k) (nth (seedU xs h k) (snake h k) ++ [nth xs k]) from rfl)
              have hlr : (nth (seedU xs h k) (snake h k)).length ≤ 6 := by
                rw [nth_len (by omega) hsl]
                exact len_le h (by omega) (by omega) k (by omega) (by omega) _ hsl
              generalize snake h k = s at *
              generalize k % (2 * h) = r at *
              have HSNK := Lib.hid hsn
              clear hsn
              go_upto_if 54 with fail
              go_cut [8] (fun v wc => v = .int .i64 (s : Nat) ∧ Ext wz wc)
              case first =>
                by_cases hp : r < h
                · have hsn := HSNK.out
                  rw [if_pos hp] at hsn
                  have hp1 : ¬ (h : Int) ≤ (r : Int) := by omega
                  have hp2 : decide ((h : Int) ≤ (r : Int)) = false := by simpa using hp1
                  go_wp2_with fail
                  go_meet
                  exact ⟨by go_num, Ext.refl _⟩
                · have hsn := HSNK.out
                  rw [if_neg hp] at hsn
                  have hp1 : (h : Int) ≤ (r : Int) := by omega
                  go_wp2_with fail
                  go_meet
                  exact ⟨by go_num, Ext.refl _⟩
              case rest =>
              obtain ⟨rfl, hxc⟩ := hcut
              have e0 := (HS1.out.kept hxc).cell s hsl
              have hOs := (HS1.out.kept hxc).size
              have d0 := hxc.cells d0
              have bl := World.block_lt_of_cell? _ _ d0
              have HSC := Lib.hid (HS1.out.kept hxc)
              have HXC := Lib.hid (HX1.out.trans hxc)
              clear hm HSNK hxc HS1 HX1
              have HRL := Lib.hid (show RowAt ((wc.alloc (.cells #[.int .i64 (nth xs k)] 3)).drew) (some ⟨wc.heap.size, 0, none⟩) 1 [nth xs k].length (fun j => icc (nth [nth xs k] j)) from by
                have := (row_lit (w := wc) (cs := #[.int .i64 (nth xs k)]) (T := 3) (s := 1) (cc := icc) (x := nth xs k) (by intro j hj; obtain rfl : j = 0 := (by omega); rfl)).ext (Ext.drew (Ext.refl _))
                simpa using this)
              have HE2 := Lib.hid (show Ext wc ((wc.alloc (.cells #[.int .i64 (nth xs k)] 3)).drew) from ((Ext.refl _).alloc _).drew)
              have hs0 : (0 : Int) ≤ (s : Int) := by omega
              have hs1 : (s : Int) < (h : Int) := by omega
              generalize hRR : seedU xs h k = R at *
              generalize hvv : nth xs k = v at *
              go_wp2
              go_region_law (refine step_append_bf (o := ⟨some 71, _, _, _, _, _⟩) rfl _ _ 22 rfl 3 i0 _ 1 8 Try.underlying22 HI.out HZ0.out HZ1.out HZ2.out rfl (by decide) icc icc_one (w.heap.size + 1) (by simp; omega) (.slice (f s).1 (nth R s).length (f s).2) (nth R s) [v] (nth R s ++ [v]) (Lib.hid rfl) rfl ((HSC.out.own s hsl).ext' HE2.out) ⟨wc.heap.size, 0, none⟩ 1 1 rfl rfl HRL.out (by simp; omega) (by simp; omega) ?_; intro go1 gc1 w4 ho4 hb4 hg4 hv4; have c4 := (Below.cell hb4 (p := ⟨w.heap.size, s, none⟩) (Nat.lt_succ_self _)).trans (HE2.out.cells e0); have fz4 := (Below.frozen hb4 (p := ⟨w.heap.size, s, none⟩) (Nat.lt_succ_self _)).trans ((HE2.out.frozenr _ _ hOs).trans (HSC.out.free s)))
              all_goals
                have HSN := Lib.hid (HSC.out.push hsl HE2.out ho4 hb4 hg4 hv4.out)
                have HXN := Lib.hid ((Ext.below (HXC.out.trans HE2.out) hb4 (Nat.le_succ _)).setCell (p := ⟨w.heap.size, s, none⟩) (Nat.le_refl _) (.slice go1 (nth R s ++ [v]).length gc1))
                clear ho4 hb4 hg4 hv4
                rw [List.length_append, List.length_singleton] at HSN HXN
                go_wp2
                go_roundw
                case rel => exact ⟨k + 1, _, by omega, by go_num, HXN.out, by rw [HSU.out]; exact HSN.out, upto_succ HU.out HOK.out⟩
                case measure => simp [intOf] <;> omega
            · have HF := Lib.hid (upto_false hlt (show okSeedS xs k = false by unfold okSeedS; rw [a1, a2]; rfl))
              rw [a1] at hA
              rw [a2] at hpre
              clear a1 a2
              go_wp2
              refine wp_region_ext (by kernel_rfl) (by kernel_rfl) ?_
              repeat (go_big_quiet_step ((first | (go_at_call 12; with_reducible exact Calls.ext_of_same (hA _)) | (go_at_call 13; with_reducible exact Calls.ext_of (hpre _ (Grow.h _))))))
              refine wpQuiet_nil ?_
              rintro _ ⟨⟨w1, hx1⟩, rfl⟩
              clear g0
              have HX1 := Lib.hid (HX.out.trans hx1)
              clear hx1
              go_wp2
              go_ret2
              rw [HLL.out, HBB.out, HF.out]
              exact ⟨_, 0, fun _ => (none, 0), rfl, HX1.out.alloc _, freshG_nil (HFN.out _ HX1.out)⟩
        · obtain rfl : k = xs.length := by omega
          have hnk : ¬ (xs.length : Int) < (xs.length : Int) := by omega
          have HFR := Lib.hid HS.out.fresh
          have hRl := HS.out.len
          clear hx
          go_wp2
          go_ret2
          rw [HLL.out, HBB.out, HU.out]
          exact ⟨some ⟨w.heap.size, 0, none⟩, h, f, by simp [hRl], HS.out.ext, HFR.out⟩

end Go.Proofs.Ytpafiongiffakaa
