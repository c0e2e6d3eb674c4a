/-
  Proved here: the cursor's teams.
  Conditions: the cursor lies in one block; counts are small.
-/
import Derived.Test.YtlpogglcbphilaaTeamD
import Derived.Deep.RegionWith
import Derived.Deep.RegionLaw
import Derived.Deep.DrawnRows
import Derived.Deep.DeepCutAuto
import Derived.Deep.CutBlock
namespace Go.Proofs.Ytlpogglcbphilaa
open Go.RowKit

attribute [local go_sem ↓] Go.wp_at_zero Go.wp_at_succ

set_option maxRecDepth 100000 in
set_option maxHeartbeats 8000000 in
theorem cu_teams {B n : Nat} {w : World} (h : Cu w B n) (hn : n ≤ 800000) :
    Calls Try.prog 34 #[.pointer (some ⟨B, 0, none⟩)] w fun e w' => ∃ (ao : Option Addr) (cap : Nat) (vs : List TmV) (legs : Int), e = .returned (.tuple #[.slice ao vs.length cap, .int .i64 legs]) ∧ DrawnT w.heap.size w' vs ao cap ∧ (0 ≤ legs ∧ legs ≤ 5) ∧ Cu w' B (n + 200) ∧ Touch w w' (Span B (B + 1)) := by
  obtain ⟨i0, hi, hz0, hz1, hz2⟩ := info_parts infoTeam
  obtain ⟨j0, hj, hy0, hy1, hy2⟩ := info_parts infoInt
  have HI := Lib.hid hi; have HZ0 := Lib.hid hz0; have HZ1 := Lib.hid hz1; have HZ2 := Lib.hid hz2
  have HJ := Lib.hid hj; have HY0 := Lib.hid hy0; have HY1 := Lib.hid hy1; have HY2 := Lib.hid hy2
  clear hi hz0 hz1 hz2 hj hy0 hy1 hy2
  have hBl := h.lt
  have HP := Lib.hid (cu_pick (N := 4) h (by omega) (by decide) (by decide))
  clear h
  go_enter Try.func34, Try.ntmps34
  go_wp2_with fail
  refine HP.out.mono ?_; rintro e w1 ⟨x, rfl, hx, hc, ht⟩
  obtain ⟨q, rfl⟩ := Int.eq_ofNat_of_zero_le hx.1
  have hq : q < 4 := by have := hx.2; omega
  have hsz := ht.size
  have HC1 := Lib.hid (hc.ext ((Ext.refl w1).alloc (.cells #[] 51)))
  have HT1 := Lib.hid (ht.trans (Touch.of_ext ((Ext.refl w1).alloc (.cells #[] 51))))
  have HS1 := Lib.hid (OwnT.start (w := w1) (base := w.heap.size) hsz)
  clear hx hc ht HP
  go_wp2
  go_loopw [5, 6] (fun l i wr => ∃ (k : Nat) (vs : List TmV) (go : Option Addr) (gc : Nat), (1 ≤ k ∧ k ≤ 8) ∧ i = .int .i64 k ∧ l = .slice go vs.length gc ∧ vs.length + 1 ≤ k ∧ (∀ x, x ∈ vs → 0 ≤ x.t.num ∧ x.t.num ≤ 100) ∧ OwnT wr w.heap.size (.slice go vs.length gc) vs ∧ Cu wr B (n + 1 + 20 * k) ∧ Touch w wr (Span B (B + 1))) (fun _ i _ => 8 - (intOf i).toNat)
  case atStart => exact ⟨1, [], _, _, by omega, rfl, rfl, by simp, fun x hx => by simp at hx, HS1.out, HC1.out.mono (by omega), HT1.out⟩
  case round =>
    obtain ⟨k, vs, go, gc, hk, rfl, rfl, hvl, hnum, hS, hC, hT⟩ := hrel
    have hk1 := hk.1; have hk8 := hk.2
    have HN := Lib.hid hnum; have HS := Lib.hid hS; have HT := Lib.hid hT
    have hzr := hT.size
    clear hk hnum hS hT HC1 HT1 HS1
    by_cases hlt : k < 8
    · have HO := Lib.hid (cu_one (N := 3) hC (by omega) (by decide) (by decide))
      clear hC
      go_wp2_with fail
      refine HO.out.mono ?_; rintro e w2 ⟨x, rfl, hc, ht⟩
      have HC2 := Lib.hid hc; have HT2 := Lib.hid (HT.out.trans ht); have HS2 := Lib.hid (HS.out.cur ht hBl)
      have hz2 := ht.size
      clear hc ht HO HS HT
      cases x
      case true =>
        go_wp2
        go_roundw
        case rel => exact ⟨k + 1, vs, go, gc, by omega, by go_num, rfl, by omega, HN.out, HS2.out, HC2.out.mono (by omega), HT2.out⟩
        case measure => simp [intOf] <;> omega
      case false =>
        have HB0 := Lib.hid (fun T => BoxD.start (wr := w2) (num := 2 * (k : Int)) (T := T))
        go_upto_block 2 with fail
        have HX0 := Lib.hid (show ∀ T, Ext w2 ((w2.alloc (.cells #[] 3)).alloc (.cells #[.int .i64 (2 * (k : Int)), .slice (some ⟨w2.heap.size, 0, none⟩) 0 0] T)) from fun T => ((Ext.refl w2).alloc _).alloc _)
        go_cut [] (fun wc => ∃ (g c : Nat) (lg : List Int), lg.length ≤ 4 ∧ BoxD wc w2.heap.size (w2.heap.size + 1) (2 * (k : Int)) g c lg ∧ Cu wc B (n + 1 + 20 * k + 1 + 16) ∧ Touch w2 wc (Span B (B + 1)))
        case first =>
          go_wp2
          go_loopw [8] (fun i wr' => ∃ (j g c : Nat) (lg : List Int), j ≤ q + 1 ∧ i = .int .i64 j ∧ lg.length = j ∧ BoxD wr' w2.heap.size (w2.heap.size + 1) (2 * (k : Int)) g c lg ∧ Cu wr' B (n + 1 + 20 * k + 1 + 3 * j) ∧ Touch w2 wr' (Span B (B + 1))) (fun i _ => 5 - (intOf i).toNat)
          case atStart => exact ⟨0, _, _, [], by omega, rfl, rfl, HB0.out _, HC2.out.ext (HX0.out _), Touch.of_ext (HX0.out _)⟩
          case round =>
            clear HB0 HX0 HC2 HS2 HT2 HN
            obtain ⟨j, g, c, lg, hj, rfl, hlg, hB, hC, hT⟩ := hrel
            have HB := Lib.hid hB; have HTT := Lib.hid hT; have HLG := Lib.hid hlg
            by_cases hlt2 : j < q + 1
            · have HO := Lib.hid (cu_one (N := 6) hC (by omega) (by decide) (by decide))
              have hji : (j : Int) < 1 + (q : Int) := by omega
              clear hC hB hT hlg
              go_wp2_with fail
              refine HO.out.mono ?_; rintro e w3 ⟨x, rfl, hc, ht⟩
              have HC3 := Lib.hid hc; have HT3 := Lib.hid (HTT.out.trans ht); have HB3 := Lib.hid (HB.out.curs ht (by omega))
              have hz3 := HT3.out.size
              clear hc ht HO HB HTT
              cases x
              case true =>
                go_wp2_with fail
                go_meet
                exact ⟨g, c, lg, by have := HLG.out; omega, HB3.out, HC3.out.mono (by omega), HT3.out⟩
              case false =>
                have b1 := HB3.out.c1
                have bl := HB3.out.lt
                have hlgl : lg.length ≤ 4 := by have := HLG.out; omega
                have b1a : ∀ o, (w3.alloc o).cell? ⟨w2.heap.size + 1, 1, none⟩ = some (.slice (some ⟨g, 0, none⟩) lg.length c) := fun o => ((Ext.refl w3).alloc o).cells b1
                have HA := Lib.hid (fun T y hx => cu_litx (T := T) (x := y) (cs := #[.int .i64 1000, .int .i64 1200, .int .i64 1200, .int .i64 1500, .int .i64 900, .int .i64 3000, .int .i64 10000]) [1000, 1200, 1200, 1500, 900, 3000, 10000] 900 10000 HC3.out (by omega) rfl (by decide) (by decide) (by decide) hx)
                go_wp2
                go_region_law (first
                  | (refine step_append_bf (o := ⟨some 39, _, _, _, _, _⟩) (by rfl) _ _ 31 (by rfl) 3 j0 _ 1 8 Try.underlying31 HJ.out HY0.out HY1.out HY2.out rfl (by decide) icc icc_one w2.heap.size (by simp; omega) (.slice (some ⟨g, 0, none⟩) lg.length c) lg [y] L HL (by rfl) HXB.out.own ⟨w5.heap.size, 0, none⟩ 1 1 (by rfl) (by rfl) HROW.out (by simp; omega) (by simp; omega) ?_; intro go1 gc1 w6 ho1 hb1 hg1 hv1; have m1 := (HXB.out.mid hg1).2.1; have m2 := (HXB.out.mid hg1).2.2.1 1; have m3 := (HXB.out.mid hg1).2.2.2)
                  | (go_simp; go_at_call 60; refine (HA.out _ _ (Ext.refl _).drew).mono ?_; rintro e w5 ⟨y, rfl, hy, hc, ht⟩; have hB5 := HB3.out.curs ht (by omega); have b1c := hB5.c1; have bl5 := hB5.lt; have b1d : ∀ o, (w5.alloc o).cell? ⟨w2.heap.size + 1, 1, none⟩ = some (.slice (some ⟨g, 0, none⟩) lg.length c) := fun o => ((Ext.refl w5).alloc o).cells b1c; have hz5 := ht.size; obtain ⟨L, hL⟩ : ∃ L, L = lg ++ [y] := ⟨_, rfl⟩; have HL := Lib.hid hL; have HLl : Hid (L.length = lg.length + 1) := Lib.hid (by rw [hL]; simp); have hx5 := ((Ext.refl w5).alloc (.cells #[.int .i64 y] 3)); have HXB := Lib.hid (hB5.ext hx5); have HC5 := Lib.hid (hc.ext hx5); have HT5 := Lib.hid ((HT3.out.trans ht).trans (Touch.of_ext hx5)); have HROW := Lib.hid (row_lit (w := w5) (cs := #[.int .i64 y]) (T := 3) (s := 1) (cc := icc) (x := y) (by intro j hj; obtain rfl : j = 0 := (by omega); rfl)); clear hB5 hc ht hL hx5))
                all_goals
                  have hL0 : 0 < L.length := by rw [HLl.out]; omega
                  obtain ⟨g2, rfl, hBX⟩ := HXB.out.push hL0 hg1 ho1 hv1
                  have hbs : Below w2.heap.size w6 (w6.setCell ⟨w2.heap.size + 1, 1, none⟩ (.slice (some ⟨g2, 0, none⟩) L.length gc1)) := (Below.refl _ _).setCell (Nat.le_succ _) _
                  have HC6 := Lib.hid (HC5.out.below (hb1.trans hbs) (by omega))
                  have HT6 := Lib.hid (HT5.out.below (hb1.trans hbs))
                  have HB6 := Lib.hid hBX
                  have HLJ : Hid (L.length = j + 1) := Lib.hid (by rw [HLl.out, HLG.out])
                  generalize w6.setCell ⟨w2.heap.size + 1, 1, none⟩ (.slice (some ⟨g2, 0, none⟩) L.length gc1) = w7 at *
                  clear ho1 hb1 hg1 hv1 m1 m2 m3 b1 bl b1a b1c bl5 b1d HXB HROW HL HLl HLG hBX hbs HA HC5 HT5 HB3 HC3 HT3
                  have HO := Lib.hid (cu_one (N := 12) HC6.out (by omega) (by decide) (by decide))
                  go_wp2_with fail
                  refine HO.out.mono ?_; rintro e w8 ⟨x, rfl, hc, ht⟩
                  have HC8 := Lib.hid hc; have HT8 := Lib.hid (HT6.out.trans ht); have HB8 := Lib.hid (HB6.out.curs ht (by omega))
                  clear hc ht HO HB6 HC6 HT6
                  cases x
                  case false =>
                    go_wp2
                    go_roundw
                    case rel => exact ⟨j + 1, g2, gc1, L, by omega, by go_num, HLJ.out, HB8.out, HC8.out.mono (by omega), HT8.out⟩
                    case measure => simp [intOf] <;> omega
                  case true =>
                    have hjL : j < L.length := by have := HLJ.out; omega
                    have hji2 : (j : Int) < (L.length : Int) := by omega
                    have b1 := HB8.out.c1
                    have bl := HB8.out.lt
                    obtain ⟨d0, df, dg⟩ := HB8.out.leg hjL
                    have dl := World.block_lt_of_cell? _ _ d0
                    have HB9 := Lib.hid (HB8.out.set hjL 0)
                    have hbs : Below w2.heap.size w8 (w8.setCell ⟨g2, j, none⟩ (.int .i64 0)) := (Below.refl _ _).setCell dg _
                    have HC9 := Lib.hid (HC8.out.below hbs (by omega))
                    have HT9 := Lib.hid (HT8.out.below hbs)
                    clear hbs HB8 HC8 HT8
                    go_wp2_with fail
                    go_meet
                    exact ⟨g2, gc1, L.set j 0, by have := HLJ.out; simp; omega, HB9.out, HC9.out.mono (by omega), HT9.out⟩
            · obtain rfl : j = q + 1 := by omega
              have hji : ¬ ((q + 1 : Nat) : Int) < 1 + (q : Int) := by omega
              go_wp2_with fail
              go_meet
              exact ⟨g, c, lg, by have := HLG.out; omega, HB.out, hC.mono (by omega), HTT.out⟩
        case rest =>
          obtain ⟨g, c, lg, hlg, hB, hC, hT⟩ := hcut
          have b0 := hB.c0
          have b1 := hB.c1
          have bl := hB.lt
          have hzc := hT.size
          have HB := Lib.hid hB; have HC := Lib.hid hC
          have HTC := Lib.hid (HT2.out.trans hT)
          have HSC := Lib.hid (HS2.out.cur hT hBl)
          have hxl := ((Ext.refl wc).alloc (.cells #[.int .i64 (2 * (k : Int)), .slice (some ⟨g, 0, none⟩) lg.length c] 51))
          have HROW := Lib.hid (row_lit (w := wc) (cs := #[.int .i64 (2 * (k : Int)), .slice (some ⟨g, 0, none⟩) lg.length c]) (T := 51) (s := 2) (cc := TmV.c) (x := ⟨⟨2 * (k : Int), lg⟩, some ⟨g, 0, none⟩, c⟩) (by intro j hj; match j, hj with | 0, _ => rfl | 1, _ => rfl))
          have HOX := Lib.hid (HSC.out.ext hxl)
          have HLX := Lib.hid ((hB.own.ext' hxl).mono (show w.heap.size ≤ w2.heap.size by omega))
          have HFR := Lib.hid (fun b (hb : (Value.slice (some ⟨g, 0, none⟩) lg.length c).ownBlock = some b) => (own_block hB.own hb).1)
          have HXL := Lib.hid hxl
          clear hB hC hT hxl HB0
          go_wp2_with (at_builtin; refine wpList_append_bf rfl _ _ 24 rfl 51 i0 _ 2 32 Try.underlying24 HI.out HZ0.out HZ1.out HZ2.out rfl (by decide) TmV.c tm_cells w.heap.size (by simp; omega) (.slice go vs.length gc) vs [⟨⟨2 * (k : Int), lg⟩, some ⟨g, 0, none⟩, c⟩] (vs ++ [⟨⟨2 * (k : Int), lg⟩, some ⟨g, 0, none⟩, c⟩]) (Lib.hid rfl) rfl HOX.out.own ⟨wc.heap.size, 0, none⟩ 1 1 rfl rfl HROW.out (by simp; omega) (by simp; omega) ?_; intro go4 gc4 w4 ho4 hb4 hg4 hv4)
          have HP4 := Lib.hid (HS2.out.pushC (x := ⟨⟨2 * (k : Int), lg⟩, some ⟨g, 0, none⟩, c⟩) HOX.out HLX.out (by simp) HFR.out ho4 hg4 hv4.out)
          have HC4 := Lib.hid ((HC.out.ext HXL.out).below hb4 hBl)
          have HT4 := Lib.hid ((HTC.out.trans (Touch.of_ext HXL.out)).below hb4)
          clear ho4 hb4 hg4 hv4 b0 b1 bl
          go_wp2
          go_roundw
          case rel => exact ⟨k + 1, vs ++ [⟨⟨2 * (k : Int), lg⟩, some ⟨g, 0, none⟩, c⟩], go4, gc4, by omega, by go_num, by rw [List.length_append]; rfl, by simp; omega, fun x hx => by
            rw [List.mem_append, List.mem_singleton] at hx
            rcases hx with hx | rfl
            · exact HN.out x hx
            · exact ⟨by show 0 ≤ 2 * (k : Int); omega, by show 2 * (k : Int) ≤ 100; omega⟩, HP4.out, HC4.out.mono (by omega), HT4.out⟩
          case measure => simp [intOf] <;> omega
    · obtain rfl : k = 8 := by omega
      have HP := Lib.hid (cu_pick (N := 24) hC (by omega) (by decide) (by decide))
      clear hC
      go_wp2_with fail
      refine HP.out.mono ?_; rintro e w2 ⟨x, rfl, hx, hc, ht⟩
      have HC2 := Lib.hid hc; have HT2 := Lib.hid (HT.out.trans ht); have HS2 := Lib.hid (HS.out.cur ht hBl)
      have hz2 := ht.size
      have hx0 := hx.1
      clear hc ht HP HS HT hx
      by_cases e0 : x = 0
      · subst e0
        have HA := Lib.hid (fun T => cu_lit (T := T) (cs := #[.int .i64 0, .int .i64 2, .int .i64 99, .int .i64 100]) [0, 2, 99, 100] 0 100 HC2.out (by omega) rfl (by decide) (by decide) (by decide))
        go_wp2_with fail
        refine (HA.out _).mono ?_; rintro e w3 ⟨u, rfl, hu, hc, ht⟩
        have HC3 := Lib.hid hc; have HT3 := Lib.hid (HT2.out.trans ht); have HS3 := Lib.hid (HS2.out.cur ht hBl)
        have hu0 := hu.1; have hu1 := hu.2
        have hz3 := ht.size
        have HA2 := Lib.hid (fun T => cu_lit (T := T) (cs := #[.int .i64 (-1), .int .i64 10001, .int .i64 0, .int .i64 5]) [-1, 10001, 0, 5] (-1) 10001 HC3.out (by omega) rfl (by decide) (by decide) (by decide))
        clear hc ht HA HC2 HT2 HS2 hu
        go_wp2_with fail
        refine (HA2.out _).mono ?_; rintro e w4 ⟨v, rfl, hv, hc, ht⟩
        have HC4 := Lib.hid hc; have HT4 := Lib.hid (HT3.out.trans ht); have HS4 := Lib.hid (HS3.out.cur ht hBl)
        have hz4 := ht.size
        clear hc ht HA2 HC3 HT3 HS3 hv
        have hxl : Ext w4 ((w4.alloc (.cells #[.int .i64 v] 3)).alloc (.cells #[.int .i64 u, .slice (some ⟨w4.heap.size, 0, none⟩) 1 1] 51)) := ((Ext.refl w4).alloc _).alloc _
        have hrow1 := row_lit (w := w4.alloc (.cells #[.int .i64 v] 3)) (cs := #[.int .i64 u, .slice (some ⟨w4.heap.size, 0, none⟩) 1 1]) (T := 51) (s := 2) (cc := TmV.c) (x := ⟨⟨u, [v]⟩, some ⟨w4.heap.size, 0, none⟩, 1⟩) (by intro j hj; match j, hj with | 0, _ => rfl | 1, _ => rfl)
        have hleg : Owns (w4.alloc (.cells #[.int .i64 v] 3)) w4.heap.size 3 1 icc (.slice (some ⟨w4.heap.size, 0, none⟩) 1 1) [v] := own_one (Nat.le_refl _)
        have HOX := Lib.hid (HS4.out.ext hxl)
        have HLX := Lib.hid ((hleg.ext' ((Ext.refl _).alloc (.cells #[.int .i64 u, .slice (some ⟨w4.heap.size, 0, none⟩) 1 1] 51))).mono (show w.heap.size ≤ w4.heap.size by omega))
        have HXL := Lib.hid hxl; have HROW := Lib.hid hrow1
        clear hxl hrow1 hleg
        go_wp2_with (at_builtin; refine wpList_append_bf rfl _ _ 24 rfl 51 i0 _ 2 32 Try.underlying24 HI.out HZ0.out HZ1.out HZ2.out rfl (by decide) TmV.c tm_cells w.heap.size (by simp; omega) (.slice go vs.length gc) vs [⟨⟨u, [v]⟩, some ⟨w4.heap.size, 0, none⟩, 1⟩] (vs ++ [⟨⟨u, [v]⟩, some ⟨w4.heap.size, 0, none⟩, 1⟩]) (Lib.hid rfl) rfl HOX.out.own ⟨w4.heap.size + 1, 0, none⟩ 1 1 rfl rfl (by simpa using HROW.out) (by simp; omega) (by simp; omega) ?_; intro go5 gc5 w5 ho5 hb5 hg5 hv5)
        have HP5 := Lib.hid (HS4.out.pushC (x := ⟨⟨u, [v]⟩, some ⟨w4.heap.size, 0, none⟩, 1⟩) HOX.out HLX.out (by simp) (fun b hb => Nat.le_of_eq (Option.some.inj hb)) ho5 hg5 hv5.out)
        have HC5 := Lib.hid ((HC4.out.ext HXL.out).below hb5 hBl)
        have HT5 := Lib.hid ((HT4.out.trans (Touch.of_ext HXL.out)).below hb5)
        clear ho5 hb5 hg5 hv5
        go_wp2
        go_ret2
        exact ⟨go5, gc5, vs ++ [⟨⟨u, [v]⟩, some ⟨w4.heap.size, 0, none⟩, 1⟩], 1 + (q : Int), by rw [List.length_append]; rfl, ⟨HP5.out, by simp; omega, fun x hx => by
          rw [List.mem_append, List.mem_singleton] at hx
          rcases hx with hx | rfl
          · exact HN.out x hx
          · exact ⟨hu0, hu1⟩⟩, by omega, HC5.out.mono (by omega), HT5.out⟩
      · by_cases e1 : x = 1
        · subst e1
          have HA := Lib.hid (fun T => cu_lit (T := T) (cs := #[.int .i64 0, .int .i64 5, .int .i64 1]) [0, 5, 1] 0 5 HC2.out (by omega) rfl (by decide) (by decide) (by decide))
          go_wp2_with fail
          refine (HA.out _).mono ?_; rintro e w3 ⟨u, rfl, hu, hc, ht⟩
          have HC3 := Lib.hid hc; have HT3 := Lib.hid (HT2.out.trans ht); have HS3 := Lib.hid (HS2.out.cur ht hBl)
          have HU := Lib.hid hu
          clear hc ht HA HC2 HT2 HS2 hu
          go_wp2
          go_ret2
          exact ⟨go, gc, vs, u, rfl, ⟨HS3.out, by omega, HN.out⟩, HU.out, HC3.out.mono (by omega), HT3.out⟩
        · go_wp2
          go_ret2
          exact ⟨go, gc, vs, 1 + (q : Int), rfl, ⟨HS2.out, by omega, HN.out⟩, by omega, HC2.out.mono (by omega), HT2.out⟩

end Go.Proofs.Ytlpogglcbphilaa
