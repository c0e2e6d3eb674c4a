/-
  Proved here: what Contradictions returns.
  Conditions: the number of proofs fits an int.
-/
import Derived.Test.YtfnjoinkfghalaaConR
import Derived.Test.YtfnjoinkfghalaaSortS
import Derived.Test.YtfnjoinkfghalaaArr4
import Derived.Test.YtfnjoinkfghalaaProof2
import Derived.Test.YtfnjoinkfghalaaProof4
namespace Go.Proofs.Ytfnjoinkfghalaa
open Go.RowKit

def conRL (xs : List Prf) : List (List Int) := if prfsB xs then conL xs else []

set_option maxRecDepth 100000 in
set_option maxHeartbeats 4000000 in
theorem impl_Contradictions {ao : Option Addr} {cap : Nat} {xs : List Prf} {w : World} (h : RowAt w ao 5 xs.length (fun k => (nth xs k).c)) (hn : xs.length ≤ 9223372036854775807) :
    Calls Try.prog 9 #[.slice ao xs.length cap] w (ResSS w (conRL xs) (prfsB xs)) := by
  obtain ⟨i0, hi, hz0, hz1, hz2⟩ := info_parts infoIntS
  have HI := Lib.hid hi; have HZ0 := Lib.hid hz0; have HZ1 := Lib.hid hz1; have HZ2 := Lib.hid hz2
  have HA := Lib.hid (impl_AreProofs (cap := cap) h hn)
  clear hi hz0 hz1 hz2
  cases hv : prfsB xs
  · have HL := Lib.hid (show conRL xs = [] by unfold conRL; rw [hv]; rfl)
    rw [hv] at HA
    clear hv
    go_enter Try.func9, Try.ntmps9
    go_wp2_with fail
    refine HA.out.mono ?_; rintro e w1 ⟨rfl, hx1⟩
    have HX1 := Lib.hid hx1
    clear hx1 HA
    go_wp2
    go_ret2
    rw [HL.out]
    exact ⟨none, 0, fun _ => (none, 0), rfl, HX1.out, freshG_nil fresh_nil⟩
  · have HL := Lib.hid (show conRL xs = conL xs by unfold conRL; rw [hv]; rfl)
    have hok := okPrfs_of hv
    have hl12 : xs.length ≤ 12 := by
      simp only [prfsB, Bool.and_eq_true, decide_eq_true_eq] at hv; exact hv.1
    have hcd : ∀ k, k < xs.length → 31 ≤ (nth xs k).code ∧ (nth xs k).code ≤ 99 := fun k hk => by
      simp only [prfsB, Bool.and_eq_true, upto_true, prfB, inB_iff] at hv
      exact (hv.2 k hk).1.1.2
    have HCD := Lib.hid hcd
    have HW := Lib.hid (fun x r c (hx : Ext w x) => impl_weightsOf (w := x) (cap := cap) (r := r) (c := c) (ag := true) (h.ext hx) hn hok)
    have HH := Lib.hid h
    rw [hv] at HA
    have HV := Lib.hid hv; have HOK := Lib.hid hok
    clear hv hok hcd h
    go_enter Try.func9, Try.ntmps9
    go_wp2_with fail
    refine HA.out.mono ?_; rintro e w1 ⟨rfl, hx1⟩
    have HS := Lib.hid (StR.start hx1)
    clear hx1 HA
    go_wp2
    go_loopw [4, 13] (fun o i wr => ∃ (k g gc : Nat) (X : List Row2), k ≤ xs.length ∧ i = .int .i64 k ∧ o = .slice (some ⟨g, 0, none⟩) X.length gc ∧ StR w wr g gc X ∧ X.map (fun x => (x.r, x.c)) = conU xs k ∧ X.length ≤ k ∧ ∀ x, x ∈ X → okR x) (fun _ i _ => xs.length - (intOf i).toNat)
    case atStart => exact ⟨0, _, 0, [], Nat.zero_le _, rfl, rfl, HS.out, rfl, Nat.le_refl _, fun x hx => by simp at hx⟩
    case round =>
      clear HS
      obtain ⟨k, g, gc, X, hk, rfl, rfl, hS, hX, hXl, hXo⟩ := hrel
      have HS := Lib.hid hS; have HX := Lib.hid hX; have HXO := Lib.hid hXo
      by_cases hlt : k < xs.length
      · obtain ⟨b, off, rfl, hcell⟩ := (HH.out.ext hS.ext) (by omega)
        have d0 := hcell k hlt 0 (by decide)
        have d1 := hcell k hlt 1 (by decide)
        have d2 := hcell k hlt 2 (by decide)
        have d3 := hcell k hlt 3 (by decide)
        have d4 := hcell k hlt 4 (by decide)
        simp only [Prf.c0, Prf.c1, Prf.c2, Prf.c3, Prf.c4, Nat.add_zero] at d0 d1 d2 d3 d4
        have hk0 : (0 : Int) ≤ (k : Int) := by omega
        have hk1 : (k : Int) < (xs.length : Int) := by omega
        clear hcell hS hX hXo
        have HLT := Lib.hid hlt
        have HK1 : Hid (∀ b, conB xs k = b → conU xs (k + 1) = if b then conU xs k ++ [((nth xs k).runner, (nth xs k).code)] else conU xs k) := Lib.hid (fun b hb => by rw [conU, hb])
        cases hag : (nth xs k).against
        · rw [hag] at d4
          have HCB := Lib.hid (show conB xs k = agB xs (nth xs k).runner (nth xs k).code by unfold conB; rw [hag]; rfl)
          have hx0 : Ext wr (wr.alloc (.cells #[.int .i64 (nth xs k).runner, .int .i64 (nth xs k).code, .int .i64 (nth xs k).kind, .int .i64 (nth xs k).weight, .bool false] 45)) := (Ext.refl _).alloc _
          have HX0 := Lib.hid hx0
          go_wp2_with fail
          refine (HW.out _ _ _ (HS.out.ext.alloc _)).mono ?_; rintro e w2 ⟨rfl, hx2⟩
          have q0 : w2.cell? ⟨wr.heap.size, 0, none⟩ = some (.int .i64 (nth xs k).runner) := hx2.cells (by go_simp)
          have q1 : w2.cell? ⟨wr.heap.size, 1, none⟩ = some (.int .i64 (nth xs k).code) := hx2.cells (by go_simp)
          have ql := World.block_lt_of_cell? _ _ q0
          have HX2 := Lib.hid (HX0.out.trans hx2)
          unfold wArr
          have hag4 : agB xs (nth xs k).runner (nth xs k).code = !((bestW xs (nth xs k).runner (nth xs k).code 0 true xs.length == 0) && ((bestW xs (nth xs k).runner (nth xs k).code 1 true xs.length == 0) && ((bestW xs (nth xs k).runner (nth xs k).code 2 true xs.length == 0) && (bestW xs (nth xs k).runner (nth xs k).code 3 true xs.length == 0)))) := by
            unfold agB
            generalize bestW xs (nth xs k).runner (nth xs k).code 0 true xs.length = a0
            generalize bestW xs (nth xs k).runner (nth xs k).code 1 true xs.length = a1
            generalize bestW xs (nth xs k).runner (nth xs k).code 2 true xs.length = a2
            generalize bestW xs (nth xs k).runner (nth xs k).code 3 true xs.length = a3
            by_cases h0 : a0 = 0 <;> by_cases h1 : a1 = 0 <;> by_cases h2 : a2 = 0 <;> by_cases h3 : a3 = 0 <;> simp [h0, h1, h2, h3]
          have HAG := Lib.hid hag4
          clear hag4 hx2 hx0 d0 d1 d2 d3 d4 hag
          generalize bestW xs (nth xs k).runner (nth xs k).code 0 true xs.length = a0 at HAG ⊢
          generalize bestW xs (nth xs k).runner (nth xs k).code 1 true xs.length = a1 at HAG ⊢
          generalize bestW xs (nth xs k).runner (nth xs k).code 2 true xs.length = a2 at HAG ⊢
          generalize bestW xs (nth xs k).runner (nth xs k).code 3 true xs.length = a3 at HAG ⊢
          have HCD2 := Lib.hid (HCD.out k hlt)
          generalize (nth xs k).runner = R at HAG HCB HK1 q0 ⊢
          generalize (nth xs k).code = C at HAG HCB HK1 HCD2 q1 ⊢
          obtain ⟨zb, hzb⟩ : ∃ z, z = ((a0 == 0) && ((a1 == 0) && ((a2 == 0) && (a3 == 0)))) := ⟨_, rfl⟩
          have HEQ : ∀ (w : World), (Op.equalIn 10000 67 (.agg #[.int .i64 a0, .int .i64 a1, .int .i64 a2, .int .i64 a3]) (.agg #[.int .i64 0, .int .i64 0, .int .i64 0, .int .i64 0])).run Try.prog w = .ok zb w := fun w => by rw [hzb]; exact run_eq4 w
          have HCB2 := Lib.hid (show conB xs k = !zb by rw [HCB.out, HAG.out, hzb])
          clear hzb HAG HCB
          cases zb
          · have HK2 := Lib.hid (HK1.out true HCB2.out)
            have HN1 := Lib.hid (show okR ⟨w2.heap.size, R, C⟩ from ⟨by show 0 ≤ C; have := HCD2.out.1; omega, by show C ≤ 99; have := HCD2.out.2; omega⟩)
            have hrow2 := fun (x : World) (r : Row2) => row_lit (w := x) (cs := #[r.v]) (T := 48) (s := 1) (cc := rcc) (x := r) (by intro j hj; obtain rfl : j = 0 := (by omega); rfl)
            have HR2 := Lib.hid (show RowAt ((w2.alloc (.cells #[.int .i64 R, .int .i64 C] 3)).alloc (.cells #[.slice (some ⟨w2.heap.size, 0, none⟩) 2 2] 48)) (some ⟨w2.heap.size + 1, 0, none⟩) 1 [(⟨w2.heap.size, R, C⟩ : Row2)].length (fun k => rcc (nth [(⟨w2.heap.size, R, C⟩ : Row2)] k)) by
              have := hrow2 (w2.alloc (.cells #[.int .i64 R, .int .i64 C] 3)) ⟨w2.heap.size, R, C⟩
              simpa [Row2.v] using this)
            have HE2 := Lib.hid (show Ext wr ((w2.alloc (.cells #[.int .i64 R, .int .i64 C] 3)).alloc (.cells #[.slice (some ⟨w2.heap.size, 0, none⟩) 2 2] 48)) from (HX2.out.alloc _).alloc _)
            have HIN := Lib.hid (show In2 ((w2.alloc (.cells #[.int .i64 R, .int .i64 C] 3)).alloc (.cells #[.slice (some ⟨w2.heap.size, 0, none⟩) 2 2] 48)) ⟨w2.heap.size, R, C⟩ from (In2.of (T := 3)).ext ((Ext.refl _).alloc _))
            have hws : w.heap.size ≤ w2.heap.size + 1 + 1 := by have := HS.out.ext.size; have := HX2.out.size; omega
            have hwb : wr.heap.size ≤ w2.heap.size := HX2.out.size
            have hX12 : X.length ≤ 12 := by omega
            clear hrow2
            go_wp2_with (at_builtin; refine wpList_append_bf rfl _ _ 24 rfl 48 i0 _ 1 24 Try.underlying24 HI.out HZ0.out HZ1.out HZ2.out rfl (by decide) rcc rcc_one w.heap.size (by simp; omega) (.slice (some ⟨g, 0, none⟩) X.length gc) X [⟨w2.heap.size, R, C⟩] (X ++ [⟨w2.heap.size, R, C⟩]) (Lib.hid rfl) rfl (HS.out.own.ext' HE2.out) ⟨w2.heap.size + 1, 0, none⟩ 1 1 rfl rfl HR2.out (by simp; omega) (by simp; omega) ?_; intro go1 gc1 w4 ho4 hb4 hg4 hv4)
            have hP := HS.out.push HE2.out HIN.out hwb rfl ho4 hb4 hg4 (by rcases hv4.out with e | e; (exact .inl e); (exact .inr (by simpa using e)))
            obtain ⟨g', rfl, hP⟩ := hP
            have HP := Lib.hid hP
            clear hP ho4 hb4 hg4 hv4
            go_wp2
            go_roundw
            case rel => exact ⟨k + 1, g', gc1, X ++ [⟨w2.heap.size, R, C⟩], by omega, by go_num, by rw [List.length_append]; rfl, HP.out, by rw [HK2.out, List.map_append, HX.out]; rfl, by simp; omega, fun x hx => by rw [List.mem_append, List.mem_singleton] at hx; rcases hx with hx | hx; (exact HXO.out x hx); (subst hx; exact HN1.out)⟩
            case measure => simp [intOf] <;> omega
          · have HK2 := Lib.hid (HK1.out false HCB2.out)
            have HS2 := Lib.hid (HS.out.kept HX2.out)
            go_wp2
            go_roundw
            case rel => exact ⟨k + 1, g, gc, X, by omega, by go_num, rfl, HS2.out, by rw [HK2.out]; exact HX.out, by omega, HXO.out⟩
            case measure => simp [intOf] <;> omega
        · rw [hag] at d4
          have HCB := Lib.hid (show conB xs k = false by unfold conB; rw [hag]; rfl)
          have HK2 := Lib.hid (HK1.out false HCB.out)
          go_wp2
          go_roundw
          case rel => exact ⟨k + 1, g, gc, X, by omega, by go_num, rfl, HS.out.kept (by repeat (first | (with_reducible exact Ext.refl _) | (with_reducible assumption) | with_reducible refine Ext.drew ?_ | with_reducible refine Ext.alloc ?_ _ | with_reducible refine Ext.setCell ?_ (by first | (simp; done) | (simp; omega) | omega) _ | with_reducible refine Ext.trans ?_ (by with_reducible assumption))), by rw [HK2.out]; exact HX.out, by omega, HXO.out⟩
          case measure => simp [intOf] <;> omega
      · obtain rfl : k = xs.length := by omega
        have hnk : ¬ (xs.length : Int) < (xs.length : Int) := by omega
        obtain ⟨ag, cg, eg, hFg, _, hcg, hcg2⟩ := hS.own.fresh
        injection eg with e1 e2 e3
        subst e1 e3
        have hgl : g < wr.heap.size := (hFg.base _ rfl).2
        have hgb : w.heap.size ≤ g := (hFg.base _ rfl).1
        have hH0 : HoldsA wr wr g X.length Row2.v X := ⟨grown_refl _ _, hgl, fun k hk => by
          obtain ⟨b, off, e, H⟩ := hFg.row (by omega)
          injection e with e; injection e with e1 e2; subst e1 e2
          have := H k hk 0 (by decide)
          rw [show 0 + k * 1 + 0 = k by omega] at this
          exact this, fun j => hFg.free g 0 rfl j⟩
        have hrows : ∀ x, x ∈ X → ∀ w', wr.grownBy w' (some g) → RowAt w' (some ⟨x.blk, 0, none⟩) 1 x.l.length (ic x.l) := fun x hx w' hg => ((hS.inn x hx).1.grown hg (hS.inn x hx).2.2).row
        have HR := Lib.hid hrows
        have HSORT := Lib.hid (sortFunc_S (cap := gc) (co := coR) (F := 48) (entersF_of Try.func48 (by kernel_rfl) rfl) (by omega) hH0 (fun x => ⟨_, _, _, rfl⟩)
          (fun a b ha hb w' hg => (slices_Compare (ac := 2) (bc := 2) (hrows a ha w' hg) (hrows b hb w' hg) (by show 2 ≤ 9223372036854775807; decide) (by show 2 ≤ 9223372036854775807; decide)).mono fun e w'' ⟨he, hw⟩ => ⟨he, hw ▸ Ext.refl _⟩)
          (fun a b ha hb h => by have h1 := (coR_neg (hXo a ha) (hXo b hb)).1 h; have h2 := mt (coR_neg (hXo b hb) (hXo a ha)).1 (by omega); omega)
          (fun a b c ha hb hc h1 h2 => by
            have k1 := mt (coR_neg (hXo b hb) (hXo a ha)).2 (by omega)
            have k2 := mt (coR_neg (hXo c hc) (hXo b hb)).2 (by omega)
            have k3 := mt (coR_neg (hXo c hc) (hXo a ha)).1 (by omega)
            omega))
        have HG := Lib.hid (show ∀ x y, wr.grownBy x (some g) → x.grownBy y (some g) → Ext w y from fun x y h1 h2 => grown_ext (grown_ext hS.ext h1 (fun k e => by injection e with e; omega)) h2 (fun k e => by injection e with e; omega))
        have HIN := Lib.hid (show ∀ x, x ∈ X → In2 wr x ∧ w.heap.size ≤ x.blk ∧ x.blk ≠ g from hS.inn)
        have HDI := Lib.hid hS.dist
        have hX12 : X.length ≤ 12 := by omega
        clear hS hX hXo hFg hH0 hrows hcg2
        go_wp2_with fail
        refine HSORT.out.mono ?_; rintro e w2 ⟨rfl, d, hd, hs, hH1⟩
        have hdl := hd.length_eq
        have HE := Lib.hid (con_final HOK.out HX.out hd hs HXO.out)
        have hH2 : HoldsA w2 w2 g d.length Row2.v d := ⟨grown_refl _ _, hH1.size, by rw [hdl]; exact hH1.cell, hH1.free⟩
        have hcomp := compactFunc_S (cap := gc) (q := eqR) (F := 50) (entersF_of Try.func50 (by kernel_rfl) rfl) (by omega) (by omega) hH2 (fun x => ⟨_, _, _, rfl⟩)
          (fun a b ha hb w' hg => slices_Equal (ac := 2) (bc := 2) (HR.out a (hd.mem_iff.1 ha) w' (grown_trans hH1.grown hg)) (HR.out b (hd.mem_iff.1 hb) w' (grown_trans hH1.grown hg)) (by show 2 ≤ 9223372036854775807; decide) (by show 2 ≤ 9223372036854775807; decide))
        rw [hdl] at hcomp
        have HC := Lib.hid hcomp
        have HSUB := Lib.hid (show ∀ x, x ∈ keepU eqR d X.length → x ∈ X from fun x hx => hd.mem_iff.1 (List.mem_of_mem_take ((keepU_sub eqR d _ (by omega)).subset hx)))
        have HDS := Lib.hid (show (keepU eqR d X.length).Pairwise (fun a b => a.blk ≠ b.blk) from by
          have h1 : d.Pairwise (fun a b => a.blk ≠ b.blk) := (hd.pairwise_iff (fun h => fun e => h e.symm)).2 HDI.out
          exact (h1.sublist (List.take_sublist _ _)).sublist (keepU_sub eqR d _ (by omega)))
        have HG1 := Lib.hid hH1.grown
        generalize keepU eqR d X.length = E at HC HE HSUB HDS
        clear hd hs hH1 hH2 hcomp hdl HSORT
        go_wp2_with fail
        refine HC.out.mono ?_; rintro e w3 ⟨rfl, hH3⟩
        have HH3 := Lib.hid hH3
        clear hH3 HC
        go_wp2
        go_ret2
        rw [HL.out, ← HE.out]
        have hH3 := HH3.out
        have hF : FreshAt w.heap.size w3 (some ⟨g, 0, none⟩) 1 E.length (fun k => rcc (nth E k)) := ⟨fun _ => ⟨g, 0, rfl, fun k hk j hj => by
          obtain rfl : j = 0 := by omega
          rw [show 0 + k * 1 + 0 = k by omega]
          exact hH3.cell k hk⟩, fun a e => by injection e with e; subst e; exact ⟨hgb, hH3.size⟩, fun b off e j => by injection e with e; injection e with e1 e2; subst e1; exact hH3.free j⟩
        refine ⟨some ⟨g, 0, none⟩, gc, _, (by rw [List.length_map]; rfl), HG.out _ _ HG1.out hH3.grown, rows_fresh hF (fun x hx => ?_) HDS.out⟩
        have h1 := HIN.out x (HSUB.out x hx)
        exact ⟨(h1.1.grown HG1.out h1.2.2).grown hH3.grown h1.2.2, h1.2⟩

end Go.Proofs.Ytfnjoinkfghalaa
