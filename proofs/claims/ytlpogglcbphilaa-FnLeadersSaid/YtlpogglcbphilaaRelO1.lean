/-
  Proved here: what RelayOrder returns.
  Conditions: the number of teams fits an int; a slice without an address has no capacity.
-/
import Derived.Test.YtlpogglcbphilaaRelO0
import Derived.Test.YtlpogglcbphilaaForm
namespace Go.Proofs.Ytlpogglcbphilaa
open Go.RowKit

def ResI (w : World) (L : List Int) (B : Bool) (e : Ending) (w' : World) : Prop := ∃ bo bc, e = .returned (.tuple #[.slice bo L.length bc, .bool B]) ∧ Ext w w' ∧ FreshAt w.heap.size w' bo 1 L.length (ic L)
theorem holds_of {B0 : Nat} {w : World} {g : Nat} {xs : List TmV} (h : FreshAt B0 w (some ⟨g, 0, none⟩) 2 xs.length (fun k => (nth xs k).c)) : HoldsF w w g (xs.length * 2) (fc 2 TmV.c xs) := by
  refine ⟨grown_refl _ _, (h.base _ rfl).2, fun q hq => ?_, fun j => h.free g 0 rfl j⟩
  obtain ⟨b, off, e, H⟩ := h.row (by omega)
  injection e with e; injection e with e1 e2; subst e1 e2
  have := H (q / 2) (by omega) (q % 2) (by omega)
  rwa [show 0 + q / 2 * 2 + q % 2 = q by omega] at this
/-- the teams asked for, in order, as values -/
theorem rel_map {ts : List TeamD} {vs : List TmV} (hm : vs.map TmV.t = ts) (legs : Int) : (insF (fun x : TmV => tkey x.t) (keptL (fun x => !doneT legs x.t) vs)).map (fun x => x.t.num) = (insF tkey (ts.filter (doneT legs))).map TeamD.num := by
  have h1 : (keptL (fun x : TmV => !doneT legs x.t) vs).map TmV.t = ts.filter (doneT legs) := by
    rw [← hm, List.filter_map]
    unfold keptL
    simp only [Bool.not_not]
    rfl
  rw [← h1, ← insF_map TmV.t (fun x : TmV => tkey x.t) tkey (fun _ => rfl), List.map_map]
  rfl

set_option maxRecDepth 100000 in
set_option maxHeartbeats 4000000 in
theorem impl_RelayOrder {ao : Option Addr} {cap : Nat} {ts : List TeamD} {legs : Int} {w : World} (h : GRow w ao 2 ts.length (tsC ts)) (hn : ts.length ≤ 9223372036854775807) (_h64 : I64 legs) (hnil : ao = none → cap = 0) :
    Calls Try.prog 12 #[.slice ao ts.length cap, .int .i64 legs] w (ResI w (relL ts legs) (teamsB ts legs)) := by
  obtain ⟨i0, hi, hz0, hz1, hz2⟩ := info_parts infoInt
  have HI := Lib.hid hi; have HZ0 := Lib.hid hz0; have HZ1 := Lib.hid hz1; have HZ2 := Lib.hid hz2
  clear hi hz0 hz1 hz2
  have hx0 := (Ext.refl w).alloc (.cells #[.int .i64 legs] 3)
  have HA := Lib.hid (fun x hx => impl_AreTeams (w := x) (cap := cap) (legs := legs) (h.ext hx) hn)
  have HX0 := Lib.hid hx0
  have HL0 := Lib.hid (fun x (hx : Ext (w.alloc (.cells #[.int .i64 legs] 3)) x) => (show x.cell? ⟨w.heap.size, 0, none⟩ = some (.int .i64 legs) from hx.cells (by go_simp)))
  cases hv : teamsB ts legs
  · have HL := Lib.hid (show relL ts legs = [] by unfold relL; rw [hv]; rfl)
    rw [hv] at HA
    clear hv h hx0
    go_enter Try.func12, Try.ntmps12
    go_wp2_with fail
    refine (HA.out _ HX0.out).mono ?_; rintro e w1 ⟨rfl, hx1⟩
    have HX1 := Lib.hid (HX0.out.trans hx1)
    clear hx1 HA
    go_wp2
    go_ret2
    rw [HL.out]
    exact ⟨none, 0, rfl, HX1.out, fresh_nil⟩
  · have hok := teamsB_at hv
    have htok := fun k hk => teamOk (k := k) hv hk
    obtain ⟨vs, hvl, hvm, hvr, hvo⟩ := tms_of h
    have hlegs := hok.1
    have hlen := hok.2.1
    obtain ⟨m, rfl⟩ : ∃ m : Nat, legs = (m : Int) + 1 := ⟨(legs - 1).toNat, by omega⟩
    have HDT := Lib.hid (show ∀ t, doneT ((m : Int) + 1) t = decide (0 < legT t m) from fun t => by unfold doneT; rw [show ((m : Int) + 1 - 1).toNat = m by omega])
    have HL := Lib.hid (show relL ts ((m : Int) + 1) = (insF tkey (ts.filter (doneT ((m : Int) + 1)))).map TeamD.num by unfold relL; rw [hv]; rfl)
    have HRM := Lib.hid (rel_map hvm ((m : Int) + 1))
    have hmem : ∀ x, x ∈ vs → x.ok w ∧ ∀ k, k ≤ x.t.legs.length → I64 (sumU x.t.legs k) := fun x hx => by
      obtain ⟨k, hk, e⟩ := List.mem_iff_getElem.1 hx
      have e2 : nth vs k = x := by simp [nth, hk, e]
      have h1 := hvo k hk
      rw [e2] at h1
      refine ⟨h1.1, ?_⟩
      rw [h1.2]
      exact sum_ok (htok k (by omega)) (Nat.le_refl _)
    have HM := Lib.hid hmem
    rw [hv] at HA
    have HCL := Lib.hid (fun x (hx : Ext w x) => clone_Team (w := x) (cap := cap) (hvr.ext hx) (by omega) hnil)
    rw [hvl] at HCL
    have HN := Lib.hid hvl
    have hm3 : m ≤ 3 := by omega
    clear hv hok htok hvm hvr hvo hmem h hlegs _h64 hx0 hvl
    go_enter Try.func12, Try.ntmps12
    go_wp2_with fail
    refine (HA.out _ HX0.out).mono ?_; rintro e w1 ⟨rfl, hx1⟩
    have HX1 := Lib.hid (HX0.out.trans hx1)
    have HY1 := Lib.hid hx1
    clear hx1 HA
    go_wp2_with fail
    refine (HCL.out _ HX1.out).mono ?_; rintro e w2 ⟨v, rfl, hx2, hO⟩
    have HX2 := Lib.hid (HX1.out.trans hx2)
    have cl := HL0.out _ (HY1.out.trans hx2)
    have hs1 := HX1.out.size
    have hb1 : w.heap.size < w1.heap.size := Nat.lt_of_lt_of_le (by simp) HY1.out.size
    clear hx2 HCL HY1
    rcases hO.form with ⟨rfl, hms⟩ | ⟨g, cap1, rfl, hlc, hcm, hF⟩
    · have HE := Lib.hid (show relL ts ((m : Int) + 1) = [] by rw [HL.out, ← HRM.out]; subst hms; rfl)
      have hsn := fun x => sortStable_nil_Team (F := 54) (w := x)
      clear hO hms HM HRM HL
      go_wp2_with fail
      refine deleteFunc_nil_Team.mono ?_; rintro e w3 ⟨rfl, hx3⟩
      have HX3 := Lib.hid (HX2.out.trans hx3)
      clear hx3 HX2 cl
      go_wp2_with fail
      refine (hsn _).mono ?_; rintro e w4 ⟨rfl, hx4⟩
      have HX4 := Lib.hid (HX3.out.trans hx4)
      have HFN := Lib.hid (show FreshAt w.heap.size (w4.alloc (.cells #[] 3)) (some ⟨w4.heap.size, 0, none⟩) 1 0 (ic []) from (Owns.start HX4.out : Owns (w4.alloc (.cells #[] 3)) w.heap.size 3 1 icc _ []).fresh0)
      clear hx4 hsn
      go_wp2
      go_loopw [7, 23] (fun o i wr => o = .slice (some ⟨w4.heap.size, 0, none⟩) 0 0 ∧ i = .int .i64 0 ∧ wr = w4.alloc (.cells #[] 3)) (fun _ _ _ => 0)
      case atStart => exact ⟨rfl, rfl, rfl⟩
      case round =>
        obtain ⟨rfl, rfl, rfl⟩ := hrel
        go_wp2
        go_ret2
        rw [HE.out]
        exact ⟨some ⟨w4.heap.size, 0, none⟩, 0, rfl, HX4.out.alloc _, HFN.out⟩
    · have hb := hF.base _ rfl
      simp only at hb
      have hdel := deleteFunc_Team (p := fun x => !doneT ((m : Int) + 1) x.t) (caps := #[.pointer (some ⟨w.heap.size, 0, none⟩)]) hF (by have := HN.out; omega) hlc hcm (entersF_of Try.func51 (by kernel_rfl) rfl) (fun k hk w' hg => by
        have hxm : nth vs k ∈ vs := by simp [nth, hk]
        rw [HDT.out]
        exact impl_RelayOrder_1 ((grown_cell hg (by omega) (fun e => by injection e with e; omega)).trans cl) ((HM.out _ hxm).1.ext (grown_ext HX2.out hg (fun k e => by injection e with e; omega))) (by omega))
      have HDEL := Lib.hid hdel
      have hgl : w1.heap.size ≤ g := hb.1
      have hsub : ∀ x, x ∈ keptL (fun x : TmV => !doneT ((m : Int) + 1) x.t) vs → x ∈ vs := fun x hx => by unfold keptL at hx; exact (List.mem_filter.1 hx).1
      have hkl : (keptL (fun x : TmV => !doneT ((m : Int) + 1) x.t) vs).length ≤ vs.length := by unfold keptL; exact List.length_filter_le _ _
      have hvl := HN.out
      have HKL := Lib.hid (show (keptL (fun x : TmV => !doneT ((m : Int) + 1) x.t) vs).length ≤ 8 by omega)
      have HSUB := Lib.hid hsub
      generalize keptL (fun x : TmV => !doneT ((m : Int) + 1) x.t) vs = V at HDEL HKL HSUB HRM
      clear hdel hO hF hb hlc hsub hkl hvl cl
      go_wp2_with fail
      refine HDEL.out.mono ?_; rintro e w3 ⟨rfl, hg3, hF3⟩
      have HX3 := Lib.hid (grown_ext HX2.out hg3 (fun k e => by injection e with e; omega))
      have hh := holds_of hF3
      have hV8 := HKL.out
      have hsort := sortStable_Team (cap := cap1) (K := fun x : TmV => tkey x.t) (entersF_of Try.func54 (by kernel_rfl) rfl) (by omega) hh (fun a b ha hb w' hg => by
        have h1 := HM.out a (HSUB.out a ha)
        have h2 := HM.out b (HSUB.out b hb)
        have hx := grown_ext HX3.out hg (fun k e => by injection e with e; omega)
        exact impl_RelayOrder_2 (h1.1.ext hx) (h2.1.ext hx) h1.2 h2.2)
      have HS := Lib.hid hsort
      clear hg3 hF3 hh hsort HDEL HX2
      go_wp2_with fail
      refine HS.out.mono ?_; rintro e w4 ⟨rfl, hH⟩
      have HX4 := Lib.hid (grown_ext HX3.out hH.grown (fun k e => by injection e with e; omega))
      have HLN := Lib.hid (insF_len (fun x : TmV => tkey x.t) V)
      have HH := Lib.hid hH
      generalize insF (fun x : TmV => tkey x.t) V = S at HH HRM HLN
      have hgs : g < w4.heap.size := hH.size
      have HREL := Lib.hid (HL.out.trans HRM.out.symm)
      have hV8' : V.length ≤ 8 := hV8
      have HO0 := Lib.hid (Owns.start (Ext.refl w4) : Owns (w4.alloc (.cells #[] 3)) w4.heap.size 3 1 icc _ [])
      clear hH HS HX3 HM HSUB HRM HL
      go_wp2
      go_loopw [7, 23] (fun o i wr => ∃ k : Nat, k ≤ V.length ∧ i = .int .i64 k ∧ Ext w4 wr ∧ Owns wr w4.heap.size 3 1 icc o ((S.take k).map fun x => x.t.num)) (fun _ i _ => V.length - (intOf i).toNat)
      case atStart => exact ⟨0, Nat.zero_le _, rfl, (Ext.refl _).alloc _, HO0.out⟩
      case round =>
        clear HO0
        obtain ⟨k, hk, rfl, hx, hO⟩ := hrel
        have HX := Lib.hid hx; have HO := Lib.hid hO
        by_cases hlt : k < V.length
        · have d0 := hx.cells (HH.out.cell (k * 2) (by omega))
          have d1 := hx.cells (HH.out.cell (k * 2 + 1) (by omega))
          simp only [fc, show k * 2 / 2 = k by omega, show k * 2 % 2 = 0 by omega, show (k * 2 + 1) / 2 = k by omega, show (k * 2 + 1) % 2 = 1 by omega, TmV.c0, TmV.c1] at d0 d1
          have HT := Lib.hid (show (S.take (k + 1)).map (fun x : TmV => x.t.num) = (S.take k).map (fun x => x.t.num) ++ [(nth S k).t.num] by rw [take_succ_nth (by rw [HLN.out]; exact hlt), List.map_append]; rfl)
          have hk0 : (0 : Int) ≤ (k : Int) := by omega
          have hk1 : (k : Int) < (V.length : Int) := by omega
          have hll : ((S.take k).map (fun x : TmV => x.t.num)).length ≤ 8 := by simp; omega
          have HB := Lib.hid (show Ext wr (wr.alloc (.cells #[.int .i64 (nth S k).t.num, .slice (nth S k).a (nth S k).t.legs.length (nth S k).ac] 51)) from (Ext.refl _).alloc _)
          generalize (S.take k).map (fun x : TmV => x.t.num) = L at HO HT hll
          generalize (nth S k).t.num = y at d0 HT HB
          generalize (nth S k).a = ya at d1 HB
          generalize (nth S k).t.legs.length = yl at d1 HB
          generalize (nth S k).ac = yc at d1 HB
          have HRL := Lib.hid (show RowAt ((wr.alloc (.cells #[.int .i64 y, .slice ya yl yc] 51)).alloc (.cells #[.int .i64 y] 3)) (some ⟨wr.heap.size + 1, 0, none⟩) 1 [y].length (fun j => icc (nth [y] j)) from by
            have := row_lit (w := wr.alloc (.cells #[.int .i64 y, .slice ya yl yc] 51)) (cs := #[.int .i64 y]) (T := 3) (s := 1) (cc := icc) (x := y) (by intro j hj; obtain rfl : j = 0 := (by omega); rfl)
            simpa using this)
          clear hO
          go_wp2_with (at_builtin; refine wpList_append_rows rfl _ _ 31 rfl w4 3 i0 _ 1 8 Try.underlying31 HI.out HZ0.out HZ1.out HZ2.out rfl (by decide) icc icc_one _ L [y] rfl (HO.out.kept (HB.out.alloc _)) (some ⟨wr.heap.size + 1, 0, none⟩) 1 1 rfl rfl (fun h => by cases h) HRL.out (by simp; omega) (by simp; omega) ((HX.out.trans HB.out).alloc _) ?_; intro v1 w6 ho6 hx6)
          have HO6 := Lib.hid ho6; have HX6 := Lib.hid hx6
          clear ho6 hx6 d0 d1 hx
          go_wp2
          go_roundw
          case rel => exact ⟨k + 1, by omega, by go_num, HX6.out, by rw [HT.out]; exact HO6.out⟩
          case measure => simp [intOf] <;> omega
        · obtain rfl : k = V.length := by omega
          have hnk : ¬ (V.length : Int) < (V.length : Int) := by omega
          obtain ⟨oa, oc, rfl, hFo, _⟩ := hO.fresh
          have HF := Lib.hid hFo
          have HEQ := Lib.hid (show (S.take V.length).map (fun x : TmV => x.t.num) = relL ts ((m : Int) + 1) by rw [HREL.out, ← HLN.out, List.take_length])
          have HS4 := Lib.hid HX4.out.size
          clear hO hFo
          rw [HEQ.out] at HF ⊢
          go_wp2
          go_ret2
          exact ⟨oa, oc, rfl, HX4.out.trans HX.out, HF.out.mono HS4.out⟩

end Go.Proofs.Ytlpogglcbphilaa
