/-
  Proved here: what slices.Clone returns at proofs; what StrongestFor and its reference return.
  Conditions: the number of proofs fits an int.
-/
import Derived.Test.YtfnjoinkfghalaaStr2
import Derived.Test.YtfnjoinkfghalaaStr3
import Derived.Test.YtfnjoinkfghalaaProof5
import Derived.Test.YtfnjoinkfghalaaDelProof
import Derived.Test.YtfnjoinkfghalaaOwn3
import Derived.Lib.SliceRun
import Derived.WalkSpells
namespace Go.Proofs.Ytfnjoinkfghalaa
open Go.RowKit

theorem prf_cells : ∀ (x : Prf) (j : Nat), j < 5 → (x.c j).oneCell' = true := by
  intro x j hj
  match j, hj with
  | 0, _ => rfl
  | 1, _ => rfl
  | 2, _ => rfl
  | 3, _ => rfl
  | 4, _ => rfl

set_option maxRecDepth 100000 in
theorem clone_Proof {ao : Option Addr} {cap : Nat} {xs : List Prf} {w : World} (h : RowAt w ao 5 xs.length (fun k => (nth xs k).c)) (hs : xs.length ≤ 1048577) (hnil : ao = none → cap = 0) :
    Calls Try.prog 70 #[.slice ao xs.length cap] w fun e w' => ∃ v, e = .returned v ∧ Ext w w' ∧ Owns w' w.heap.size 45 5 Prf.c v xs := by
  obtain ⟨i0, hi, hz0, hz1, hz2⟩ := info_parts infoPrf
  have hq := fun (w : World) => Lib.run_eql_slice_nil (P := Try.prog) w 27 45 ao xs.length cap 0 0 Try.underlying27
  cases ao with
  | none =>
    obtain rfl := hnil rfl
    have hx : xs = [] := by
      rcases Nat.eq_zero_or_pos xs.length with e | e
      · exact List.eq_nil_of_length_eq_zero e
      · obtain ⟨_, _, h, _⟩ := h e; cases h
    subst hx
    have hq0 := fun (w : World) => Lib.run_eql_slice_nil (P := Try.prog) w 27 45 none 0 0 0 0 Try.underlying27
    go_enter Try.func70, Try.ntmps70
    go_wp2
    go_ret
    exact ⟨_, rfl, Ext.refl _, Owns.nil⟩
  | some a =>
    have HST := Lib.hid (Owns.start' (e := 45) (s := 5) (cc := Prf.c) (Nat.le_refl w.heap.size))
    have HR := Lib.hid (h.ext ((Ext.refl w).alloc (.cells #[] 45)))
    have HXA := Lib.hid ((Ext.refl w).alloc (.cells #[] 45))
    clear h hnil
    go_enter Try.func70, Try.ntmps70
    go_wp2_with (at_builtin; refine wpList_append_rows rfl _ _ 27 rfl w 45 i0 _ 5 40 Try.underlying27 hi hz0 hz1 hz2 rfl (by decide) Prf.c prf_cells _ [] xs rfl HST.out (some a) xs.length cap rfl rfl (fun h => by cases h) HR.out (by simp; omega) (by simp; omega) HXA.out ?_; intro v1 w3 ho1 hx3; rw [List.nil_append] at ho1; have HO := Lib.hid ho1; have HX := Lib.hid hx3; clear ho1 hx3)
    go_wp2
    go_ret
    exact ⟨_, rfl, HX.out, HO.out⟩

theorem box_other5 {w : World} {B C : Nat} {m : Prf} (h : BoxP w B m) (hne : B ≠ C) {u0 u1 u2 u3 u4 : Value} : BoxP (put5 w C u0 u1 u2 u3 u4) B m := by
  have k : ∀ o, (put5 w C u0 u1 u2 u3 u4).cell? ⟨B, o, none⟩ = w.cell? ⟨B, o, none⟩ := fun o => by
    unfold put5
    rw [World.cell?_setCell_other _ _ _ _ (fun e => hne (by injection e with e; exact e.symm)), World.cell?_setCell_other _ _ _ _ (fun e => hne (by injection e with e; exact e.symm)), World.cell?_setCell_other _ _ _ _ (fun e => hne (by injection e with e; exact e.symm)), World.cell?_setCell_other _ _ _ _ (fun e => hne (by injection e with e; exact e.symm)), World.cell?_setCell_other _ _ _ _ (fun e => hne (by injection e with e; exact e.symm))]
  exact ⟨(k 0).trans h.c0, (k 1).trans h.c1, (k 2).trans h.c2, (k 3).trans h.c3, (k 4).trans h.c4, fun j => by simp only [put5, World.frozen?_setCell]; exact h.fr j, by simpa [put5, World.setCell] using h.lt⟩

def strP (xs : List Prf) (r c : Int) : Prf := if visB xs r c then bkU xs r c 4 else ⟨0, 0, 0, 0, false⟩
def strB (xs : List Prf) (r c : Int) : Bool := visB xs r c && decide (0 < (bkU xs r c 4).weight)

set_option maxRecDepth 100000 in
set_option maxHeartbeats 2000000 in
theorem impl_StrongestFor {ao : Option Addr} {cap : Nat} {ms : List Prf} {r c : Int} {w : World} (h : RowAt w ao 5 ms.length (fun k => (nth ms k).c)) (hn : ms.length ≤ 9223372036854775807) (hs : ms.length ≤ 1048577) (hnil : ao = none → cap = 0) :
    Calls Try.prog 27 #[.slice ao ms.length cap, .int .i64 r, .int .i64 c] w fun e w' => e = .returned (.tuple #[(strP ms r c).val, .bool (strB ms r c)]) ∧ Ext w w' := by
  have hx0 : Ext w (((w.alloc (.cells #[.int .i64 r] 3)).alloc (.cells #[.int .i64 c] 3)).alloc (.cells #[.int .i64 0, .int .i64 0, .int .i64 0, .int .i64 0, .bool false] 45)) := (((Ext.refl w).alloc _).alloc _).alloc _
  have HIV := Lib.hid (fun x hx => impl_isVisit (w := x) (cap := cap) (r := r) (c := c) (h.ext hx) hn)
  have HCL := Lib.hid (fun x hx => clone_Proof (w := x) (cap := cap) (h.ext hx) hs hnil)
  have HX0 := Lib.hid hx0
  have zero : ∀ w1 : World, Ext (((w.alloc (.cells #[.int .i64 r] 3)).alloc (.cells #[.int .i64 c] 3)).alloc (.cells #[.int .i64 0, .int .i64 0, .int .i64 0, .int .i64 0, .bool false] 45)) w1 → BoxP w1 (w.heap.size + 1 + 1) ⟨0, 0, 0, 0, false⟩ := fun _ hx =>
    ⟨hx.cells (by go_simp), hx.cells (by go_simp), hx.cells (by go_simp), hx.cells (by go_simp), hx.cells (by go_simp), fun j => (hx.frozenr _ _ (by simp)).trans (by go_simp), Nat.lt_of_lt_of_le (by simp) hx.size⟩
  have cell0 : ∀ w1 : World, Ext (((w.alloc (.cells #[.int .i64 r] 3)).alloc (.cells #[.int .i64 c] 3)).alloc (.cells #[.int .i64 0, .int .i64 0, .int .i64 0, .int .i64 0, .bool false] 45)) w1 → w1.cell? ⟨w.heap.size, 0, none⟩ = some (.int .i64 r) ∧ w1.cell? ⟨w.heap.size + 1, 0, none⟩ = some (.int .i64 c) := fun _ hx =>
    ⟨hx.cells (by go_simp), hx.cells (by go_simp)⟩
  have ZERO := Lib.hid zero; have CELL := Lib.hid cell0
  clear h hx0 zero cell0 hnil
  cases hv : visB ms r c
  · have hB : strB ms r c = false := by simp [strB, hv]
    have hP : strP ms r c = ⟨0, 0, 0, 0, false⟩ := by simp [strP, hv]
    rw [hB, hP]
    rw [hv] at HIV
    clear hB hP hv
    unfold Prf.val
    dsimp only
    go_enter Try.func27, Try.ntmps27
    go_wp2_with fail
    refine (HIV.out _ HX0.out).mono ?_; rintro e w1 ⟨rfl, hx1⟩
    have hz := ZERO.out _ hx1
    obtain ⟨z0, z1, z2, z3, z4, zf, zl⟩ := hz
    have HE := Lib.hid (HX0.out.trans hx1)
    clear hx1 HCL HIV HX0
    go_wp2
    refine bodyPost_ret (v := .tuple #[.agg #[.int .i64 0, .int .i64 0, .int .i64 0, .int .i64 0, .bool false], .bool false]) ?_ rfl ?_
    · simp [results, Try.results27, go_sem, cell_put, z0, z1, z2, z3, z4]
    · exact ⟨rfl, HE.out.put5 (by omega) _ _ _ _ _⟩
  · have hok := visB_ok hv
    have hB : strB ms r c = decide (0 < (bkU ms r c 4).weight) := by simp [strB, hv]
    have hP : strP ms r c = bkU ms r c 4 := by simp [strP, hv]
    rw [hB, hP]
    rw [hv] at HIV
    have hss := fun h => strong_same (r := r) (c := c) hok h
    have hsn := @strong_none ms r c
    generalize bkU ms r c 4 = m at hss hsn ⊢
    have HSS := Lib.hid hss; have HSN := Lib.hid hsn; clear hss hsn
    unfold Prf.val
    have hkl : ∀ g, (keptL g ms).length ≤ ms.length := fun g => by unfold keptL; exact List.length_filter_le _ _
    have HKL := Lib.hid hkl
    clear hB hP hv hok hkl
    go_enter Try.func27, Try.ntmps27
    go_wp2_with fail
    refine (HIV.out _ HX0.out).mono ?_; rintro e w1 ⟨rfl, hx1⟩
    have HX1 := Lib.hid (HX0.out.trans hx1)
    have HY1 := Lib.hid hx1
    clear hx1 HIV
    have cl := CELL.out _ HY1.out
    obtain ⟨cl0, cl1⟩ := cl
    go_wp2_with fail
    refine (HCL.out _ HX1.out).mono ?_; rintro e w2 ⟨v, rfl, hx2, hO⟩
    have HX2 := Lib.hid (HX1.out.trans hx2)
    have HY2 := Lib.hid (HY1.out.trans hx2)
    have hlo2 := hx2.size
    have hlo1 : w.heap.size + 1 + 1 < w1.heap.size := (ZERO.out _ HY1.out).lt
    clear hx2 HCL HX1 HY1 cl0 cl1
    have cl := CELL.out _ HY2.out
    obtain ⟨cl0, cl1⟩ := cl
    rcases hO.form with ⟨rfl, hms⟩ | ⟨g, cap1, rfl, hlc, hcm, hF⟩
    · have hn := HSN.out (by subst hms; rfl)
      obtain ⟨_, rfl⟩ := hn
      clear hO hms HSS HSN HKL cl0 cl1
      go_wp2_with fail
      refine deleteFunc_nil_Proof.mono ?_; rintro e w3 ⟨rfl, hx3⟩
      have hz := ZERO.out _ (HY2.out.trans hx3)
      obtain ⟨z0, z1, z2, z3, z4, zf, zl⟩ := hz
      have HE := Lib.hid (HX2.out.trans hx3)
      clear hx3 HX2 HY2
      go_wp2
      refine bodyPost_ret (v := .tuple #[.agg #[.int .i64 0, .int .i64 0, .int .i64 0, .int .i64 0, .bool false], .bool false]) ?_ rfl ?_
      · simp [results, Try.results27, go_sem, cell_put, z0, z1, z2, z3, z4]
      · exact ⟨rfl, HE.out.put5 (by omega) _ _ _ _ _⟩
    · have hb := hF.base _ rfl
      simp only at hb
      have hdel := deleteFunc_Proof (p := notOwn r c) (caps := #[.pointer (some ⟨w.heap.size, 0, none⟩), .pointer (some ⟨w.heap.size + 1, 0, none⟩)]) hF hs hlc hcm (entersF_of Try.func71 (by kernel_rfl) rfl) (fun r' c' k t a w' hg => impl_StrongestFor_1 ((grown_cell hg (by omega) (fun e => by injection e with e; omega)).trans cl0) ((grown_cell hg (by omega) (fun e => by injection e with e; omega)).trans cl1))
      have HDEL := Lib.hid hdel
      have hgl : w1.heap.size ≤ g := hb.1
      clear hdel hO hF cl0 cl1 hb hlc
      go_wp2_with fail
      refine HDEL.out.mono ?_; rintro e w3 ⟨rfl, hg3, hF3⟩
      have HE := Lib.hid (grown_ext HX2.out hg3 (fun k e => by injection e with e; omega))
      have hz := ZERO.out _ (grown_ext HY2.out hg3 (fun k e => by injection e with e; simp; omega))
      clear HDEL hg3 HX2 HY2
      have HK2 := Lib.hid (HKL.out (notOwn r c))
      have e1 : keptL (notOwn r c) ms = ownL ms r c := rfl
      rw [e1] at hF3 HK2 ⊢
      clear e1 HKL
      generalize ownL ms r c = K at hF3 HK2 HSS HSN ⊢
      by_cases hk : K.length = 0
      · obtain ⟨_, rfl⟩ := HSN.out hk
        have t1 : ((K.length : Int) == 0) = true := by simp [hk]
        have t2 : (K.length == 0) = true := by simp [hk]
        obtain ⟨z0, z1, z2, z3, z4, zf, zl⟩ := hz
        clear hk hF3 HSS HSN
        go_wp2
        refine bodyPost_ret (v := .tuple #[.agg #[.int .i64 0, .int .i64 0, .int .i64 0, .int .i64 0, .bool false], .bool false]) ?_ rfl ?_
        · simp [results, Try.results27, go_sem, cell_put, z0, z1, z2, z3, z4]
        · exact ⟨rfl, HE.out.put5 (by omega) _ _ _ _ _⟩
      · have hkp : 0 < K.length := by omega
        have t1 : ((K.length : Int) == 0) = false := by simp only [beq_eq_false_iff_ne]; omega
        have t2 : (K.length == 0) = false := by simpa using hk
        obtain ⟨hs1, hs2⟩ := HSS.out hkp
        have HMF := Lib.hid (minFunc_Proof (cap := cap1) (o := ordI) (F := 73) hF3.row (by have := HK2.out; omega) hkp (entersF_of Try.func73 (by kernel_rfl) rfl) ordI_less (fun _ _ _ _ _ _ _ _ _ _ _ => impl_StrongestFor_2))
        rw [hs1] at HMF
        have HDEC : Hid (decide (0 < m.weight) = true) := Lib.hid (by simpa using hs2)
        clear hs1 hs2 hk hF3 HSS HSN
        have HZ := Lib.hid hz
        clear hz
        unfold Prf.val at HMF
        go_wp2_with fail
        refine HMF.out.mono ?_; rintro e w4 ⟨rfl, hx4⟩
        have hz := HZ.out.ext hx4
        obtain ⟨z0, z1, z2, z3, z4, zf, zl⟩ := hz
        have HE4 := Lib.hid (HE.out.trans hx4)
        clear hx4 HMF HZ HE
        go_wp2
        refine bodyPost_ret (v := .tuple #[.agg #[.int .i64 m.runner, .int .i64 m.code, .int .i64 m.kind, .int .i64 m.weight, .bool m.against], .bool true]) ?_ rfl ?_
        · simp [results, Try.results27, go_sem, cell_put, z0, z1, z2, z3, z4]
        · exact ⟨by rw [HDEC.out], HE4.out.put5 (by omega) _ _ _ _ _⟩

set_option maxRecDepth 100000 in
set_option maxHeartbeats 2000000 in
theorem spec_StrongestFor {ao : Option Addr} {cap : Nat} {ms : List Prf} {r c : Int} {w : World} (h : RowAt w ao 5 ms.length (fun k => (nth ms k).c)) (hn : ms.length ≤ 9223372036854775807) :
    Calls Try.prog 38 #[.slice ao ms.length cap, .int .i64 r, .int .i64 c] w fun e w' => e = .returned (.tuple #[(strP ms r c).val, .bool (strB ms r c)]) ∧ Ext w w' := by
  have hx0 : Ext w ((w.alloc (.cells #[.int .i64 0, .int .i64 0, .int .i64 0, .int .i64 0, .bool false] 45)).alloc (.cells #[.int .i64 0, .int .i64 0, .int .i64 0, .int .i64 0, .bool false] 45)) := ((Ext.refl w).alloc _).alloc _
  have HIV := Lib.hid (fun x hx => spec_l14Asked (w := x) (cap := cap) (r := r) (c := c) (h.ext hx) hn)
  have HLB := Lib.hid (fun x (k : Nat) hx => spec_l14Best (w := x) (cap := cap) (r := r) (c := c) (kd := k) (ag := false) (h.ext hx) hn)
  have HX0 := Lib.hid hx0
  have zero : ∀ w1 : World, Ext ((w.alloc (.cells #[.int .i64 0, .int .i64 0, .int .i64 0, .int .i64 0, .bool false] 45)).alloc (.cells #[.int .i64 0, .int .i64 0, .int .i64 0, .int .i64 0, .bool false] 45)) w1 → BoxP w1 w.heap.size ⟨0, 0, 0, 0, false⟩ ∧ BoxP w1 (w.heap.size + 1) ⟨0, 0, 0, 0, false⟩ := fun _ hx =>
    ⟨⟨hx.cells (by go_simp), hx.cells (by go_simp), hx.cells (by go_simp), hx.cells (by go_simp), hx.cells (by go_simp), fun j => (hx.frozenr _ _ (by simp; omega)).trans (by go_simp), Nat.lt_of_lt_of_le (by simp; omega) hx.size⟩,
     ⟨hx.cells (by go_simp), hx.cells (by go_simp), hx.cells (by go_simp), hx.cells (by go_simp), hx.cells (by go_simp), fun j => (hx.frozenr _ _ (by simp)).trans (by go_simp), Nat.lt_of_lt_of_le (by simp) hx.size⟩⟩
  have ZERO := Lib.hid zero
  clear h hx0 zero
  cases hv : visB ms r c
  · have hB : strB ms r c = false := by simp [strB, hv]
    have hP : strP ms r c = ⟨0, 0, 0, 0, false⟩ := by simp [strP, hv]
    rw [hB, hP]
    rw [hv] at HIV
    clear hB hP hv
    unfold Prf.val
    dsimp only
    go_enter Try.func38, Try.ntmps38
    go_wp2_with fail
    refine (HIV.out _ HX0.out).mono ?_; rintro e w1 ⟨rfl, hx1⟩
    have hz := ZERO.out _ hx1
    obtain ⟨⟨z0, z1, z2, z3, z4, zf, zl⟩, ⟨y0, y1, y2, y3, y4, yf, yl⟩⟩ := hz
    have HE := Lib.hid (HX0.out.trans hx1)
    clear hx1 HLB HIV HX0
    go_wp2
    refine bodyPost_ret (v := .tuple #[.agg #[.int .i64 0, .int .i64 0, .int .i64 0, .int .i64 0, .bool false], .bool false]) ?_ rfl ?_
    · simp [results, Try.results38, go_sem, cell_put, z0, z1, z2, z3, z4]
    · exact ⟨rfl, HE.out.put5 (by omega) _ _ _ _ _⟩
  · have hok := visB_ok hv
    have hB : strB ms r c = decide (0 < (bkU ms r c 4).weight) := by simp [strB, hv]
    have hP : strP ms r c = bkU ms r c 4 := by simp [strP, hv]
    rw [hB, hP]
    rw [hv] at HIV
    clear hB hP hv hok
    go_enter Try.func38, Try.ntmps38
    go_wp2_with fail
    refine (HIV.out _ HX0.out).mono ?_; rintro e w1 ⟨rfl, hx1⟩
    have hz := ZERO.out _ hx1
    have hbx := hz.2
    have HE1 := Lib.hid (HX0.out.trans hx1)
    have HR1 := Lib.hid hz.1
    clear hx1 HIV HX0 hz
    go_wp2
    go_loopw [9] (fun i wr => ∃ k : Nat, k ≤ 4 ∧ i = .int .i64 k ∧ Ext w wr ∧ BoxP wr w.heap.size ⟨0, 0, 0, 0, false⟩ ∧ BoxP wr (w.heap.size + 1) (bkU ms r c k)) (fun i _ => 4 - (intOf i).toNat)
    case atStart => exact ⟨0, by omega, rfl, HE1.out, HR1.out, hbx⟩
    case round =>
      clear hbx
      obtain ⟨k, hk, rfl, hx, hres, hbx⟩ := hrel
      clear HE1 HR1
      have HX := Lib.hid hx; have HRES := Lib.hid hres; have HBX := Lib.hid hbx
      clear hx hres hbx
      by_cases hlt : k < 4
      · have hki : (k : Int) ≤ 3 := by omega
        have hstep : bkU ms r c (k + 1) = if (bkU ms r c k).weight < bestW ms r c k false ms.length then ⟨r, c, k, bestW ms r c k false ms.length, false⟩ else bkU ms r c k := rfl
        have hlb := HLB.out _ k HX.out
        have HBX2 : Hid (∃ m, m = bkU ms r c k ∧ BoxP wr (w.heap.size + 1) m) := Lib.hid ⟨_, rfl, HBX.out⟩
        obtain ⟨m, hm, hbm⟩ := HBX2.out
        rw [← hm] at hstep
        generalize bestW ms r c k false ms.length = b at hstep hlb
        have HST := Lib.hid hstep
        have HLB2 := Lib.hid hlb
        have HBM := Lib.hid hbm
        clear HBX2 HBX hm hstep hlb hbm
        go_wp2_with fail
        refine HLB2.out.mono ?_; rintro e w2 ⟨rfl, hx2⟩
        have HX2 := Lib.hid (HX.out.trans hx2)
        have HR2 := Lib.hid (HRES.out.ext hx2)
        have hb2 := HBM.out.ext hx2
        have HB2 := Lib.hid hb2
        obtain ⟨z0, z1, z2, z3, z4, zf, zl⟩ := hb2
        clear hx2 HLB2 HX HRES HBM
        by_cases hgt : m.weight < b
        · have hn2 : bkU ms r c (k + 1) = ⟨r, c, k, b, false⟩ := by rw [HST.out, if_pos hgt]
          have HN := Lib.hid hn2; clear hn2 HST
          go_wp2
          go_roundw
          case rel => exact ⟨k + 1, by omega, by go_num, HX2.out.put5 (by omega) _ _ _ _ _, box_other5 HR2.out (by omega), by rw [HN.out]; exact HB2.out.put5 (x := ⟨r, c, k, b, false⟩)⟩
          case measure => simp [intOf]; omega
        · have hn2 : bkU ms r c (k + 1) = m := by rw [HST.out, if_neg hgt]
          have HN := Lib.hid hn2; clear hn2 HST
          go_wp2
          go_roundw
          case rel => exact ⟨k + 1, by omega, by go_num, HX2.out, HR2.out, by rw [HN.out]; exact HB2.out⟩
          case measure => simp [intOf]; omega
      · obtain rfl : k = 4 := by omega
        have hki : ¬ ((4 : Nat) : Int) ≤ 3 := by omega
        obtain ⟨m, hm⟩ : ∃ m, m = bkU ms r c 4 := ⟨_, rfl⟩
        have hbm : BoxP wr (w.heap.size + 1) m := by rw [hm]; exact HBX.out
        have HM := Lib.hid hm
        obtain ⟨y0, y1, y2, y3, y4, yf, yl⟩ := hbm
        obtain ⟨z0, z1, z2, z3, z4, zf, zl⟩ := HRES.out
        have q3 : (put5 wr w.heap.size (.int .i64 m.runner) (.int .i64 m.code) (.int .i64 m.kind) (.int .i64 m.weight) (.bool m.against)).cell? ⟨w.heap.size + 1, 3, none⟩ = some (.int .i64 m.weight) := by
          unfold put5
          rw [World.cell?_setCell_other _ _ _ _ (fun e => by injection e; omega), World.cell?_setCell_other _ _ _ _ (fun e => by injection e; omega), World.cell?_setCell_other _ _ _ _ (fun e => by injection e; omega), World.cell?_setCell_other _ _ _ _ (fun e => by injection e; omega), World.cell?_setCell_other _ _ _ _ (fun e => by injection e; omega)]
          exact y3
        clear HBX hm HLB
        go_wp2
        go_region
        all_goals
          go_wp2
          refine bodyPost_ret (v := .tuple #[.agg #[.int .i64 m.runner, .int .i64 m.code, .int .i64 m.kind, .int .i64 m.weight, .bool m.against], .bool (decide (0 < m.weight))]) ?_ rfl ?_
          · simp [results, Try.results38, go_sem, cell_put, z0, z1, z2, z3, z4]
          · exact ⟨by rw [← HM.out]; rfl, by first | exact (HX.out.put5 (Nat.le_refl _) _ _ _ _ _).drew | exact HX.out.drew.put5 (Nat.le_refl _) _ _ _ _ _⟩

end Go.Proofs.Ytfnjoinkfghalaa
