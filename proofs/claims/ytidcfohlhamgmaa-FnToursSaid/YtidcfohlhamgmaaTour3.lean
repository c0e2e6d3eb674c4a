/-
  Proved here: what cellsNextTo, timesTo and leastTime return.
  Conditions: the map is valid; the cells are cells of it.
-/
import Derived.Test.YtidcfohlhamgmaaTour2
import Derived.Deep.DeepCutAuto
import Derived.Deep.CutBlock
namespace Go.Proofs.Ytidcfohlhamgmaa
open Go.RowKit

/-- the neighbours among the first k cells -/
def nxU (m : MapD) (c k : Nat) : List Int := ((List.range k).filter (adjB m c)).map Int.ofNat
theorem nxU_yes {m : MapD} {c k : Nat} (h : adjB m c k = true) : nxU m c (k + 1) = nxU m c k ++ [(k : Int)] := by
  unfold nxU
  rw [List.range_succ, List.filter_append, show [k].filter (adjB m c) = [k] by simp [h], List.map_append]; rfl
theorem nxU_no {m : MapD} {c k : Nat} (h : adjB m c k = false) : nxU m c (k + 1) = nxU m c k := by
  unfold nxU
  rw [List.range_succ, List.filter_append, show [k].filter (adjB m c) = [] by simp [h], List.append_nil]
theorem nxU_len (m : MapD) (c k : Nat) : (nxU m c k).length ≤ k := by
  unfold nxU
  rw [List.length_map]
  exact Nat.le_trans (List.length_filter_le _ _) (by simp)
/-- the neighbours as numbers -/
def nxI (m : MapD) (c : Nat) : List Int := nxU m c m.cost.length
theorem nxI_eq (m : MapD) (c : Nat) : nxI m c = (nextL m c).map Int.ofNat := rfl
theorem nxI_len (m : MapD) (c : Nat) : (nxI m c).length = (nextL m c).length := by rw [nxI_eq, List.length_map]
theorem nxI_nth {m : MapD} {c j : Nat} (hj : j < (nextL m c).length) : nth (nxI m c) j = ((nth (nextL m c) j : Nat) : Int) := by
  rw [nxI_eq]; simp [nth, hj]

set_option maxRecDepth 100000 in
set_option maxHeartbeats 2000000 in
theorem impl_cellsNextTo {m : MapD} {ao bo : Option Addr} {ac bc : Nat} {a : Nat} {w : World} (ht : RowAt w bo 1 m.cost.length (ic m.cost)) (hm : mapB m = true) (ha : a < m.cost.length) :
    Calls Try.prog 124 #[m.val ao ac bo bc, .int .i64 a] w fun e w' => ∃ go gc, e = .returned (.slice go (nxI m a).length gc) ∧ Ext w w' ∧ FreshAt w.heap.size w' go 1 (nxI m a).length (ic (nxI m a)) := by
  obtain ⟨i0, hi, hz0, hz1, hz2⟩ := info_parts infoInt
  have h36 := (map_len hm).2.2.1
  have HGAP := Lib.hid (fun y k bo hk => impl_gapOf (w := y) (ao := ao) (bo := bo) (ac := ac) (bc := bc) (a := a) (b := k) hm ha hk)
  have HF : Hid (nxI m a = nxU m a m.cost.length) := Lib.hid rfl
  unfold MapD.val at *
  obtain ⟨n, hn⟩ : ∃ n, n = m.cost.length := ⟨_, rfl⟩
  rw [← hn] at ht h36 HGAP HF ⊢
  obtain ⟨cb, coff, rfl, ccell⟩ := ints_at' (xs := m.cost) (by rw [← hn]; exact ht) (by omega)
  have hxb := (Ext.refl w).alloc (.cells #[.int .i64 m.wid, .int .i64 m.hei, .slice ao m.rise.length ac, .slice (some ⟨cb, coff, none⟩) n bc] 30)
  have HC := Lib.hid (fun k (hk : k < n) => hxb.cells (ccell k (by omega)))
  have q0 : (w.alloc (.cells #[.int .i64 m.wid, .int .i64 m.hei, .slice ao m.rise.length ac, .slice (some ⟨cb, coff, none⟩) n bc] 30)).cell? ⟨w.heap.size, 0, none⟩ = some (.int .i64 m.wid) := by go_simp
  have q1 : (w.alloc (.cells #[.int .i64 m.wid, .int .i64 m.hei, .slice ao m.rise.length ac, .slice (some ⟨cb, coff, none⟩) n bc] 30)).cell? ⟨w.heap.size, 1, none⟩ = some (.int .i64 m.hei) := by go_simp
  have q2 : (w.alloc (.cells #[.int .i64 m.wid, .int .i64 m.hei, .slice ao m.rise.length ac, .slice (some ⟨cb, coff, none⟩) n bc] 30)).cell? ⟨w.heap.size, 2, none⟩ = some (.slice ao m.rise.length ac) := by go_simp
  have q3 : (w.alloc (.cells #[.int .i64 m.wid, .int .i64 m.hei, .slice ao m.rise.length ac, .slice (some ⟨cb, coff, none⟩) n bc] 30)).cell? ⟨w.heap.size, 3, none⟩ = some (.slice (some ⟨cb, coff, none⟩) n bc) := by go_simp
  have HQ := Lib.hid (show _ ∧ _ ∧ _ ∧ _ from ⟨q0, q1, q2, q3⟩)
  have HXB := Lib.hid hxb
  have HN := Lib.hid hn
  clear q0 q1 q2 q3 hn ht ccell hxb
  go_enter Try.func124, Try.ntmps124
  go_wp2
  generalize hwb : w.alloc (.cells #[.int .i64 m.wid, .int .i64 m.hei, .slice ao m.rise.length ac, .slice (some ⟨cb, coff, none⟩) n bc] 30) = wb at HQ HXB HC ⊢
  have hsz : wb.heap.size = w.heap.size + 1 := by rw [← hwb]; simp
  clear hwb
  have HSZ := Lib.hid hsz
  rw [← hsz]
  have HST := Lib.hid (Owns.start' (w := wb) (e := 3) (s := 1) (cc := icc) (Nat.le_refl _))
  go_loopw [5, 12] (fun v i wr => ∃ (k : Nat) (go : Option Addr) (gc : Nat), k ≤ n ∧ i = .int .i64 k ∧ v = .slice go (nxU m a k).length gc ∧ Owns wr wb.heap.size 3 1 icc (.slice go (nxU m a k).length gc) (nxU m a k) ∧ Ext wb wr) (fun _ i _ => n - (intOf i).toNat)
  case atStart => exact ⟨0, _, _, by omega, rfl, rfl, HST.out, (Ext.refl _).alloc _⟩
  case round =>
    clear HST
    obtain ⟨k, go, gc, hk, rfl, rfl, hO, hx⟩ := hrel
    have HO := Lib.hid hO; have HX := Lib.hid hx
    have p0 := hx.cells HQ.out.1
    have p1 := hx.cells HQ.out.2.1
    have p2 := hx.cells HQ.out.2.2.1
    have p3 := hx.cells HQ.out.2.2.2
    have hul := nxU_len m a k
    have hwz := hx.size
    clear hO hx hsz
    by_cases hlt : k < n
    · have d0 := HX.out.cells (HC.out k hlt)
      have hk0 : (0 : Int) ≤ (k : Int) := by omega
      have hk1 : (k : Int) < (n : Int) := by omega
      by_cases hc : 0 < nth m.cost k
      · have HG := Lib.hid (fun y => HGAP.out y k (some ⟨cb, coff, none⟩) hlt)
        by_cases hg : gapI m a k = 1
        · have HYES := Lib.hid (nxU_yes (m := m) (c := a) (k := k) (by simp [adjB, hc, hg]))
          rw [hg] at HG
          generalize nxU m a k = U at *
          generalize nth m.cost k = ck at *
          go_wp2_with fail
          refine (HG.out _).mono ?_; rintro e w1 ⟨rfl, hx1⟩
          have HO1 := Lib.hid (HO.out.ext' hx1)
          have HX1 := Lib.hid (HX.out.trans hx1)
          have hw1 := hx1.size
          clear hx1 HG HO HX hg hc d0 p0 p1 p2 p3
          have hrow2 := row_lit (w := w1) (cs := #[.int .i64 (k : Int)]) (T := 3) (s := 1) (cc := icc) (x := (k : Int)) (by intro j hj; obtain rfl : j = 0 := (by omega); rfl)
          have HROW := Lib.hid hrow2; clear hrow2
          go_wp2_with (at_builtin; refine wpList_append_bf rfl _ _ 22 rfl 3 i0 _ 1 8 Try.underlying22 hi hz0 hz1 hz2 rfl (by decide) icc icc_one wb.heap.size (by simp; omega) _ U [(k : Int)] (U ++ [(k : Int)]) (Lib.hid rfl) rfl (HO1.out.ext' ((Ext.refl _).alloc _)) ⟨w1.heap.size, 0, none⟩ 1 1 rfl rfl HROW.out (by simp; omega) (by simp; omega) ?_; intro go1 gc1 w3 ho3 hb3 _ _)
          have HO3 := Lib.hid ho3
          have HX3 := Lib.hid (Ext.below (HX1.out.alloc _) hb3 (Nat.le_refl _))
          clear ho3 hb3 HROW
          go_wp2
          go_roundw
          case rel => exact ⟨k + 1, go1, gc1, by omega, by go_num, by rw [HYES.out, List.length_append]; rfl, by rw [HYES.out]; exact HO3.out, HX3.out⟩
          case measure => simp [intOf] <;> omega
        · have HNO := Lib.hid (nxU_no (m := m) (c := a) (k := k) (by simp [adjB, hg]))
          generalize gapI m a k = gk at *
          generalize nxU m a k = U at *
          generalize nth m.cost k = ck at *
          go_wp2_with fail
          refine (HG.out _).mono ?_; rintro e w1 ⟨rfl, hx1⟩
          have HO1 := Lib.hid (HO.out.ext' hx1)
          have HX1 := Lib.hid (HX.out.trans hx1)
          clear hx1 HG HO HX d0 p0 p1 p2 p3
          go_wp2
          go_roundw
          case rel => exact ⟨k + 1, go, gc, by omega, by go_num, by rw [HNO.out], by rw [HNO.out]; exact HO1.out, HX1.out⟩
          case measure => simp [intOf] <;> omega
      · have HNO := Lib.hid (nxU_no (m := m) (c := a) (k := k) (by simp [adjB, hc]))
        generalize nxU m a k = U at *
        generalize nth m.cost k = ck at *
        go_wp2
        go_roundw
        case rel => exact ⟨k + 1, go, gc, by omega, by go_num, by rw [HNO.out], by rw [HNO.out]; exact HO.out, HX.out⟩
        case measure => simp [intOf] <;> omega
    · obtain rfl : k = n := by omega
      generalize nxU m a k = U at *
      obtain ⟨go2, gc2, e2, hF, _⟩ := HO.out.fresh
      injection e2 with e2 e3 e4
      subst e2 e4
      clear e3
      have HFF := Lib.hid (hF.mono (B1 := w.heap.size) (by rw [HSZ.out]; omega))
      clear hF p0 p1 p2 p3
      go_wp2
      go_ret
      rw [HF.out]
      exact ⟨go, gc, rfl, HXB.out.trans HX.out, HFF.out⟩

/-- cells of a block of the call's own -/
structure TimeSt (wb wr : World) (B : Nat) (o : List Int) : Prop where
  ext : Ext wb wr
  low : wb.heap.size ≤ B
  lt : B < wr.heap.size
  cell : ∀ j, j < o.length → wr.cell? ⟨B, j, none⟩ = some (.int .i64 (nth o j))
  free : ∀ j, wr.frozen? ⟨B, j, none⟩ = false
theorem TimeSt.kept {wb wr w' : World} {B : Nat} {o : List Int} (h : TimeSt wb wr B o) (hx : Ext wr w') : TimeSt wb w' B o :=
  ⟨h.ext.trans hx, h.low, Nat.lt_of_lt_of_le h.lt hx.size, fun j hj => hx.cells (h.cell j hj), fun j => (hx.frozenr _ _ h.lt).trans (h.free j)⟩
theorem TimeSt.put {wb wr : World} {B i : Nat} {o : List Int} (h : TimeSt wb wr B o) (hi : i < o.length) (x : Int) : TimeSt wb (wr.setCell ⟨B, i, none⟩ (.int .i64 x)) B (o.set i x) := by
  refine ⟨h.ext.setCell h.low _, h.low, by simpa [World.setCell] using h.lt, fun j hj => ?_, fun j => by rw [World.frozen?_setCell]; exact h.free j⟩
  rw [List.length_set] at hj
  rw [nth_set hi]
  by_cases e : i = j
  · subst e
    rw [if_pos rfl]
    exact World.cell?_setCell_same _ _ _ (h.cell i hi)
  · rw [if_neg e]
    exact (World.cell?_setCell_other _ _ _ _ (fun q => e (by injection q))).trans (h.cell j hj)
theorem TimeSt.fresh {wb wr : World} {B B0 : Nat} {o : List Int} (h : TimeSt wb wr B o) (hb : B0 ≤ wb.heap.size) : FreshAt B0 wr (some ⟨B, 0, none⟩) 1 o.length (ic o) :=
  ⟨fun _ => ⟨B, 0, rfl, fun k hk j hj => by obtain rfl : j = 0 := (by omega); simpa [ic] using h.cell k hk⟩, fun a e => by injection e with e; subst e; exact ⟨Nat.le_trans hb h.low, h.lt⟩, fun b off e j => by injection e with e; injection e with e1 e2; subst e1; exact h.free j⟩
/-- what the rounds lessen -/
def sumC (w : World) (B n : Nat) : Int := ((List.range n).map fun j => intOf ((w.cell? ⟨B, j, none⟩).getD (.int .i64 0))).sum
theorem TimeSt.sum {wb wr : World} {B n : Nat} {o : List Int} (h : TimeSt wb wr B o) (hn : o.length = n) : sumC wr B n = o.sum := by
  unfold sumC
  congr 1
  refine List.ext_getElem (by simp [hn]) fun j h1 h2 => ?_
  simp only [List.getElem_map, List.getElem_range]
  rw [h.cell j h2]
  simp [intOf, nth, h2]
def flagN (v : Value) : Nat := match v with | .bool true => 1 | _ => 0

end Go.Proofs.Ytidcfohlhamgmaa
