/-
  Proved here: what the reference's l4To returns.
  Conditions: the map is valid; the cell is one of it.
-/
import Derived.Test.YtidcfohlhamgmaaTour5
namespace Go.Proofs.Ytidcfohlhamgmaa
open Go.RowKit

/-- a time as the reference tells it: -1 if there is no way -/
def enc1 (x : Int) : Int := if x < NT then x else -1
def encL (o : List Int) : List Int := o.map enc1
theorem encL_len (o : List Int) : (encL o).length = o.length := by simp [encL]
theorem encL_nth {o : List Int} {k : Nat} (hk : k < o.length) : nth (encL o) k = enc1 (nth o k) := by simp [encL, nth, hk]
theorem encL_set (o : List Int) (i : Nat) {x : Int} (hx : x < NT) : (encL o).set i x = encL (o.set i x) := by
  unfold encL
  rw [List.map_set]
  congr 1
  unfold enc1; rw [if_pos hx]
theorem encL_init (m : MapD) (b : Nat) : (List.replicate m.cost.length (-1 : Int)).set b 0 = encL (initT m b) := by
  unfold initT
  rw [← encL_set _ _ (by decide)]
  congr 1
  simp [encL, enc1, NT]
def dec1 (x : Int) : Int := if x < 0 then NT else x
def sumE (w : World) (B n : Nat) : Int := ((List.range n).map fun j => dec1 (intOf ((w.cell? ⟨B, j, none⟩).getD (.int .i64 0)))).sum
theorem TimeSt.sumE {m : MapD} {wb wr : World} {B n : Nat} {o : List Int} (h : TimeSt wb wr B (encL o)) (hok : OkT m o) (hn : o.length = n) : sumE wr B n = o.sum := by
  unfold Go.Proofs.Ytidcfohlhamgmaa.sumE
  congr 1
  refine List.ext_getElem (by simp [hn]) fun j h1 h2 => ?_
  simp only [List.getElem_map, List.getElem_range]
  rw [h.cell j (by rw [encL_len]; exact h2), encL_nth h2]
  have hb := hok.bd j h2
  have e : nth o j = o[j] := by simp [nth, h2]
  rw [e] at hb ⊢
  simp only [Option.getD_some, intOf]
  unfold enc1 dec1
  split
  · rw [if_neg (by omega)]
  · rw [if_pos (by decide)]; omega

set_option maxRecDepth 100000 in
set_option maxHeartbeats 8000000 in
theorem spec_l4To {m : MapD} {ao bo : Option Addr} {ac bc : Nat} {b : Nat} {w : World} (hr : RowAt w ao 1 m.rise.length (ic m.rise)) (ht : RowAt w bo 1 m.cost.length (ic m.cost)) (hm : mapB m = true) (hb : b < m.cost.length) :
    Calls Try.prog 61 #[m.val ao ac bo bc, .int .i64 b] w fun e w' => ∃ B gc, e = .returned (.slice (some ⟨B, 0, none⟩) m.cost.length gc) ∧ Ext w w' ∧ FreshAt w.heap.size w' (some ⟨B, 0, none⟩) 1 m.cost.length (ic (encL (timL m b))) := by
  obtain ⟨i0, hi, hz0, hz1, hz2⟩ := info_parts infoInt
  have HI := Lib.hid hi; have HZ0 := Lib.hid hz0; have HZ1 := Lib.hid hz1; have HZ2 := Lib.hid hz2
  clear hi hz0 hz1 hz2
  have h36 := (map_len hm).2.2.1
  have h37 := (map_len hm).2.1
  have HSTEP := Lib.hid (fun y a k bo (hr : RowAt y ao 1 m.rise.length (ic m.rise)) (ht : RowAt y bo 1 m.cost.length (ic m.cost)) ha hk => spec_l2Step (w := y) (ac := ac) (bc := bc) (a := a) (b := k) hr ht hm ha hk)
  have HNEXT := Lib.hid (fun y a bo (ht : RowAt y bo 1 m.cost.length (ic m.cost)) ha => spec_l2Next (w := y) (ao := ao) (ac := ac) (bc := bc) (a := a) ht hm ha)
  have HOK := Lib.hid (iter_ok hm hb)
  have HEND := Lib.hid (fun r => @timL_eq m hm b hb r)
  have HSUM := Lib.hid (fun o => @relR_sum m hm o)
  have HINIT := Lib.hid (encL_init m b)
  unfold MapD.val at *
  obtain ⟨n, hn⟩ : ∃ n, n = m.cost.length := ⟨_, rfl⟩
  have HR := Lib.hid hr
  rw [← hn] at ht h36 h37 HSTEP HNEXT hb HINIT ⊢
  obtain ⟨cb, coff, rfl, ccell⟩ := ints_at' (xs := m.cost) (by rw [← hn]; exact ht) (by omega)
  have HT := Lib.hid ht
  have hxb := (Ext.refl w).alloc (.cells #[.int .i64 m.wid, .int .i64 m.hei, .slice ao m.rise.length ac, .slice (some ⟨cb, coff, none⟩) n bc] 30)
  have HC := Lib.hid (fun k (hk : k < n) => hxb.cells (ccell k (by omega)))
  have q0 : (w.alloc (.cells #[.int .i64 m.wid, .int .i64 m.hei, .slice ao m.rise.length ac, .slice (some ⟨cb, coff, none⟩) n bc] 30)).cell? ⟨w.heap.size, 0, none⟩ = some (.int .i64 m.wid) := by go_simp
  have q1 : (w.alloc (.cells #[.int .i64 m.wid, .int .i64 m.hei, .slice ao m.rise.length ac, .slice (some ⟨cb, coff, none⟩) n bc] 30)).cell? ⟨w.heap.size, 1, none⟩ = some (.int .i64 m.hei) := by go_simp
  have q2 : (w.alloc (.cells #[.int .i64 m.wid, .int .i64 m.hei, .slice ao m.rise.length ac, .slice (some ⟨cb, coff, none⟩) n bc] 30)).cell? ⟨w.heap.size, 2, none⟩ = some (.slice ao m.rise.length ac) := by go_simp
  have q3 : (w.alloc (.cells #[.int .i64 m.wid, .int .i64 m.hei, .slice ao m.rise.length ac, .slice (some ⟨cb, coff, none⟩) n bc] 30)).cell? ⟨w.heap.size, 3, none⟩ = some (.slice (some ⟨cb, coff, none⟩) n bc) := by go_simp
  have HQ := Lib.hid (show _ ∧ _ ∧ _ ∧ _ from ⟨q0, q1, q2, q3⟩)
  have HXB := Lib.hid hxb
  have HN := Lib.hid hn
  have hbi : (b : Int) < (n : Int) := by omega
  have hb0 : (0 : Int) ≤ (b : Int) := by omega
  clear q0 q1 q2 q3 hn ht hr ccell hxb
  go_enter Try.func61, Try.ntmps61
  go_upto_region 1 with fail
  generalize hwb : w.alloc (.cells #[.int .i64 m.wid, .int .i64 m.hei, .slice ao m.rise.length ac, .slice (some ⟨cb, coff, none⟩) n bc] 30) = wb at HQ HXB HC ⊢
  have HSZ : Hid (wb.heap.size = w.heap.size + 1) := Lib.hid (by rw [← hwb]; simp)
  clear hwb
  have HST := Lib.hid (Owns.start' (w := wb) (e := 3) (s := 1) (cc := icc) (Nat.le_refl _))
  have HX1 := Lib.hid ((Ext.refl wb).alloc (.cells #[] 3))
  go_upto_block 0 with fail
  go_cut [5] (fun v wc => ∃ g gc, v = .slice (some ⟨g, 0, none⟩) n gc ∧ n ≤ gc ∧ TimeSt wb wc g (List.replicate n (-1)))
  case first =>
    go_wp2
    go_loopw [5, 6] (fun v i wr => ∃ (k : Nat) (go : Option Addr) (gc : Nat), k ≤ n ∧ i = .int .i64 k ∧ v = .slice go (List.replicate k (-1 : Int)).length gc ∧ Owns wr wb.heap.size 3 1 icc (.slice go (List.replicate k (-1 : Int)).length gc) (List.replicate k (-1 : Int)) ∧ Ext wb wr) (fun _ i _ => n - (intOf i).toNat)
    case atStart => exact ⟨0, _, _, Nat.zero_le _, rfl, rfl, HST.out, HX1.out⟩
    case round =>
      clear HST HX1
      obtain ⟨k, go, gc, hk, rfl, rfl, hO, hx⟩ := hrel
      have p3 := hx.cells HQ.out.2.2.2
      have hwz := hx.size
      have HO := Lib.hid hO; have HX := Lib.hid hx
      have hrl : (List.replicate k (-1 : Int)).length = k := by simp
      have hsuc : List.replicate (k + 1) (-1 : Int) = List.replicate k (-1) ++ [-1] := List.replicate_succ'
      have HVN := Lib.hid (show ∀ j, j < k → nth (List.replicate k (-1 : Int)) j = -1 from fun j hj => by simp [nth, hj])
      have HSUC := Lib.hid hsuc; have HRL := Lib.hid hrl
      generalize List.replicate k (-1 : Int) = V at *
      clear hO hx hsuc
      by_cases hlt : k < n
      · have hrow := row_lit (w := wr) (cs := #[.int .i64 (-1)]) (T := 3) (s := 1) (cc := icc) (x := -1) (by intro j hj; obtain rfl : j = 0 := (by omega); rfl)
        have HROW := Lib.hid hrow; clear hrow
        have hvl : V.length ≤ 36 := by omega
        clear hrl
        go_wp2_with (at_builtin; refine wpList_append_bf rfl _ _ 22 rfl 3 i0 _ 1 8 Try.underlying22 HI.out HZ0.out HZ1.out HZ2.out rfl (by decide) icc icc_one wb.heap.size (by simp; omega) _ V [-1] (V ++ [-1]) (Lib.hid rfl) rfl (HO.out.ext' ((Ext.refl _).alloc _)) ⟨wr.heap.size, 0, none⟩ 1 1 rfl rfl HROW.out (by simp; omega) (by simp; omega) ?_; intro go9 gc9 w9 ho9 hb9 _ _)
        have HO9 := Lib.hid ho9
        have HX9 := Lib.hid (Ext.below (HX.out.alloc _) hb9 (Nat.le_refl _))
        clear ho9 hb9 HROW
        go_wp2
        go_roundw
        case rel => exact ⟨k + 1, go9, gc9, by omega, by go_num, by rw [HSUC.out, List.length_append]; rfl, by rw [HSUC.out]; exact HO9.out, HX9.out⟩
        case measure => simp [intOf] <;> omega
      · have hkn : k = n := by omega
        have hnk : ¬ (k : Int) < (n : Int) := by omega
        clear hrl
        go_wp2_with fail
        go_meet
        obtain ⟨ga, gcc, e2, hF, _, hcap, _⟩ := HO.out.fresh
        injection e2 with e2 e3 e4
        subst e2 e4
        rw [HRL.out, hkn]
        obtain ⟨g, off, e5, hcell⟩ := hF.row (by rw [HRL.out]; omega)
        subst e5
        have hoff : off = 0 := by
          have h0 : wr.ownsRow wb.heap.size 3 1 (.slice (some ⟨g, off, none⟩) V.length gc) V.length (fl 1 icc V) := HO.out
          rcases h0.2 with ⟨q, _⟩ | ⟨g', cap', cur, q1, _⟩
          · cases q
          · injection q1 with q1; injection q1 with q1; injection q1
        subst hoff
        refine ⟨g, gc, rfl, by rw [HRL.out] at hcap; omega, HX.out, (hF.base _ rfl).1, (hF.base _ rfl).2, fun j hj => ?_, fun j => hF.free _ _ rfl j⟩
        have hj2 : j < n := by simpa using hj
        have := hcell j (by rw [HRL.out]; omega) 0 (by decide)
        have e9 : nth (List.replicate n (-1 : Int)) j = -1 := by simp [nth, hj2]
        rw [e9, ← HVN.out j (by omega)]
        simpa [ic, icc] using this
  case rest =>
  obtain ⟨g, gc, rfl, hgc, hT0⟩ := hcut
  clear HST HX1
  have hrl : (List.replicate n (-1 : Int)).length = n := by simp
  have c0 := hT0.cell b (by rw [hrl]; exact hb)
  have f0 := hT0.free b
  have l0 := hT0.lt
  have hT1 := hT0.put (i := b) (by rw [hrl]; exact hb) 0
  have e0 : (List.replicate n (-1 : Int)).set b 0 = encL (iterT m b 0).1 := HINIT.out
  rw [e0] at hT1
  have HT1 := Lib.hid hT1
  clear hT0 hT1 e0 hrl
  go_upto_block 2 with fail
  generalize hw2 : wc.setCell ⟨g, b, none⟩ (.int .i64 0) = w2 at HT1 ⊢
  clear hw2 c0 f0 l0
  go_wp2
  go_loopw [7] (fun ag wr => ∃ r : Nat, ag = .bool (iterT m b r).2 ∧ TimeSt wb wr g (encL (iterT m b r).1)) (fun ag wr => (sumE wr g n).toNat * 2 + flagN ag)
  case atStart => exact ⟨0, rfl, HT1.out⟩
  case round =>
    clear HT1
    obtain ⟨r, rfl, hT⟩ := hrel
    have hok := HOK.out r
    have hol : (iterT m b r).1.length = n := by rw [hok.len, HN.out]
    have HTT := Lib.hid hT
    cases hfl : (iterT m b r).2
    · obtain ⟨q, rfl⟩ : ∃ q, r = q + 1 := by
        cases r with
        | zero => cases hfl
        | succ q => exact ⟨q, rfl⟩
      have he := (HEND.out q hfl).2
      rw [← he] at hT hol
      have hfr := hT.fresh (B0 := w.heap.size) (by have := HSZ.out; omega)
      rw [encL_len, hol] at hfr
      have HFR := Lib.hid hfr
      have HXE := Lib.hid (HXB.out.trans hT.ext)
      clear hT hfr he hok HTT
      go_wp2
      go_ret
      exact ⟨g, gc, rfl, HXE.out, HFR.out⟩
    · have hs := HSUM.out _ hok
      have hRok : OkT m (relR m (iterT m b r).1).1 := hs.1
      have hi1 : iterT m b (r + 1) = relR m (iterT m b r).1 := rfl
      have HI1 := Lib.hid hi1
      have HME : Hid ((sumE wr g n) = (iterT m b r).1.sum) := Lib.hid (hT.sumE hok hol)
      have HPOS := Lib.hid (sum_nonneg (o := (iterT m b r).1) (fun k hk => (hok.bd k hk).1))
      have HPOS2 := Lib.hid (sum_nonneg (o := (relR m (iterT m b r).1).1) (fun k hk => (hRok.bd k hk).1))
      have HRL : Hid ((relR m (iterT m b r).1).1.length = n) := Lib.hid (by rw [hRok.len, HN.out])
      have HROK := Lib.hid hRok
      have HS := Lib.hid hs.2
      have HOK0 := Lib.hid hok
      generalize hO : (iterT m b r).1 = O at *
      clear hT hok hs hRok hi1 hO
      have p3 := HTT.out.ext.cells HQ.out.2.2.2
      have pl2 := World.block_lt_of_cell? _ _ p3
      go_wp2
      go_loopw [7, 8] (fun ag i wr => ∃ k : Nat, k ≤ n ∧ i = .int .i64 k ∧ ag = .bool ((List.range k).foldl (relI m) (O, false)).2 ∧ TimeSt wb wr g (encL ((List.range k).foldl (relI m) (O, false)).1)) (fun _ i _ => n - (intOf i).toNat)
      case atStart => exact ⟨0, Nat.zero_le _, rfl, rfl, HTT.out⟩
      case round =>
        clear HTT p3 pl2
        obtain ⟨k, hk, rfl, rfl, hT⟩ := hrel
        have HTK := Lib.hid hT
        by_cases hlt : k < n
        · have p0 := hT.ext.cells HQ.out.1
          have p1 := hT.ext.cells HQ.out.2.1
          have p2 := hT.ext.cells HQ.out.2.2.1
          have p3 := hT.ext.cells HQ.out.2.2.2
          have pl2 := World.block_lt_of_cell? _ _ p3
          have d0 := hT.ext.cells (HC.out k hlt)
          have hk0 : (0 : Int) ≤ (k : Int) := by omega
          have hk1 : (k : Int) < (n : Int) := by omega
          have HOKP := Lib.hid (foldR_ok hm HOK0.out (show k ≤ m.cost.length by have := HN.out; omega))
          have HSUCC : Hid ((List.range (k + 1)).foldl (relI m) (O, false) = relI m ((List.range k).foldl (relI m) (O, false)) k) := Lib.hid (by rw [List.range_succ, List.foldl_append]; rfl)
          generalize (List.range k).foldl (relI m) (O, false) = P at *
          clear hT
          by_cases hc : nth m.cost k = 0
          · have HRI : Hid (relI m P k = P) := Lib.hid (by unfold relI; rw [if_pos hc])
            rw [hc] at d0
            go_wp2
            go_roundw
            case rel => exact ⟨k + 1, by omega, by go_num, by rw [HSUCC.out, HRI.out], by rw [HSUCC.out, HRI.out]; exact HTK.out⟩
            case measure => simp [intOf] <;> omega
          · have HRI : Hid (relI m P k = (nextL m k).foldl (relK m k) P) := Lib.hid (by unfold relI; rw [if_neg hc])
            have HNX := Lib.hid (HNEXT.out wr k (some ⟨cb, coff, none⟩) (HT.out.ext (HXB.out.trans HTK.out.ext)) hlt)
            have hcn : (nth m.cost k == 0) = false := by simpa using hc
            generalize nth m.cost k = ck at *
            go_wp2_with fail
            refine HNX.out.mono ?_; rintro e w3 ⟨no, nc, rfl, hx3, hF3⟩
            have HN3 := Lib.hid hF3
            have HT3 := Lib.hid (HTK.out.kept hx3)
            have hnl := nxI_len m k
            have hlt3 := HTK.out.lt
            have hw3 := hx3.size
            have HNL := Lib.hid hnl
            clear hF3 hx3 HNX HTK p0 p1 p2 p3 pl2 d0 hnl
            rw [HNL.out]
            have HN4 : Hid (FreshAt wr.heap.size w3 no 1 (nextL m k).length (ic (nxI m k))) := Lib.hid (by rw [← HNL.out]; exact HN3.out)
            clear HN3
            have hL36 : (nextL m k).length ≤ 36 := by have := nxU_len m k m.cost.length; have h2 := HNL.out; have h3 := HN.out; unfold nxI at h2; omega
            go_wp2
            go_loopw [7, 10] (fun ag i w5 => ∃ j : Nat, j ≤ (nextL m k).length ∧ i = .int .i64 j ∧ ag = .bool (((nextL m k).take j).foldl (relK m k) P).2 ∧ TimeSt wb w5 g (encL (((nextL m k).take j).foldl (relK m k) P).1) ∧ FreshAt wr.heap.size w5 no 1 (nextL m k).length (ic (nxI m k))) (fun _ i _ => (nextL m k).length - (intOf i).toNat)
            case atStart => exact ⟨0, Nat.zero_le _, rfl, rfl, HT3.out, HN4.out⟩
            case round =>
              clear HT3 HN4
              obtain ⟨j, hj, rfl, rfl, hT, hF⟩ := hrel
              have HTJ := Lib.hid hT; have HFJ := Lib.hid hF
              by_cases hlt2 : j < (nextL m k).length
              · have hmem := nextL_mem.1 (show nth (nextL m k) j ∈ nextL m k by simp [nth, hlt2])
                have hnth := nxI_nth (m := m) (c := k) hlt2
                have HOKQ := Lib.hid (foldK_ok hm HOKP.out (i := k) (j := j) (show k < m.cost.length by have := HN.out; omega))
                have HSNOC : Hid (((nextL m k).take (j + 1)).foldl (relK m k) P = relK m k (((nextL m k).take j).foldl (relK m k) P) (nth (nextL m k) j)) := Lib.hid (foldl_snoc hlt2)
                obtain ⟨nb, noff, rfl, hcell⟩ := ints_at' (xs := nxI m k) (by rw [HNL.out]; exact hF.row) (by rw [HNL.out]; omega)
                have d0 := hcell j (by rw [HNL.out]; exact hlt2)
                rw [hnth] at d0
                have hst := stI_bd hm (show k < m.cost.length by have := HN.out; omega) hmem.1
                have HSTP := Lib.hid (fun y hx => HSTEP.out y k (nth (nextL m k) j) (some ⟨cb, coff, none⟩) (HR.out.ext ((HXB.out.trans hT.ext).trans hx)) (HT.out.ext ((HXB.out.trans hT.ext).trans hx)) hlt (by rw [HN.out]; exact hmem.1))
                have hkk : nth (nextL m k) j < n := by rw [HN.out]; exact hmem.1
                generalize ((nextL m k).take j).foldl (relK m k) P = Q at *
                generalize nth (nextL m k) j = kk at *
                have hql : Q.1.length = n := by rw [HOKQ.out.len, HN.out]
                have c1 := hT.cell kk (by rw [encL_len]; omega)
                have c2 := hT.cell k (by rw [encL_len]; omega)
                rw [encL_nth (by omega)] at c1 c2
                have f2 := hT.free k
                have hlt5 := hT.lt
                have b1 := HOKQ.out.bd kk (by omega)
                have b2 := HOKQ.out.bd k (by omega)
                have b1f := HOKQ.out.fin hm (show kk < Q.1.length by omega)
                have p0 := hT.ext.cells HQ.out.1
                have p1 := hT.ext.cells HQ.out.2.1
                have p2 := hT.ext.cells HQ.out.2.2.1
                have p3 := hT.ext.cells HQ.out.2.2.2
                have hj0 : (0 : Int) ≤ (j : Int) := by omega
                have hj1 : (j : Int) < ((nextL m k).length : Int) := by omega
                have hkk0 : (0 : Int) ≤ (kk : Int) := by omega
                have hkk1 : (kk : Int) < (n : Int) := by omega
                have hNT : NT = 1073741824 := rfl
                have hb10 := b1.1; have hb20 := b2.1; have hb22 := b2.2.2
                have hst0 := hst.1; have hst1 := hst.2
                rw [hNT] at hb22 b1f
                have HRK : Hid (relK m k Q kk = if nth Q.1 kk < 1073741824 ∧ nth Q.1 kk + stI m k kk < nth Q.1 k then (Q.1.set k (nth Q.1 kk + stI m k kk), true) else Q) := Lib.hid rfl
                have HQL := Lib.hid hql
                have HEN := Lib.hid (show ∀ x : Int, enc1 x = if x < 1073741824 then x else -1 from fun x => rfl)
                generalize stI m k kk = st at *
                generalize hqa : nth Q.1 kk = qa at *
                generalize hqb : nth Q.1 k = qb at *
                clear hT hF hcell hmem hnth hst b1 b2 hNT hqa hqb hql
                by_cases hq1 : qa < 1073741824
                · have hb11 := b1f hq1
                  rw [HEN.out qa, if_pos hq1] at c1
                  have g1 := Grow.cells c1
                  have g2 := Grow.cells p0
                  have g3 := Grow.cells p1
                  have g4 := Grow.cells p2
                  have g5 := Grow.cells p3
                  have hqn : ¬ qa < 0 := by omega
                  clear b1f p0 p1 p2 p3
                  go_wp2
                  refine wp_region_ext (by kernel_rfl) (by kernel_rfl) ?_
                  repeat (go_big_quiet_step ((go_at_call 105; with_reducible exact Calls.ext_of (HSTP.out _ (Grow.h _)))))
                  refine wpQuiet_nil ?_
                  rintro _ ⟨⟨w1, hx1⟩, rfl⟩
                  clear g1 g2 g3 g4 g5
                  have c1 := hx1.cells c1
                  have c2 := hx1.cells c2
                  have f2 := (hx1.frozenr _ _ hlt5).trans f2
                  have hz6 := hx1.size
                  have HT6 := Lib.hid (HTJ.out.kept hx1)
                  have HF6 := Lib.hid (HFJ.out.ext hx1)
                  clear hx1
                  by_cases hq2 : qa + st < qb
                  · have HRQ : Hid (relK m k Q kk = (Q.1.set k (qa + st), true)) := Lib.hid (by rw [HRK.out, if_pos ⟨hq1, hq2⟩])
                    have hT7 := HT6.out.put (i := k) (by rw [encL_len, HQL.out]; exact hlt) (qa + st)
                    rw [encL_set _ _ (show qa + st < NT by unfold NT; omega)] at hT7
                    have HT7 := Lib.hid hT7
                    have HF7 := Lib.hid (HF6.out.setCell (p := ⟨g, k, none⟩) hlt3 (.int .i64 (qa + st)))
                    clear hT7
                    by_cases hq3 : qb < 1073741824
                    · rw [HEN.out qb, if_pos hq3] at c2
                      have hqbn : ¬ qb < 0 := by omega
                      go_wp2
                      go_roundw
                      case rel => exact ⟨j + 1, by omega, by go_num, by rw [HSNOC.out, HRQ.out], by rw [HSNOC.out, HRQ.out]; exact HT7.out, HF7.out⟩
                      case measure => simp [intOf] <;> omega
                    · rw [HEN.out qb, if_neg hq3] at c2
                      go_wp2
                      go_roundw
                      case rel => exact ⟨j + 1, by omega, by go_num, by rw [HSNOC.out, HRQ.out], by rw [HSNOC.out, HRQ.out]; exact HT7.out, HF7.out⟩
                      case measure => simp [intOf] <;> omega
                  · have HRQ : Hid (relK m k Q kk = Q) := Lib.hid (by rw [HRK.out, if_neg (fun h => hq2 h.2)])
                    have hq3 : qb < 1073741824 := by omega
                    rw [HEN.out qb, if_pos hq3] at c2
                    have hqbn : ¬ qb < 0 := by omega
                    go_wp2
                    go_roundw
                    case rel => exact ⟨j + 1, by omega, by go_num, by rw [HSNOC.out, HRQ.out], by rw [HSNOC.out, HRQ.out]; exact HT6.out, HF6.out⟩
                    case measure => simp [intOf] <;> omega
                · have HRQ : Hid (relK m k Q kk = Q) := Lib.hid (by rw [HRK.out, if_neg (fun h => hq1 h.1)])
                  rw [HEN.out qa, if_neg hq1] at c1
                  go_wp2
                  go_roundw
                  case rel => exact ⟨j + 1, by omega, by go_num, by rw [HSNOC.out, HRQ.out], by rw [HSNOC.out, HRQ.out]; exact HTJ.out, HFJ.out⟩
                  case measure => simp [intOf] <;> omega
              · have hjl : j = (nextL m k).length := by omega
                have hnj : ¬ (j : Int) < ((nextL m k).length : Int) := by omega
                have HE : Hid (((nextL m k).take j).foldl (relK m k) P = relI m P k) := Lib.hid (by rw [hjl, List.take_length, HRI.out])
                generalize ((nextL m k).take j).foldl (relK m k) P = Q at *
                clear hT hF
                go_wp2
                go_roundw
                case rel => exact ⟨k + 1, by omega, by go_num, by rw [HSUCC.out, HE.out], by rw [HSUCC.out, ← HE.out]; exact HTJ.out⟩
                case measure => simp [intOf] <;> omega
        · have hkn : k = n := by omega
          have hnk : ¬ (k : Int) < (n : Int) := by omega
          have HE : Hid ((List.range k).foldl (relI m) (O, false) = relR m O) := Lib.hid (by unfold relR; rw [hkn, HN.out])
          have HI2 := Lib.hid (HI1.out.trans HE.out.symm)
          rw [← HE.out] at HS HRL HPOS2 HROK
          generalize (List.range k).foldl (relI m) (O, false) = P at *
          clear hT
          go_wp2
          go_roundw
          case rel => exact ⟨r + 1, by rw [HI2.out], by rw [HI2.out]; exact HTK.out⟩
          case measure =>
            have h1 := HTK.out.sumE HROK.out HRL.out
            have h2 := HME.out
            have h3 := HPOS.out
            have h4 := HPOS2.out
            rw [h1, h2]
            rcases HS.out with ⟨h5, h6⟩ | ⟨h5, h6⟩
            · rw [h5, h6]; simp [flagN]
            · rw [h5]; simp [flagN]; omega

end Go.Proofs.Ytidcfohlhamgmaa
