/-
  Proved here: what timesTo and leastTime return.
  Conditions: the map is valid; the cells are cells of it.
-/
import Derived.Test.YtidcfohlhamgmaaTour3
namespace Go.Proofs.Ytidcfohlhamgmaa
open Go.RowKit

theorem foldR_ok {m : MapD} (hm : mapB m = true) {o : List Int} (h : OkT m o) {k : Nat} (hk : k ≤ m.cost.length) : OkT m ((List.range k).foldl (relI m) (o, false)).1 := by
  refine foldl_keep (I := fun q : List Int × Bool => OkT m q.1) (fun q i hi hq => ?_) h
  have hi2 : i < k := by simpa using hi
  exact relI_keep (I := fun q : List Int × Bool => OkT m q.1) (fun q k2 hk2 _ _ _ hq => relK_ok hm hq (by omega) hk2) hq
theorem foldK_ok {m : MapD} (hm : mapB m = true) {p : List Int × Bool} (h : OkT m p.1) {i j : Nat} (hi : i < m.cost.length) : OkT m (((nextL m i).take j).foldl (relK m i) p).1 :=
  foldl_keep (I := fun q : List Int × Bool => OkT m q.1) (fun _ _ hk hq => relK_ok hm hq hi (nextL_mem.1 (List.mem_of_mem_take hk)).1) h

set_option maxRecDepth 100000 in
set_option maxHeartbeats 8000000 in
theorem impl_timesTo {m : MapD} {ao bo : Option Addr} {ac bc : Nat} {b : Nat} {w : World} (hr : RowAt w ao 1 m.rise.length (ic m.rise)) (ht : RowAt w bo 1 m.cost.length (ic m.cost)) (hm : mapB m = true) (hb : b < m.cost.length) :
    Calls Try.prog 110 #[m.val ao ac bo bc, .int .i64 b] w fun e w' => ∃ B gc, e = .returned (.slice (some ⟨B, 0, none⟩) m.cost.length gc) ∧ Ext w w' ∧ FreshAt w.heap.size w' (some ⟨B, 0, none⟩) 1 m.cost.length (ic (timL m b)) := by
  obtain ⟨i0, hi, hz0, hz1, hz2⟩ := info_parts infoInt
  have HI := Lib.hid hi; have HZ0 := Lib.hid hz0; have HZ1 := Lib.hid hz1; have HZ2 := Lib.hid hz2
  clear hi hz0 hz1 hz2
  have h36 := (map_len hm).2.2.1
  have HSTEP := Lib.hid (fun y a k bo (hr : RowAt y ao 1 m.rise.length (ic m.rise)) (ht : RowAt y bo 1 m.cost.length (ic m.cost)) ha hk => impl_stepTime (w := y) (ac := ac) (bc := bc) (a := a) (b := k) hr ht hm ha hk)
  have HNEXT := Lib.hid (fun y a bo (ht : RowAt y bo 1 m.cost.length (ic m.cost)) ha => impl_cellsNextTo (w := y) (ao := ao) (ac := ac) (bc := bc) (a := a) ht hm ha)
  have HOK := Lib.hid (iter_ok hm hb)
  have HEND := Lib.hid (fun r => @timL_eq m hm b hb r)
  have HSUM := Lib.hid (fun o => @relR_sum m hm o)
  have HKOK := Lib.hid (fun i k p => @relK_ok m hm i k p)
  unfold MapD.val at *
  have htl := (timL_ok hm hb).len
  obtain ⟨n, hn⟩ : ∃ n, n = m.cost.length := ⟨_, rfl⟩
  have HR := Lib.hid hr
  rw [← hn] at ht h36 HSTEP HNEXT hb htl HKOK ⊢
  obtain ⟨cb, coff, rfl, ccell⟩ := ints_at' (xs := m.cost) (by rw [← hn]; exact ht) (by omega)
  have HT := Lib.hid ht
  have hxb := (Ext.refl w).alloc (.cells #[.int .i64 m.wid, .int .i64 m.hei, .slice ao m.rise.length ac, .slice (some ⟨cb, coff, none⟩) n bc] 30)
  have HC := Lib.hid (fun k (hk : k < n) => hxb.cells (ccell k (by omega)))
  have q0 : (w.alloc (.cells #[.int .i64 m.wid, .int .i64 m.hei, .slice ao m.rise.length ac, .slice (some ⟨cb, coff, none⟩) n bc] 30)).cell? ⟨w.heap.size, 0, none⟩ = some (.int .i64 m.wid) := by go_simp
  have q1 : (w.alloc (.cells #[.int .i64 m.wid, .int .i64 m.hei, .slice ao m.rise.length ac, .slice (some ⟨cb, coff, none⟩) n bc] 30)).cell? ⟨w.heap.size, 1, none⟩ = some (.int .i64 m.hei) := by go_simp
  have q2 : (w.alloc (.cells #[.int .i64 m.wid, .int .i64 m.hei, .slice ao m.rise.length ac, .slice (some ⟨cb, coff, none⟩) n bc] 30)).cell? ⟨w.heap.size, 2, none⟩ = some (.slice ao m.rise.length ac) := by go_simp
  have q3 : (w.alloc (.cells #[.int .i64 m.wid, .int .i64 m.hei, .slice ao m.rise.length ac, .slice (some ⟨cb, coff, none⟩) n bc] 30)).cell? ⟨w.heap.size, 3, none⟩ = some (.slice (some ⟨cb, coff, none⟩) n bc) := by go_simp
  have HQ := Lib.hid (show _ ∧ _ ∧ _ ∧ _ from ⟨q0, q1, q2, q3⟩)
  have HXB := Lib.hid hxb
  have HN := Lib.hid hn; have HTL := Lib.hid htl
  have hbi : (b : Int) < (n : Int) := by omega
  have hb0 : (0 : Int) ≤ (b : Int) := by omega
  clear q0 q1 q2 q3 hn ht hr ccell hxb htl
  go_enter Try.func110, Try.ntmps110
  go_upto_region 1 with fail
  generalize hwb : w.alloc (.cells #[.int .i64 m.wid, .int .i64 m.hei, .slice ao m.rise.length ac, .slice (some ⟨cb, coff, none⟩) n bc] 30) = wb at HQ HXB HC ⊢
  have HSZ : Hid (wb.heap.size = w.heap.size + 1) := Lib.hid (by rw [← hwb]; simp)
  clear hwb
  have p3 := HQ.out.2.2.2
  have pl := World.block_lt_of_cell? _ _ p3
  go_upto_block 0 with (refine wpList_make_full _ rfl _ _ _ rfl (wb.heap.size) 3 i0 _ 1 Try.underlying22 HI.out HZ0.out HZ1.out .i64 .i64 n n n rfl rfl rfl rfl (by rw [HZ2.out]; omega) (by unfold maxLen; omega) (by simp) ?_; intro w1 hown hgrow)
  have hF := Fill.start (c := fun _ _ => .int .i64 NT) hown hgrow
  have HF := Lib.hid hF
  clear hown hgrow p3 hF
  go_cut [] (fun wc => TimeSt wb wc wb.heap.size (List.replicate n NT))
  case first =>
    go_wp2
    go_loopw [19] (fun i wr => ∃ k : Nat, k ≤ n ∧ i = .int .i64 k ∧ Fill wb wr wb.heap.size 1 n k (fun _ _ => .int .i64 NT)) (fun i _ => n - (intOf i).toNat)
    case atStart => exact ⟨0, Nat.zero_le _, rfl, HF.out⟩
    case round =>
      clear HF
      obtain ⟨k, hk, rfl, hF⟩ := hrel
      by_cases hlt : k < n
      · obtain ⟨u0, e0⟩ := hF.cell k (by omega)
        have f0 := hF.free k
        have hsz2 := hF.size
        have hk0 : (0 : Int) ≤ (k : Int) := by omega
        have hk1 : (k : Int) < (n : Int) := by omega
        have HF2 := Lib.hid (hF.put (i := k) (j := 0) (by decide) (by omega) hlt)
        clear hF
        go_wp2
        go_roundw
        case rel => exact ⟨k + 1, by omega, by go_num, HF2.out⟩
        case measure => simp [intOf] <;> omega
      · have hnk : ¬ (k : Int) < (n : Int) := by omega
        have hkn : k = n := by omega
        have HFF := Lib.hid hF
        clear hF
        go_wp2_with fail
        go_meet
        refine ⟨HFF.out.ext, Nat.le_refl _, HFF.out.size, fun j hj => ?_, HFF.out.free⟩
        have hj2 : j < n := by simpa using hj
        have := HFF.out.done j 0 (by decide) (by omega)
        have e : nth (List.replicate n NT) j = NT := by simp [nth, hj2]
        rw [e]
        simpa using this
  case rest =>
  clear HF
  have hT0 := hcut
  have hrl : (List.replicate n NT).length = n := by simp
  have c0 := hT0.cell b (by rw [hrl]; exact hb)
  have f0 := hT0.free b
  have l0 := hT0.lt
  have hT1 := hT0.put (i := b) (by rw [hrl]; exact hb) 0
  have e0 : (List.replicate n NT).set b 0 = (iterT m b 0).1 := by unfold iterT initT; rw [HN.out]
  rw [e0] at hT1
  have HT1 := Lib.hid hT1
  clear hT0 hT1 e0 hrl hcut
  go_upto_block 2 with fail
  generalize hw2 : wc.setCell ⟨wb.heap.size, b, none⟩ (.int .i64 0) = w2 at HT1 ⊢
  clear hw2 c0 f0 l0
  go_wp2
  go_loopw [7] (fun ag wr => ∃ r : Nat, ag = .bool (iterT m b r).2 ∧ TimeSt wb wr wb.heap.size (iterT m b r).1) (fun ag wr => (sumC wr wb.heap.size n).toNat * 2 + flagN ag)
  case atStart => exact ⟨0, rfl, HT1.out⟩
  case round =>
    clear HT1
    obtain ⟨r, rfl, hT⟩ := hrel
    have hok := HOK.out r
    have hol : (iterT m b r).1.length = n := by rw [hok.len, HN.out]
    have HTT := Lib.hid hT
    cases hfl : (iterT m b r).2
    · obtain ⟨q, rfl⟩ : ∃ q, r = q + 1 := by
        cases r with
        | zero => cases hfl
        | succ q => exact ⟨q, rfl⟩
      have he := (HEND.out q hfl).2
      rw [← he] at hT hol
      have hfr := hT.fresh (B0 := w.heap.size) (by have := HSZ.out; omega)
      rw [hol] at hfr
      have HFR := Lib.hid hfr
      have HXE := Lib.hid (HXB.out.trans hT.ext)
      clear hT hfr he hok HTT
      go_wp2
      go_ret
      exact ⟨wb.heap.size, n, rfl, HXE.out, HFR.out⟩
    · have hs := HSUM.out _ hok
      have hRok : OkT m (relR m (iterT m b r).1).1 := hs.1
      have hi1 : iterT m b (r + 1) = relR m (iterT m b r).1 := rfl
      have HI1 := Lib.hid hi1
      have HME : Hid ((sumC wr wb.heap.size n) = (iterT m b r).1.sum) := Lib.hid (hT.sum hol)
      have HPOS := Lib.hid (sum_nonneg (o := (iterT m b r).1) (fun k hk => (hok.bd k hk).1))
      have HPOS2 := Lib.hid (sum_nonneg (o := (relR m (iterT m b r).1).1) (fun k hk => (hRok.bd k hk).1))
      have HRL : Hid ((relR m (iterT m b r).1).1.length = n) := Lib.hid (by rw [hRok.len, HN.out])
      have HS := Lib.hid hs.2
      have HOK0 := Lib.hid hok
      generalize hO : (iterT m b r).1 = O at *
      clear hT hok hs hRok hi1 hO
      have p3 := HTT.out.ext.cells HQ.out.2.2.2
      have pl2 := World.block_lt_of_cell? _ _ p3
      go_wp2
      go_loopw [7, 33] (fun ag i wr => ∃ k : Nat, k ≤ n ∧ i = .int .i64 k ∧ ag = .bool ((List.range k).foldl (relI m) (O, false)).2 ∧ TimeSt wb wr wb.heap.size ((List.range k).foldl (relI m) (O, false)).1) (fun _ i _ => n - (intOf i).toNat)
      case atStart => exact ⟨0, Nat.zero_le _, rfl, rfl, HTT.out⟩
      case round =>
        clear HTT p3 pl2
        obtain ⟨k, hk, rfl, rfl, hT⟩ := hrel
        have HTK := Lib.hid hT
        by_cases hlt : k < n
        · have p0 := hT.ext.cells HQ.out.1
          have p1 := hT.ext.cells HQ.out.2.1
          have p2 := hT.ext.cells HQ.out.2.2.1
          have p3 := hT.ext.cells HQ.out.2.2.2
          have pl2 := World.block_lt_of_cell? _ _ p3
          have d0 := hT.ext.cells (HC.out k hlt)
          have hk0 : (0 : Int) ≤ (k : Int) := by omega
          have hk1 : (k : Int) < (n : Int) := by omega
          have HOKP := Lib.hid (foldR_ok hm HOK0.out (show k ≤ m.cost.length by have := HN.out; omega))
          have HSUCC : Hid ((List.range (k + 1)).foldl (relI m) (O, false) = relI m ((List.range k).foldl (relI m) (O, false)) k) := Lib.hid (by rw [List.range_succ, List.foldl_append]; rfl)
          generalize (List.range k).foldl (relI m) (O, false) = P at *
          clear hT
          by_cases hc : nth m.cost k = 0
          · have HRI : Hid (relI m P k = P) := Lib.hid (by unfold relI; rw [if_pos hc])
            rw [hc] at d0
            go_wp2
            go_roundw
            case rel => exact ⟨k + 1, by omega, by go_num, by rw [HSUCC.out, HRI.out], by rw [HSUCC.out, HRI.out]; exact HTK.out⟩
            case measure => simp [intOf] <;> omega
          · have HRI : Hid (relI m P k = (nextL m k).foldl (relK m k) P) := Lib.hid (by unfold relI; rw [if_neg hc])
            have HNX := Lib.hid (HNEXT.out wr k (some ⟨cb, coff, none⟩) (HT.out.ext (HXB.out.trans HTK.out.ext)) hlt)
            have hcn : (nth m.cost k == 0) = false := by simpa using hc
            generalize nth m.cost k = ck at *
            go_wp2_with fail
            refine HNX.out.mono ?_; rintro e w3 ⟨no, nc, rfl, hx3, hF3⟩
            have HN3 := Lib.hid hF3
            have HT3 := Lib.hid (HTK.out.kept hx3)
            have hnl := nxI_len m k
            have hlt3 := HTK.out.lt
            have hw3 := hx3.size
            have HNL := Lib.hid hnl
            clear hF3 hx3 HNX HTK p0 p1 p2 p3 pl2 d0 hnl
            rw [HNL.out]
            have HN4 : Hid (FreshAt wr.heap.size w3 no 1 (nextL m k).length (ic (nxI m k))) := Lib.hid (by rw [← HNL.out]; exact HN3.out)
            clear HN3
            have hL36 : (nextL m k).length ≤ 36 := by have := nxU_len m k m.cost.length; have h2 := HNL.out; have h3 := HN.out; unfold nxI at h2; omega
            go_wp2
            go_loopw [7, 44] (fun ag i w5 => ∃ j : Nat, j ≤ (nextL m k).length ∧ i = .int .i64 j ∧ ag = .bool (((nextL m k).take j).foldl (relK m k) P).2 ∧ TimeSt wb w5 wb.heap.size (((nextL m k).take j).foldl (relK m k) P).1 ∧ FreshAt wr.heap.size w5 no 1 (nextL m k).length (ic (nxI m k))) (fun _ i _ => (nextL m k).length - (intOf i).toNat)
            case atStart => exact ⟨0, Nat.zero_le _, rfl, rfl, HT3.out, HN4.out⟩
            case round =>
              clear HT3 HN4
              obtain ⟨j, hj, rfl, rfl, hT, hF⟩ := hrel
              have HTJ := Lib.hid hT; have HFJ := Lib.hid hF
              by_cases hlt2 : j < (nextL m k).length
              · have hmem := nextL_mem.1 (show nth (nextL m k) j ∈ nextL m k by simp [nth, hlt2])
                have hnth := nxI_nth (m := m) (c := k) hlt2
                have HOKQ := Lib.hid (foldK_ok hm HOKP.out (i := k) (j := j) (show k < m.cost.length by have := HN.out; omega))
                have HSNOC : Hid (((nextL m k).take (j + 1)).foldl (relK m k) P = relK m k (((nextL m k).take j).foldl (relK m k) P) (nth (nextL m k) j)) := Lib.hid (foldl_snoc hlt2)
                obtain ⟨nb, noff, rfl, hcell⟩ := ints_at' (xs := nxI m k) (by rw [HNL.out]; exact hF.row) (by rw [HNL.out]; omega)
                have d0 := hcell j (by rw [HNL.out]; exact hlt2)
                rw [hnth] at d0
                have hst := stI_bd hm (show k < m.cost.length by have := HN.out; omega) hmem.1
                have HSTP := Lib.hid (fun y hx => HSTEP.out y k (nth (nextL m k) j) (some ⟨cb, coff, none⟩) (HR.out.ext ((HXB.out.trans hT.ext).trans hx)) (HT.out.ext ((HXB.out.trans hT.ext).trans hx)) hlt (by rw [HN.out]; exact hmem.1))
                have hkk : nth (nextL m k) j < n := by rw [HN.out]; exact hmem.1
                generalize ((nextL m k).take j).foldl (relK m k) P = Q at *
                generalize nth (nextL m k) j = kk at *
                have hql : Q.1.length = n := by rw [HOKQ.out.len, HN.out]
                have c1 := hT.cell kk (by omega)
                have c2 := hT.cell k (by omega)
                have f2 := hT.free k
                have hlt5 := hT.lt
                have b1 := HOKQ.out.bd kk (by omega)
                have b2 := HOKQ.out.bd k (by omega)
                have p0 := hT.ext.cells HQ.out.1
                have p1 := hT.ext.cells HQ.out.2.1
                have p2 := hT.ext.cells HQ.out.2.2.1
                have p3 := hT.ext.cells HQ.out.2.2.2
                have g1 := Grow.cells c1
                have g2 := Grow.cells p0
                have g3 := Grow.cells p1
                have g4 := Grow.cells p2
                have g5 := Grow.cells p3
                have hj0 : (0 : Int) ≤ (j : Int) := by omega
                have hj1 : (j : Int) < ((nextL m k).length : Int) := by omega
                have hkk0 : (0 : Int) ≤ (kk : Int) := by omega
                have hkk1 : (kk : Int) < (n : Int) := by omega
                have hNT : NT = 1073741824 := rfl
                have hb10 := b1.1; have hb12 := b1.2.2; have hb20 := b2.1; have hb22 := b2.2.2
                have hst0 := hst.1; have hst1 := hst.2
                rw [hNT] at hb12 hb22
                have HRK : Hid (relK m k Q kk = if nth Q.1 kk < 1073741824 ∧ nth Q.1 kk + stI m k kk < nth Q.1 k then (Q.1.set k (nth Q.1 kk + stI m k kk), true) else Q) := Lib.hid rfl
                have HQL := Lib.hid hql
                generalize stI m k kk = st at *
                generalize hqa : nth Q.1 kk = qa at *
                generalize hqb : nth Q.1 k = qb at *
                clear hT hF hcell hmem hnth hst b1 b2 p0 p1 p2 p3 hNT hqa hqb hql
                go_wp2
                refine wp_region_ext (by kernel_rfl) (by kernel_rfl) ?_
                repeat (go_big_quiet_step ((go_at_call 125; with_reducible exact Calls.ext_of (HSTP.out _ (Grow.h _)))))
                refine wpQuiet_nil ?_
                rintro _ ⟨⟨w1, hx1⟩, rfl⟩
                clear g1 g2 g3 g4 g5
                have c1 := hx1.cells c1
                have c2 := hx1.cells c2
                have f2 := (hx1.frozenr _ _ hlt5).trans f2
                have hz6 := hx1.size
                have HT6 := Lib.hid (HTJ.out.kept hx1)
                have HF6 := Lib.hid (HFJ.out.ext hx1)
                clear hx1
                by_cases hq1 : qa < 1073741824
                · by_cases hq2 : qa + st < qb
                  · have HRQ : Hid (relK m k Q kk = (Q.1.set k (qa + st), true)) := Lib.hid (by rw [HRK.out, if_pos ⟨hq1, hq2⟩])
                    have HT7 := Lib.hid (HT6.out.put (i := k) (by rw [HQL.out]; exact hlt) (qa + st))
                    have HF7 := Lib.hid (HF6.out.setCell (p := ⟨wb.heap.size, k, none⟩) hlt3 (.int .i64 (qa + st)))
                    go_wp2
                    go_roundw
                    case rel => exact ⟨j + 1, by omega, by go_num, by rw [HSNOC.out, HRQ.out], by rw [HSNOC.out, HRQ.out]; exact HT7.out, HF7.out⟩
                    case measure => simp [intOf] <;> omega
                  · have HRQ : Hid (relK m k Q kk = Q) := Lib.hid (by rw [HRK.out, if_neg (fun h => hq2 h.2)])
                    go_wp2
                    go_roundw
                    case rel => exact ⟨j + 1, by omega, by go_num, by rw [HSNOC.out, HRQ.out], by rw [HSNOC.out, HRQ.out]; exact HT6.out, HF6.out⟩
                    case measure => simp [intOf] <;> omega
                · have HRQ : Hid (relK m k Q kk = Q) := Lib.hid (by rw [HRK.out, if_neg (fun h => hq1 h.1)])
                  go_wp2
                  go_roundw
                  case rel => exact ⟨j + 1, by omega, by go_num, by rw [HSNOC.out, HRQ.out], by rw [HSNOC.out, HRQ.out]; exact HT6.out, HF6.out⟩
                  case measure => simp [intOf] <;> omega
              · have hjl : j = (nextL m k).length := by omega
                have hnj : ¬ (j : Int) < ((nextL m k).length : Int) := by omega
                have HE : Hid (((nextL m k).take j).foldl (relK m k) P = relI m P k) := Lib.hid (by rw [hjl, List.take_length, HRI.out])
                generalize ((nextL m k).take j).foldl (relK m k) P = Q at *
                clear hT hF
                go_wp2
                go_roundw
                case rel => exact ⟨k + 1, by omega, by go_num, by rw [HSUCC.out, HE.out], by rw [HSUCC.out, ← HE.out]; exact HTJ.out⟩
                case measure => simp [intOf] <;> omega
        · have hkn : k = n := by omega
          have hnk : ¬ (k : Int) < (n : Int) := by omega
          have HE : Hid ((List.range k).foldl (relI m) (O, false) = relR m O) := Lib.hid (by unfold relR; rw [hkn, HN.out])
          generalize (List.range k).foldl (relI m) (O, false) = P at *
          clear hT
          have HI2 := Lib.hid (HI1.out.trans HE.out.symm)
          rw [← HE.out] at HS HRL HPOS2
          go_wp2
          go_roundw
          case rel => exact ⟨r + 1, by rw [HI2.out], by rw [HI2.out]; exact HTK.out⟩
          case measure =>
            have h1 := HTK.out.sum HRL.out
            have h2 := HME.out
            have h3 := HPOS.out
            have h4 := HPOS2.out
            rw [h1, h2]
            rcases HS.out with ⟨h5, h6⟩ | ⟨h5, h6⟩
            · rw [h5, h6]; simp [flagN]
            · rw [h5]; simp [flagN]; omega

set_option maxHeartbeats 1000000 in
theorem impl_leastTime {m : MapD} {ao bo : Option Addr} {ac bc : Nat} {a b : Nat} {w : World} (hr : RowAt w ao 1 m.rise.length (ic m.rise)) (ht : RowAt w bo 1 m.cost.length (ic m.cost)) (hm : mapB m = true) (ha : a < m.cost.length) (hb : b < m.cost.length) :
    Calls Try.prog 70 #[m.val ao ac bo bc, .int .i64 a, .int .i64 b] w fun e w' => e = .returned (.int .i64 (nth (timL m b) a)) ∧ Ext w w' := by
  have hX := (Ext.refl w).alloc (.cells #[.int .i64 m.wid, .int .i64 m.hei, .slice ao m.rise.length ac, .slice bo m.cost.length bc] 30)
  have HT := Lib.hid (impl_timesTo (ac := ac) (bc := bc) (hr.ext hX) (ht.ext hX) hm hb)
  have HTL := Lib.hid (timL_ok hm hb).len
  have HX := Lib.hid hX
  unfold MapD.val at *
  generalize m.cost.length = n at *
  clear hr ht hX hm
  go_enter Try.func70, Try.ntmps70
  go_wp2_with fail
  refine HT.out.mono ?_; rintro e w1 ⟨B, gc, rfl, hx1, hF⟩
  have HX1 := Lib.hid (HX.out.trans hx1)
  have hrow := hF.row
  rw [← HTL.out] at hrow
  obtain ⟨lb, loff, e2, hcell⟩ := ints_at' hrow (by rw [HTL.out]; omega)
  injection e2 with e2; injection e2 with e2 e3
  subst e2 e3
  have d0 := hcell a (by rw [HTL.out]; exact ha)
  rw [Nat.zero_add] at d0
  have ha0 : (0 : Int) ≤ (a : Int) := by omega
  have ha1 : (a : Int) < (n : Int) := by omega
  clear hcell hrow hF hx1 HT
  go_wp2
  go_ret
  exact ⟨rfl, HX1.out⟩

end Go.Proofs.Ytidcfohlhamgmaa
