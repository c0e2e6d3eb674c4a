/-
  Proved here: what ParseCard returns: the card whose text the text is, or none.
  Conditions: the text has at most 1048576 bytes; the library's variables hold what they are laid as.
-/
import Derived.Test.YtckgjpaccgpdpaaGreatDoorParPl
import Derived.Test.YtckgjpaccgpdpaaGreatDoorCards9
import Derived.Test.YtckgjpaccgpdpaaGreatDoorQTail
import Derived.IntWalk
import Derived.Deep.DrawnRows
import Derived.Deep.DeepCutAuto
import Derived.Deep.CutBlock
namespace Go.Proofs.YtckgjpaccgpdpaaGreatDoor
open Go.ChangeShapes Go.WideShapes Go.ChangeAt Go.RowKit

/-- what ParseCard hands back -/
def ResP (s : ByteArray) (w : World) (e : Ending) (w' : World) : Prop :=
  ∃ go gc, e = .returned (.tuple #[(prC s).val go gc, .bool (prB s)]) ∧ Ext w w' ∧ FreshAt w.heap.size w' go 2 (prC s).ps.length (fun k => (nth (prC s).ps k).c)
theorem ResP.no {s : ByteArray} {w w' : World} {e : Ending} (h : prB s = false ∧ prC s = ⟨0, 0, 0, []⟩) (he : e = .returned (.tuple #[.agg #[.int .i64 0, .int .i64 0, .int .i64 0, .slice none 0 0], .bool false])) (hx : Ext w w') : ResP s w e w' := by
  unfold ResP
  rw [h.1, h.2]
  exact ⟨none, 0, he, hx, ⟨fun hn => by simp at hn, fun a e => (by cases e), fun b off e => (by cases e)⟩⟩
/-- a card's box with an empty slice of its own -/
def InitP (w : World) (base B4 : Nat) (n0 n2 n4 : Int) : Prop := ∃ g gc, Box4 w B4 (.int .i64 n0) (.int .i64 n2) (.int .i64 n4) (.slice (some ⟨g, 0, none⟩) 0 gc) ∧ Owns w base 35 2 Pch.c (.slice (some ⟨g, 0, none⟩) 0 gc) ([] : List Pch) ∧ Hid (∀ j, w.frozen? ⟨B4, j, none⟩ = false) ∧ Apart w (some ⟨B4, 0, none⟩) (.slice (some ⟨g, 0, none⟩) 0 gc)
theorem initA {w0 w : World} {n0 n2 n4 : Int} (hx : Ext w0 w) : InitP ((w.alloc (.cells #[] 35)).alloc (.cells #[.int .i64 n0, .int .i64 n2, .int .i64 n4, .slice (some ⟨w.heap.size, 0, none⟩) 0 0] 26)).drew w0.heap.size (w.heap.size + 1) n0 n2 n4 := by
  refine ⟨w.heap.size, 0, ?_, (Owns.start hx).ext' (((Ext.refl _).alloc _).drew), ?_, ?_⟩
  · have := Box4.of (w := w.alloc (.cells #[] 35)) (a := .int .i64 n0) (b := .int .i64 n2) (c := .int .i64 n4) (d := .slice (some ⟨w.heap.size, 0, none⟩) 0 0) (T := 26) ((Ext.refl _).drew)
    rwa [World.size_alloc] at this
  · exact Lib.hid fun j => by go_simp
  · intro a e
    injection e with e
    subst e
    exact ⟨by simp; try omega, by simp [Value.ownBlock]⟩
theorem initB {w0 w : World} {n0 n2 n4 : Int} (hx : Ext w0 w) : InitP ((w.alloc (.cells #[.int .i64 n0, .int .i64 n2, .int .i64 n4, .slice (some ⟨w.heap.size + 1, 0, none⟩) 0 0] 26)).alloc (.cells #[] 35)).drew w0.heap.size w.heap.size n0 n2 n4 := by
  refine ⟨w.heap.size + 1, 0, Box4.of (((Ext.refl _).alloc _).drew), ?_, ?_, ?_⟩
  · have := (Owns.start (e := 35) (s := 2) (cc := Pch.c) (hx.alloc (.cells #[.int .i64 n0, .int .i64 n2, .int .i64 n4, .slice (some ⟨w.heap.size + 1, 0, none⟩) 0 0] 26))).ext' ((Ext.refl _).drew)
    rwa [World.size_alloc] at this
  · exact Lib.hid fun j => by go_simp
  · intro a e
    injection e with e
    subst e
    exact ⟨by simp; try omega, by simp [Value.ownBlock]⟩
theorem noneB_list : noneB.toList = [110, 111, 110, 101] := by rw [Lib.toList_data]; rfl
theorem row_words (w : World) (W : List ByteArray) (T : TypeId) : RowAt (w.alloc (.cells (W.map Value.string).toArray T)) (some ⟨w.heap.size, 0, none⟩) 1 W.length (fun k => stw (nth W k)) := fun _ => ⟨w.heap.size, 0, rfl, fun k hk j hj => by
  obtain rfl : j = 0 := by omega
  rw [World.cell?_alloc_new]
  simp [stw, nth, List.getD, List.getElem?_eq_getElem hk]⟩
theorem row_put {w : World} {b off n k : Nat} {x : ByteArray} {W : List ByteArray} (h : RowAt w (some ⟨b, off, none⟩) 1 n (fun k => stw (nth W k))) (hn : n = W.length) (hk : k < n) :
    RowAt (w.setCell ⟨b, off + k, none⟩ (.string x)) (some ⟨b, off, none⟩) 1 n (fun j => stw (nth (W.set k x) j)) := fun h0 => by
  obtain ⟨b', off', e, H⟩ := h h0
  injection e with e; injection e with e1 e2; subst e1 e2
  refine ⟨b, off, rfl, fun j hj i hi => ?_⟩
  obtain rfl : i = 0 := by omega
  by_cases hjk : j = k
  · subst hjk
    have := H j hj 0 (by decide)
    rw [show off + j * 1 + 0 = off + j by omega] at this ⊢
    show _ = some (stw (nth (W.set j x) j) 0)
    rw [nth_set_eq (by omega)]
    exact World.cell?_setCell_same _ _ _ this
  · rw [World.cell?_setCell_other _ _ _ _ (fun e => by injection e with e1 e2; omega)]
    show _ = some (stw (nth (W.set k x) j) 0)
    rw [nth_set_ne hjk]
    exact H j hj 0 (by decide)
theorem lit_024 (w : World) (T : TypeId) : RowAt (w.alloc (.cells #[.int .i64 0, .int .i64 2, .int .i64 4] T)) (some ⟨w.heap.size, 0, none⟩) 1 ([0, 2, 4] : List Nat).length (pcc [0, 2, 4]) := fun _ => ⟨w.heap.size, 0, rfl, fun k hk j hj => by
  obtain rfl : j = 0 := by omega
  rw [World.cell?_alloc_new]
  match k, hk with
  | 0, _ => rfl
  | 1, _ => rfl
  | 2, _ => rfl⟩
theorem lit_01 (w : World) (T : TypeId) : RowAt (w.alloc (.cells #[.int .i64 0, .int .i64 1] T)) (some ⟨w.heap.size, 0, none⟩) 1 ([0, 1] : List Nat).length (pcc [0, 1]) := fun _ => ⟨w.heap.size, 0, rfl, fun k hk j hj => by
  obtain rfl : j = 0 := by omega
  rw [World.cell?_alloc_new]
  match k, hk with
  | 0, _ => rfl
  | 1, _ => rfl⟩
theorem lit_2s (w : World) (s1 s2 : ByteArray) (T : TypeId) : RowAt (w.alloc (.cells #[.string s1, .string s2] T)) (some ⟨w.heap.size, 0, none⟩) 1 ([s1, s2] : List ByteArray).length (fun k => stw (nth [s1, s2] k)) := fun _ => ⟨w.heap.size, 0, rfl, fun k hk j hj => by
  obtain rfl : j = 0 := by omega
  rw [World.cell?_alloc_new]
  match k, hk with
  | 0, _ => rfl
  | 1, _ => rfl⟩
theorem pu_succ {W : List ByteArray} {k : Nat} (h : k < (W.drop 5).length) : ((W.drop 5).take (k + 1)).map puV = ((W.drop 5).take k).map puV ++ [puV (nth W (5 + k))] := by
  have e : nth W (5 + k) = (W.drop 5)[k] := by
    rw [List.getElem_drop]
    rw [List.length_drop] at h
    simp [nth, List.getD, List.getElem?_eq_getElem (show 5 + k < W.length by omega)]
  rw [List.take_add_one, List.getElem?_eq_getElem h, List.map_append, e]
  rfl
theorem pu_len {W : List ByteArray} {k : Nat} (h : k ≤ (W.drop 5).length) : (((W.drop 5).take k).map puV).length = k := by
  rw [List.length_map, List.length_take]; omega
theorem words_punch {c : CardD} {j : Nat} (h : j < c.ps.length) : nth (wordsC c) (5 + j) = bsOf (pT (nth c.ps j)) := by
  have e : nth c.ps j = c.ps[j] := by simp [nth, List.getD, List.getElem?_eq_getElem h]
  have e2 : nth (wordsC c) (5 + j) = nth (c.ps.map fun p => bsOf (pT p)) j := by
    unfold nth wordsC
    rw [show 5 + j = j + 1 + 1 + 1 + 1 + 1 by omega]
    simp only [List.getD_cons_succ]
  rw [e2, e]
  simp [nth, List.getD, h]
theorem spl_mem_len (c : UInt8) : ∀ (l : List UInt8), ∀ x ∈ spl c l, x.length ≤ l.length
  | [], x, h => by simp [spl] at h; subst h; simp
  | b :: l, x, h => by
    unfold spl at h
    split at h
    · rcases List.mem_cons.1 h with rfl | h
      · simp
      · have := spl_mem_len c l x h; simp; omega
    · split at h
      · simp at h; subst h; simp
      · rename_i hd t e
        have ih := spl_mem_len c l
        rw [e] at ih
        rcases List.mem_cons.1 h with rfl | h
        · have := ih hd (by simp); simp; omega
        · have := ih x (by simp [h]); simp; omega
theorem splB_size (c : UInt8) (s : ByteArray) (k : Nat) : (nth (splB c s) k).size ≤ s.size := by
  by_cases hk : k < (splB c s).length
  · have e : nth (splB c s) k = (splB c s)[k] := by simp [nth, List.getD, List.getElem?_eq_getElem hk]
    rw [e]
    have hm := List.getElem_mem hk
    unfold splB at hm
    obtain ⟨x, hx, e2⟩ := List.mem_map.1 hm
    have := spl_mem_len c _ x hx
    unfold splB
    rw [← e2, bsOf_size, size_data]
    exact this
  · have e : nth (splB c s) k = ByteArray.empty := by
      simp [nth, List.getD, List.getElem?_eq_none (show (splB c s).length ≤ k by omega)]
      rfl
    rw [e]; exact Nat.zero_le _
theorem setW_size {W : List ByteArray} {n : Nat} (h : ∀ k, (nth W k).size ≤ n) (hn : 2 ≤ n) (k : Nat) : (nth (setW W) k).size ≤ n := by
  unfold setW
  split
  · by_cases hk : k = 4
    · subst hk
      by_cases h4 : 4 < W.length
      · rw [nth_set_eq h4]; exact hn
      · have e : W.set 4 minusB = W := List.set_eq_of_length_le (by omega)
        rw [e]; exact h 4
    · rw [nth_set_ne hk]; exact h k
  · exact h k
theorem cut_size (x : ByteArray) (k : Nat) : (nth (cutP x) k).size ≤ x.size := by
  have hc : (Lib.cut x.data.toList [64]).1.length ≤ x.data.toList.length ∧ (Lib.cut x.data.toList [64]).2.1.length ≤ x.data.toList.length := by
    rcases free_cut 64 x.data.toList with h | ⟨a, r, e, h⟩
    · rw [cut_free h]; simp
    · rw [e, cut_cut h]; simp; omega
  match k with
  | 0 => show (bsOf _).size ≤ _; rw [bsOf_size, size_data]; exact hc.1
  | 1 => show (bsOf _).size ≤ _; rw [bsOf_size, size_data]; exact hc.2
  | k + 2 =>
    have e : nth (cutP x) (k + 2) = ByteArray.empty := rfl
    rw [e]; exact Nat.zero_le _

set_option maxRecDepth 100000 in
set_option maxHeartbeats 8000000 in
theorem impl_ParseCard {s : ByteArray} (hs : s.size ≤ 1048576) {w : World} (hp : Pow w) (hv : ErrS w) (hm : MaxL w) :
    Calls Tryz.prog 19 #[.string s] w (ResP s w) := by
  obtain ⟨W, hW⟩ : ∃ W, W = splB 32 s := ⟨_, rfl⟩
  have hwl := splB_bd 32 s
  rw [← hW] at hwl
  have HBAD := Lib.hid (fun (R : List ByteArray → Prop) (hR : ∀ c, CardBd c → R (wordsC c)) (h : ¬ R W) => pr_bad (s := s) hR (by rw [← hW]; exact h))
  have HSP := Lib.hid (fun y (hy : Ext w y) => std_Split (c := 32) hs (hm.ext hy))
  rw [← hW] at HSP
  have hx0 : Ext w (w.alloc (.cells #[.int .i64 0, .int .i64 0, .int .i64 0, .slice none 0 0] 26)) := (Ext.refl w).alloc _
  have HX0 := Lib.hid hx0
  have HPW := Lib.hid hp; have HEV := Lib.hid hv; have HML := Lib.hid hm
  have HWW := Lib.hid hW
  have HSZ := Lib.hid (fun k => (show (nth W k).size ≤ s.size by rw [hW]; exact splB_size 32 s k))
  clear hW hx0 hp hv hm
  go_enter Tryz.func19, Tryz.ntmps19
  go_wp2_with fail
  refine (HSP.out _ HX0.out).mono ?_; rintro e w1 ⟨rfl, hw1⟩
  simp only [World.size_alloc] at hw1 ⊢
  have hxa : Ext (w.alloc (.cells #[.int .i64 0, .int .i64 0, .int .i64 0, .slice none 0 0] 26)) w1 := by rw [hw1]; exact (Ext.refl _).alloc _
  have hres : Res4 w1 w.heap.size := Res4.of hxa
  have hrow : RowAt w1 (some ⟨w.heap.size + 1, 0, none⟩) 1 W.length (fun k => stw (nth W k)) := by
    have := row_words (w.alloc (.cells #[.int .i64 0, .int .i64 0, .int .i64 0, .slice none 0 0] 26)) W 9
    rw [World.size_alloc] at this
    rw [hw1]; exact this
  have hfz : w1.frozen? ⟨w.heap.size + 1, 4, none⟩ = false := by rw [hw1]; go_simp
  have HX1 := Lib.hid (HX0.out.trans hxa)
  have HR1 := Lib.hid hres; have HRW := Lib.hid hrow
  clear hw1 hxa hres hrow HSP HX0
  by_cases hlen : 5 ≤ W.length ∧ W.length ≤ 17
  case neg =>
    rcases (show W.length < 5 ∨ (¬ W.length < 5 ∧ 17 < W.length) by omega) with h5 | ⟨h5, h17⟩
    · have c1 : (W.length : Int) < 5 := by omega
      have HB := Lib.hid (HBAD.out (fun W => 5 ≤ W.length ∧ W.length ≤ 17) (fun c h => by have := h.len; rw [wordsC_len]; omega) hlen)
      have HXB := Lib.hid (HX1.out)
      obtain ⟨r0, r1, r2, r3, rz⟩ := HR1.out
      have rl := World.block_lt_of_cell? _ _ r0
      have f0 := rz 0; have f1 := rz 1; have f2 := rz 2; have f3 := rz 3
      clear rz
      go_wp2
      refine bodyPost_ret (v := .tuple #[.agg #[.int .i64 0, .int .i64 0, .int .i64 0, .slice none 0 0], .bool false]) ?_ rfl ?_
      · simp [results, Tryz.results19, go_sem, cell_put, r0, r1, r2, r3]
      · refine ResP.no HB.out rfl ?_
        have hx := HXB.out
        first
          | exact Ext.setCell (Ext.setCell (Ext.setCell (Ext.setCell hx (by simp) _) (by simp) _) (by simp) _) (by simp) _
          | exact (by repeat (first | (with_reducible exact Ext.refl _) | (with_reducible assumption) | with_reducible refine Ext.drew ?_ | with_reducible refine Ext.alloc ?_ _ | with_reducible refine Ext.setCell ?_ (by first | (simp; done) | (simp; omega) | omega) _ | with_reducible refine Ext.trans ?_ (by with_reducible assumption)))
    · have c1 : ¬ (W.length : Int) < 5 := by omega
      have c2 : (17 : Int) < (W.length : Int) := by omega
      have HB := Lib.hid (HBAD.out (fun W => 5 ≤ W.length ∧ W.length ≤ 17) (fun c h => by have := h.len; rw [wordsC_len]; omega) hlen)
      have HXB := Lib.hid (HX1.out)
      obtain ⟨r0, r1, r2, r3, rz⟩ := HR1.out
      have rl := World.block_lt_of_cell? _ _ r0
      have f0 := rz 0; have f1 := rz 1; have f2 := rz 2; have f3 := rz 3
      clear rz
      go_wp2
      refine bodyPost_ret (v := .tuple #[.agg #[.int .i64 0, .int .i64 0, .int .i64 0, .slice none 0 0], .bool false]) ?_ rfl ?_
      · simp [results, Tryz.results19, go_sem, cell_put, r0, r1, r2, r3]
      · refine ResP.no HB.out rfl ?_
        have hx := HXB.out
        first
          | exact Ext.setCell (Ext.setCell (Ext.setCell (Ext.setCell hx (by simp) _) (by simp) _) (by simp) _) (by simp) _
          | exact (by repeat (first | (with_reducible exact Ext.refl _) | (with_reducible assumption) | with_reducible refine Ext.drew ?_ | with_reducible refine Ext.alloc ?_ _ | with_reducible refine Ext.setCell ?_ (by first | (simp; done) | (simp; omega) | omega) _ | with_reducible refine Ext.trans ?_ (by with_reducible assumption)))
  case pos =>
    obtain ⟨hl5, hl17⟩ := hlen
    have c1 : ¬ (W.length : Int) < 5 := by omega
    have c2 : ¬ (17 : Int) < (W.length : Int) := by omega
    have c3 : (4 : Int) < (W.length : Int) := by omega
    obtain ⟨_, _, ee, hce⟩ := HRW.out (by omega)
    injection ee with ee; injection ee with q1 q2; subst q1 q2
    have d4 := hce 4 (by omega) 0 (by decide)
    simp only [stw, Nat.add_zero, Nat.zero_add, Nat.mul_one] at d4
    clear hce
    go_upto_if 29 with fail
    go_cut [] (fun wc => Ext w wc ∧ RowAt wc (some ⟨w.heap.size + 1, 0, none⟩) 1 W.length (fun k => stw (nth (setW W) k)) ∧ Res4 wc w.heap.size)
    case first =>
      go_wp2_with fail
      · have hN : isNone W = true := by unfold isNone; rw [noneB_list]; assumption
        have HSW := Lib.hid (setW_yes hN)
        clear hN
        go_meet
        refine ⟨HX1.out.setCell (by simp) _, ?_, HR1.out.put (by simp) _⟩
        rw [HSW.out]
        exact row_put (off := 0) (k := 4) HRW.out rfl (by omega)
      · have hN : isNone W = false := by unfold isNone; rw [noneB_list]; assumption
        have HSW := Lib.hid (setW_no hN)
        clear hN
        go_meet
        exact ⟨HX1.out, by rw [HSW.out]; exact HRW.out, HR1.out⟩
    case rest =>
    obtain ⟨hx2, hrw2, hr2⟩ := hcut
    have HX2 := Lib.hid hx2; have HRW2 := Lib.hid hrw2; have HR2 := Lib.hid hr2
    clear hx2 hrw2 hr2 HX1 HR1 HRW d4 hfz
    generalize wc = w2 at *
    have hxA : Ext w2 (w2.alloc (.cells #[.int .i64 0, .int .i64 2, .int .i64 4] 3)) := (Ext.refl _).alloc _
    have H := impl_numbersIn (wo := some ⟨w.heap.size + 1, 0, none⟩) (po := some ⟨w2.heap.size, 0, none⟩) (wcap := W.length) (pcap := 3) (W := setW W) (P := [0, 2, 4]) (by rw [setW_len]; exact HRW2.out.ext hxA) (fun k => Nat.le_trans (setW_size HSZ.out (by omega) k) (by omega)) (by rw [setW_len]; omega) (lit_024 w2 3) (by decide) (fun k hk => by
      match k, hk with
      | 0, _ => decide
      | 1, _ => decide
      | 2, _ => decide) (HPW.out.ext (HX2.out.trans hxA)) (HEV.out.ext (HX2.out.trans hxA))
    rw [setW_len, show ([0, 2, 4] : List Nat).length = 3 from rfl] at H
    have HNI := Lib.hid H
    have HXA := Lib.hid (HX2.out.trans hxA)
    clear H hxA
    go_wp2_with fail
    refine HNI.out.mono ?_; rintro e w3 ⟨go, gc, rfl, hx3, hrow3⟩
    have HX3 := Lib.hid (HXA.out.trans hx3)
    have HRW3 := Lib.hid (HRW2.out.ext (((Ext.refl _).alloc _).trans hx3))
    have HR3 := Lib.hid (HR2.out.ext (((Ext.refl _).alloc _).trans hx3))
    clear hx3 HNI HXA HX2 HRW2 HR2 c1 c2 c3
    cases hB : nbB (setW W) [0, 2, 4]
    · rw [nrL_no hB]
      clear hrow3
      dsimp only [List.length_nil]
      have HB := Lib.hid (HBAD.out (fun W => nbB (setW W) [0, 2, 4] = true) (fun c h => (head_words h).2) (by rw [hB]; simp))
      have HXB := Lib.hid (HX3.out)
      obtain ⟨r0, r1, r2, r3, rz⟩ := HR3.out
      have rl := World.block_lt_of_cell? _ _ r0
      have f0 := rz 0; have f1 := rz 1; have f2 := rz 2; have f3 := rz 3
      clear rz
      go_wp2
      refine bodyPost_ret (v := .tuple #[.agg #[.int .i64 0, .int .i64 0, .int .i64 0, .slice none 0 0], .bool false]) ?_ rfl ?_
      · simp [results, Tryz.results19, go_sem, cell_put, r0, r1, r2, r3]
      · refine ResP.no HB.out rfl ?_
        have hx := HXB.out
        first
          | exact Ext.setCell (Ext.setCell (Ext.setCell (Ext.setCell hx (by simp) _) (by simp) _) (by simp) _) (by simp) _
          | exact (by repeat (first | (with_reducible exact Ext.refl _) | (with_reducible assumption) | with_reducible refine Ext.drew ?_ | with_reducible refine Ext.alloc ?_ _ | with_reducible refine Ext.setCell ?_ (by first | (simp; done) | (simp; omega) | omega) _ | with_reducible refine Ext.trans ?_ (by with_reducible assumption)))
    · have hln : (nrL (setW W) [0, 2, 4]).length = 3 := by rw [nrL_yes hB]; rfl
      rw [hln]
      rw [nrL_yes hB] at hrow3
      obtain ⟨lb, lo, rfl, hlc⟩ := hrow3 (show 0 < 3 by decide)
      have l0 := hlc 0 (show 0 < 3 by decide) 0 (by decide)
      have l1 := hlc 1 (show 1 < 3 by decide) 0 (by decide)
      have l2 := hlc 2 (show 2 < 3 by decide) 0 (by decide)
      have e0 : ic (nbL (setW W) [0, 2, 4]) 0 0 = .int .i64 (nbV (setW W) 0) := rfl
      have e1 : ic (nbL (setW W) [0, 2, 4]) 1 0 = .int .i64 (nbV (setW W) 2) := rfl
      have e2 : ic (nbL (setW W) [0, 2, 4]) 2 0 = .int .i64 (nbV (setW W) 4) := rfl
      rw [e0] at l0; rw [e1] at l1; rw [e2] at l2
      simp only [Nat.add_zero, Nat.mul_one] at l0 l1 l2
      clear hrow3 hlc hln hB e0 e1 e2
      obtain ⟨n0, hn0⟩ : ∃ n, n = nbV (setW W) 0 := ⟨_, rfl⟩
      obtain ⟨n2, hn2⟩ : ∃ n, n = nbV (setW W) 2 := ⟨_, rfl⟩
      obtain ⟨n4, hn4⟩ : ∃ n, n = nbV (setW W) 4 := ⟨_, rfl⟩
      rw [← hn0] at l0; rw [← hn2] at l1; rw [← hn4] at l2
      have HCR := Lib.hid (show crd W = ⟨n0, n2, n4, (W.drop 5).map puV⟩ by unfold crd; rw [hn0, hn2, hn4])
      clear hn0 hn2 hn4
      have zl := World.block_lt_of_cell? _ _ l0
      simp only at zl
      have zl2 : lb < w3.heap.size + 1 := by omega
      have zw : w.heap.size < w3.heap.size := HR3.out.lt
      go_upto_region 9 with fail
      go_cut [7] (fun v wc => ∃ B4 : Nat, v = .pointer (some ⟨B4, 0, none⟩) ∧ w3.heap.size ≤ B4 ∧ Ext w3 wc ∧ InitP wc w3.heap.size B4 n0 n2 n4)
      case first =>
        go_wp2_with fail
        go_region
        all_goals
          go_wp2_with fail
          go_meet
          first
            | exact ⟨_, rfl, Nat.le_refl _, (by repeat (first | (with_reducible exact Ext.refl _) | (with_reducible assumption) | with_reducible refine Ext.drew ?_ | with_reducible refine Ext.alloc ?_ _ | with_reducible refine Ext.setCell ?_ (by first | (simp; done) | (simp; omega) | omega) _ | with_reducible refine Ext.trans ?_ (by with_reducible assumption))), initB (Ext.refl _)⟩
            | exact ⟨_, rfl, Nat.le_succ _, (by repeat (first | (with_reducible exact Ext.refl _) | (with_reducible assumption) | with_reducible refine Ext.drew ?_ | with_reducible refine Ext.alloc ?_ _ | with_reducible refine Ext.setCell ?_ (by first | (simp; done) | (simp; omega) | omega) _ | with_reducible refine Ext.trans ?_ (by with_reducible assumption))), initA (Ext.refl _)⟩
      case rest =>
      obtain ⟨B4, rfl, hB4, hx4, hi4⟩ := hcut
      have HXC := Lib.hid hx4
      have HIN := Lib.hid hi4
      have hsz3 : w.heap.size + 1 < w3.heap.size := by
        obtain ⟨_, _, ee, hce⟩ := HRW3.out (by omega)
        injection ee with ee; injection ee with q1 q2; subst q1 q2
        have := World.block_lt_of_cell? _ _ (hce 0 (by omega) 0 (by decide))
        exact this
      have hPL : (W.drop 5).length = W.length - 5 := by rw [List.length_drop]
      have c5 : (5 : Int) ≤ (W.length : Int) := by omega
      clear hx4 hi4 l0 l1 l2 zl zl2 zw
      generalize wc = w4 at *
      obtain ⟨L, hL⟩ : ∃ L, L = W.length - 5 := ⟨_, rfl⟩
      go_upto_region 10 with fail
      go_cut [4, 53, 54, 55] (fun z a b c wc => z = .slice (some ⟨w.heap.size + 1, 0, none⟩) W.length W.length ∧ (∃ ad cp, a = .slice ad L cp ∧ (0 < L → ad = some ⟨w.heap.size + 1, 5, none⟩)) ∧ b = .int .i64 L ∧ c = .int .i64 0 ∧ wc = w4)
      case first =>
        have HLL := Lib.hid hL
        have hLi : ((W.length : Int) - 5) = (L : Int) := by omega
        clear hL
        go_wp2_with fail
        all_goals
          go_meet
          first
            | exact ⟨rfl, ⟨_, _, by rw [HLL.out], fun _ => rfl⟩, by rw [HLL.out], rfl, rfl⟩
            | (have hw5 : W.length = 5 := by omega
               have hL0 : L = 0 := by rw [HLL.out]; omega
               rw [hw5, hL0]
               exact ⟨rfl, ⟨_, _, rfl, fun h => absurd h (Nat.lt_irrefl 0)⟩, rfl, rfl, rfl⟩)
      case rest =>
      obtain ⟨rfl, ⟨ad, cp, rfl, hcp⟩, rfl, rfl, rfl⟩ := hcut
      obtain ⟨g0, gc0, hbx0, hown0, HFZ0, hap0⟩ := HIN.out
      obtain ⟨i0, hi, hz0, hz1, hz2⟩ := info_parts infoPch
      have HCP := Lib.hid hcp
      have HPS := Lib.hid (fun k (hk : k < L) => pu_succ (W := W) (k := k) (by rw [hPL, ← hL]; exact hk))
      have HPL := Lib.hid (fun k (hk : k ≤ L) => pu_len (W := W) (k := k) (by rw [hPL, ← hL]; exact hk))
      have HPF := Lib.hid (show ((W.drop 5).take L).map puV = (W.drop 5).map puV by rw [List.take_of_length_le (by rw [hPL, hL]; exact Nat.le_refl _)])
      have hL12 : L ≤ 12 := by omega
      have HSW := Lib.hid (fun k (hk : k < L) => (show nth (setW W) (5 + k) = nth W (5 + k) from setW_nth (by omega)))
      have HLW := Lib.hid (fun k (hk : k < L) => (show 5 + k < W.length by omega))
      have HLE := Lib.hid hL
      clear hcp hPL hL c5 HIN
      go_wp2_with fail
      go_loopw [55] (fun i wr => ∃ (k : Nat) (v : Value), k ≤ L ∧ i = .int .i64 k ∧ Ext w3 wr ∧ Owns wr w3.heap.size 35 2 Pch.c v (((W.drop 5).take k).map puV) ∧ Box4 wr B4 (.int .i64 n0) (.int .i64 n2) (.int .i64 n4) v ∧ Hid (∀ j, wr.frozen? ⟨B4, j, none⟩ = false) ∧ Apart wr (some ⟨B4, 0, none⟩) v) (fun i _ => L - (intOf i).toNat)
      case atStart => exact ⟨0, _, Nat.zero_le _, rfl, HXC.out, hown0, hbx0, HFZ0, hap0⟩
      case round =>
        clear hown0 hbx0 HFZ0 hap0 HXC
        obtain ⟨k, v, hk, rfl, hx, hown, hbx, HFZ, hap⟩ := hrel
        have HX := Lib.hid hx
        by_cases hlt : k < L
        · have hkn : (k : Int) < (L : Int) := by omega
          have hadd := HCP.out (by omega)
          subst hadd
          obtain ⟨_, _, ee, hce⟩ := (HRW3.out.ext hx) (by omega)
          injection ee with ee; injection ee with q1 q2; subst q1 q2
          have d0 := hce (5 + k) (HLW.out k hlt) 0 (by decide)
          simp only [stw, Nat.add_zero, Nat.zero_add, Nat.mul_one] at d0
          rw [HSW.out k hlt] at d0
          have HNS := Lib.hid (HPS.out k hlt)
          have hpl := HPL.out k hk
          have hxs := HSZ.out (5 + k)
          obtain ⟨X, hXX⟩ : ∃ X, X = ((W.drop 5).take k).map puV := ⟨_, rfl⟩
          rw [← hXX] at hown HNS hpl
          clear hXX hce
          have HRK := Lib.hid (fun (h : nbB (cutP (nth W (5 + k))) [0, 1] = false) => HBAD.out (fun W => ∀ j, 5 + j < W.length → nbB (cutP (nth W (5 + j))) [0, 1] = true) (fun c hc j hj => by
            have hjl : j < c.ps.length := by rw [wordsC_len] at hj; omega
            rw [words_punch hjl]
            exact (punch_words (hc.ps j hjl).1 (hc.ps j hjl).2).2.1) (fun hh => by rw [hh k (HLW.out k hlt)] at h; cases h))
          have HCUT := Lib.hid (std_Cut (s := nth W (5 + k)) (c := 64) (w := wr) (by omega) (HML.out.ext (HX3.out.trans hx)))
          have HCS := Lib.hid (fun j => Nat.le_trans (cut_size (nth W (5 + k)) j) hxs)
          generalize nth W (5 + k) = x at *
          clear hx
          go_wp2_with fail
          refine HCUT.out.mono ?_; rintro e w5 ⟨rfl, hx5⟩
          have hbx5 := hbx.ext hx5; have hown5 := hown.kept hx5; have hap5 := hap.ext hx5
          have hfz5 := fun j => (hx5.frozenr B4 j hbx.lt).trans (HFZ.out j)
          have HFZ5 := Lib.hid hfz5
          have HX5 := Lib.hid (HX.out.trans hx5)
          clear hx5 hbx hown hap HFZ hfz5 HX d0 HCUT
          obtain ⟨s1, hs1⟩ : ∃ s1, s1 = bsOf (Lib.cut x.data.toList [64]).1 := ⟨_, rfl⟩
          obtain ⟨s2, hs2⟩ : ∃ s2, s2 = bsOf (Lib.cut x.data.toList [64]).2.1 := ⟨_, rfl⟩
          have hcw : cutP x = [s1, s2] := by unfold cutP; rw [hs1, hs2]
          rw [← hs1, ← hs2]
          generalize (Lib.cut x.data.toList [64]).2.2 = fnd at *
          have hxA : Ext w5 ((w5.alloc (.cells #[.string s1, .string s2] 9)).alloc (.cells #[.int .i64 0, .int .i64 1] 3)) := ((Ext.refl _).alloc _).alloc _
          have hl01 := lit_01 (w5.alloc (.cells #[.string s1, .string s2] 9)) 3
          rw [World.size_alloc] at hl01
          have H := impl_numbersIn (wo := some ⟨w5.heap.size, 0, none⟩) (po := some ⟨w5.heap.size + 1, 0, none⟩) (wcap := 2) (pcap := 2) (W := cutP x) (P := [0, 1]) (by rw [hcw]; exact (lit_2s w5 s1 s2 9).ext ((Ext.refl _).alloc _)) (fun k => Nat.le_trans (HCS.out k) (by omega)) (by rw [hcw]; exact (show 2 ≤ 9223372036854775807 by decide)) hl01 (by decide) (fun k hk => by
            match k, hk with
            | 0, _ => decide
            | 1, _ => decide) (HPW.out.ext (HX3.out.trans (HX5.out.trans hxA))) (HEV.out.ext (HX3.out.trans (HX5.out.trans hxA)))
          rw [show (cutP x).length = 2 from rfl, show ([0, 1] : List Nat).length = 2 from rfl] at H
          have HNJ := Lib.hid H
          have HXA := Lib.hid hxA
          clear H hxA hl01 hs1 hs2 hcw HCS
          go_wp2_with fail
          refine HNJ.out.mono ?_; rintro e w7 ⟨go2, gc2, rfl, hx7, hrow7⟩
          have hx57 := HXA.out.trans hx7
          have HX7 := Lib.hid (HX5.out.trans hx57)
          have hbx2 := hbx5.ext hx57; have hown2 := hown5.kept hx57; have hap2 := hap5.ext hx57
          have hfz7 := fun j => (hx57.frozenr B4 j hbx5.lt).trans (HFZ5.out j)
          have HFZ2 := Lib.hid hfz7
          clear hx7 hx57 hfz7 HFZ5 hbx5 hown5 hap5 HX5 HXA HNJ
          cases hB2 : nbB (cutP x) [0, 1]
          · rw [nrL_no hB2]
            have HBB := Lib.hid (HRK.out hB2)
            clear hrow7 HRK
            dsimp only [List.length_nil]
            have HB := Lib.hid (HBB.out)
            have HXB := Lib.hid (HX3.out.trans HX7.out)
            obtain ⟨r0, r1, r2, r3, rz⟩ := HR3.out.ext HX7.out
            have rl := World.block_lt_of_cell? _ _ r0
            have f0 := rz 0; have f1 := rz 1; have f2 := rz 2; have f3 := rz 3
            clear rz
            go_wp2
            refine bodyPost_ret (v := .tuple #[.agg #[.int .i64 0, .int .i64 0, .int .i64 0, .slice none 0 0], .bool false]) ?_ rfl ?_
            · simp [results, Tryz.results19, go_sem, cell_put, r0, r1, r2, r3]
            · refine ResP.no HB.out rfl ?_
              have hx := HXB.out
              first
                | exact Ext.setCell (Ext.setCell (Ext.setCell (Ext.setCell hx (by simp) _) (by simp) _) (by simp) _) (by simp) _
                | exact (by repeat (first | (with_reducible exact Ext.refl _) | (with_reducible assumption) | with_reducible refine Ext.drew ?_ | with_reducible refine Ext.alloc ?_ _ | with_reducible refine Ext.setCell ?_ (by first | (simp; done) | (simp; omega) | omega) _ | with_reducible refine Ext.trans ?_ (by with_reducible assumption)))
          · have hln : (nrL (cutP x) [0, 1]).length = 2 := by rw [nrL_yes hB2]; rfl
            rw [hln]
            rw [nrL_yes hB2] at hrow7
            obtain ⟨pb, po, rfl, hpc⟩ := hrow7 (show 0 < 2 by decide)
            have p0 := hpc 0 (show 0 < 2 by decide) 0 (by decide)
            have p1 := hpc 1 (show 1 < 2 by decide) 0 (by decide)
            have e0 : ic (nbL (cutP x) [0, 1]) 0 0 = .int .i64 (nbV (cutP x) 0) := rfl
            have e1 : ic (nbL (cutP x) [0, 1]) 1 0 = .int .i64 (nbV (cutP x) 1) := rfl
            rw [e0] at p0; rw [e1] at p1
            obtain ⟨P, hP⟩ : ∃ P : Pch, P = puV x := ⟨_, rfl⟩
            have q0 : nbV (cutP x) 0 = P.code := by rw [hP]; rfl
            have q1 : nbV (cutP x) 1 = P.time := by rw [hP]; rfl
            rw [q0] at p0; rw [q1] at p1
            rw [← hP] at HNS
            simp only [Nat.zero_mul, Nat.one_mul, Nat.add_zero] at p0 p1
            have b3 := hbx2.c3
            have bl := hbx2.lt
            have pl := World.block_lt_of_cell? _ _ p0
            have b3a : ∀ o, (w7.alloc o).cell? ⟨B4, 3, none⟩ = some v := fun o => ((Ext.refl w7).alloc o).cells b3
            have hrow2 := fun y => row_lit (w := y) (cs := #[.int .i64 P.code, .int .i64 P.time]) (T := 35) (s := 2) (cc := Pch.c) (x := P) (by intro j hj; match j, hj with | 0, _ => rfl | 1, _ => rfl)
            have hxw := HX7.out
            obtain ⟨XN, hXN⟩ : ∃ XN, XN = ((W.drop 5).take (k + 1)).map puV := ⟨_, rfl⟩
            have HXN := Lib.hid hXN
            have HN : Hid (XN = X ++ [P]) := Lib.hid (by rw [hXN]; exact HNS.out)
            obtain ⟨XL, hXL⟩ : ∃ XL, XL = X.length := ⟨_, rfl⟩
            clear hrow7 hpc hln hB2 e0 e1 q0 q1 hP HRK hXN HNS HBAD
            go_wp2_with fail
            go_region_law (first
              | (refine step_append_form (o := ⟨some 86, _, _, _, _, _⟩) (by rfl) _ _ 24 (by rfl) w3 35 i0 _ 2 16 Tryz.underlying24 hi hz0 hz1 hz2 rfl (by decide) Pch.c pch_cells v X [P] XN HN (by rfl) ((hown2.kept ((Ext.refl _).alloc _)).kept (Ext.refl _).drew) ⟨w7.heap.size, 0, none⟩ 1 1 (by rfl) (by rfl) ((hrow2 w7).ext (Ext.refl _).drew) (by rw [hpl]; simp; omega) (by rw [hpl]; simp; omega) (hxw.alloc _).drew ?_; intro go1 gc1 w8 ho1 hx3 hg3 hv3; have hap3 := ((hap2.ext ((Ext.refl w7).alloc _)).ext (Ext.refl _).drew).append hg3 hv3; have hbx3 := (((hbx2.ext ((Ext.refl w7).alloc _)).ext (Ext.refl _).drew)).grown hg3 (hap2 _ rfl).2; have hfz3 := fun j => (grown_frozen (b := B4) (o := j) hg3 (Nat.lt_of_lt_of_le bl (by simp)) (hap2 _ rfl).2).trans ((((Ext.refl w7).alloc _).drew.frozenr _ _ bl).trans (HFZ2.out j)); have c3 := hbx3.c3; have z3 := hfz3 3; have bl3 := hbx3.lt; have HFZ3 := Lib.hid hfz3; clear hfz3 hg3 hv3))
            all_goals
              have hap4 := hap3.mono (w' := w8.setCell ⟨B4, 3, none⟩ (.slice go1 XN.length gc1)) (by simp [World.setCell])
              have hown4 := ho1.keptG (grown_put w8 ⟨B4, 3, none⟩ (.slice go1 XN.length gc1)) (hap3 _ rfl).2
              have hbx4 := hbx3.put3 (.slice go1 XN.length gc1)
              have hfz4 : ∀ j, (w8.setCell ⟨B4, 3, none⟩ (.slice go1 XN.length gc1)).frozen? ⟨B4, j, none⟩ = false := fun j => by rw [World.frozen?_setCell]; exact HFZ3.out j
              have HFZ4 := Lib.hid hfz4; clear hfz4
              go_wp2
              go_roundw
              case rel => exact ⟨k + 1, .slice go1 XN.length gc1, by omega, by go_num, hx3.setCell hB4 _, by rw [← HXN.out]; exact hown4, hbx4, HFZ4, hap4⟩
              case measure => simp [intOf]; omega
        · have hkn : ¬ (k : Int) < (L : Int) := by omega
          obtain rfl : k = L := by omega
          rw [HPF.out] at hown
          obtain ⟨go', gc', rfl, hFo, _, _, _⟩ := hown.fresh
          obtain ⟨b0, b1, b2, b3⟩ := hbx
          obtain ⟨PS, hPS⟩ : ∃ PS, PS = (W.drop 5).map puV := ⟨_, rfl⟩
          have hcr := HCR.out
          rw [← hPS] at hcr hFo
          have hpn : PS.length ≤ 9223372036854775807 := by rw [hPS, List.length_map, List.length_drop]; omega
          have HIC := Lib.hid (impl_IsCard (c := ⟨n0, n2, n4, PS⟩) (cap := gc') hFo.row hpn)
          have HCT := Lib.hid (fun (hc : cardB ⟨n0, n2, n4, PS⟩ = true) y (hy : Ext wr y) => impl_cardText (c := ⟨n0, n2, n4, PS⟩) (cap := gc') (hFo.row.ext hy) hc (HPW.out.ext (HX3.out.trans (HX.out.trans hy))))
          have HFO := Lib.hid hFo
          have HE := Lib.hid (show crd (splB 32 s) = ⟨n0, n2, n4, PS⟩ by rw [← HWW.out]; exact hcr)
          have HSL : Hid (((W.drop 5).map puV).length = PS.length) := Lib.hid (by rw [hPS])
          have HXR := Lib.hid (HX3.out.trans HX.out)
          have HRR := Lib.hid (HR3.out.ext HX.out)
          rw [HSL.out] at b3
          unfold CardD.val at HIC HCT
          dsimp only at HIC HCT
          have hszw : w.heap.size ≤ w3.heap.size := HX3.out.size
          have HSZ3 := Lib.hid hszw
          clear hown hap HFZ hFo hcr hpn hPS hszw hx HX HX3 HR3 HRW3 HBAD HPS HPL HPF HSW HLW HLE HCP HCR HSZ HPW HEV HML HWW hkn
          cases hcb : cardB ⟨n0, n2, n4, PS⟩
          · have HBB := Lib.hid (pr_cardB (s := s) (by rw [HE.out, hcb]))
            rw [hcb] at HIC
            clear HCT hcb HFO
            go_wp2_with fail
            refine HIC.out.mono ?_; rintro e w5 ⟨rfl, hx5⟩
            have HX5 := Lib.hid (HXR.out.trans hx5)
            have HR5 := Lib.hid (HRR.out.ext hx5)
            clear hx5 HIC HXR HRR b0 b1 b2 b3
            have HB := Lib.hid (HBB.out)
            have HXB := Lib.hid (HX5.out)
            obtain ⟨r0, r1, r2, r3, rz⟩ := HR5.out
            have rl := World.block_lt_of_cell? _ _ r0
            have f0 := rz 0; have f1 := rz 1; have f2 := rz 2; have f3 := rz 3
            clear rz
            go_wp2
            refine bodyPost_ret (v := .tuple #[.agg #[.int .i64 0, .int .i64 0, .int .i64 0, .slice none 0 0], .bool false]) ?_ rfl ?_
            · simp [results, Tryz.results19, go_sem, cell_put, r0, r1, r2, r3]
            · refine ResP.no HB.out rfl ?_
              have hx := HXB.out
              first
                | exact Ext.setCell (Ext.setCell (Ext.setCell (Ext.setCell hx (by simp) _) (by simp) _) (by simp) _) (by simp) _
                | exact (by repeat (first | (with_reducible exact Ext.refl _) | (with_reducible assumption) | with_reducible refine Ext.drew ?_ | with_reducible refine Ext.alloc ?_ _ | with_reducible refine Ext.setCell ?_ (by first | (simp; done) | (simp; omega) | omega) _ | with_reducible refine Ext.trans ?_ (by with_reducible assumption)))
          · have HCT2 := Lib.hid (HCT.out hcb)
            rw [hcb] at HIC
            have HCB := Lib.hid hcb
            clear HCT hcb
            go_wp2_with fail
            refine HIC.out.mono ?_; rintro e w5 ⟨rfl, hx5⟩
            replace b0 := hx5.cells b0; replace b1 := hx5.cells b1; replace b2 := hx5.cells b2; replace b3 := hx5.cells b3
            have HX5 := Lib.hid hx5
            clear hx5 HIC
            by_cases htx : bsOf (cardT ⟨n0, n2, n4, PS⟩) = s
            · have hc2 : ((bsOf (cardT ⟨n0, n2, n4, PS⟩)).toList == s.toList) = true := eqS_iff.2 htx
              have HP := Lib.hid (pr_yes HCB.out htx)
              generalize bsOf (cardT ⟨n0, n2, n4, PS⟩) = TX at *
              clear htx
              go_wp2_with fail
              refine (HCT2.out _ HX5.out).mono ?_; rintro e w6 ⟨rfl, hx6⟩
              replace b0 := hx6.cells b0; replace b1 := hx6.cells b1; replace b2 := hx6.cells b2; replace b3 := hx6.cells b3
              have HX6 := Lib.hid (HX5.out.trans hx6)
              obtain ⟨r0, r1, r2, r3, rz⟩ := HRR.out.ext (HX5.out.trans hx6)
              have rl := World.block_lt_of_cell? _ _ r0
              have bl := World.block_lt_of_cell? _ _ b0
              have f0 := rz 0; have f1 := rz 1; have f2 := rz 2; have f3 := rz 3
              clear rz hx6 HCT2 HRR
              go_wp2
              refine bodyPost_ret (v := .tuple #[.agg #[.int .i64 n0, .int .i64 n2, .int .i64 n4, .slice go' PS.length gc'], .bool true]) ?_ rfl ?_
              · simp [results, Tryz.results19, go_sem, cell_put, r0, r1, r2, r3]
              · unfold ResP
                rw [HP.out.1, HP.out.2]
                have hx := HXR.out.trans HX6.out
                have hwl0 : w.heap.size < w3.heap.size := by omega
                have hF' := ((((HFO.out.ext HX6.out).setCell (p := ⟨w.heap.size, 0, none⟩) hwl0 (.int .i64 n0)).setCell (p := ⟨w.heap.size, 1, none⟩) hwl0 (.int .i64 n2)).setCell (p := ⟨w.heap.size, 2, none⟩) hwl0 (.int .i64 n4)).setCell (p := ⟨w.heap.size, 3, none⟩) hwl0 (.slice go' PS.length gc')
                exact ⟨go', gc', rfl, Ext.setCell (Ext.setCell (Ext.setCell (Ext.setCell hx (by simp) _) (by simp) _) (by simp) _) (by simp) _, hF'.mono HSZ3.out⟩
            · have hc2 : ((bsOf (cardT ⟨n0, n2, n4, PS⟩)).toList == s.toList) = false := eqS_no htx
              have HBB := Lib.hid (pr_text (s := s) (by rw [HE.out]; exact htx))
              generalize bsOf (cardT ⟨n0, n2, n4, PS⟩) = TX at *
              clear htx
              go_wp2_with fail
              refine (HCT2.out _ HX5.out).mono ?_; rintro e w6 ⟨rfl, hx6⟩
              have HX6 := Lib.hid (HXR.out.trans (HX5.out.trans hx6))
              have HR6 := Lib.hid (HRR.out.ext (HX5.out.trans hx6))
              clear hx6 HCT2 HRR HXR HX5 b0 b1 b2 b3
              have HB := Lib.hid (HBB.out)
              have HXB := Lib.hid (HX6.out)
              obtain ⟨r0, r1, r2, r3, rz⟩ := HR6.out
              have rl := World.block_lt_of_cell? _ _ r0
              have f0 := rz 0; have f1 := rz 1; have f2 := rz 2; have f3 := rz 3
              clear rz
              go_wp2
              refine bodyPost_ret (v := .tuple #[.agg #[.int .i64 0, .int .i64 0, .int .i64 0, .slice none 0 0], .bool false]) ?_ rfl ?_
              · simp [results, Tryz.results19, go_sem, cell_put, r0, r1, r2, r3]
              · refine ResP.no HB.out rfl ?_
                have hx := HXB.out
                first
                  | exact Ext.setCell (Ext.setCell (Ext.setCell (Ext.setCell hx (by simp) _) (by simp) _) (by simp) _) (by simp) _
                  | exact (by repeat (first | (with_reducible exact Ext.refl _) | (with_reducible assumption) | with_reducible refine Ext.drew ?_ | with_reducible refine Ext.alloc ?_ _ | with_reducible refine Ext.setCell ?_ (by first | (simp; done) | (simp; omega) | omega) _ | with_reducible refine Ext.trans ?_ (by with_reducible assumption)))

end Go.Proofs.YtckgjpaccgpdpaaGreatDoor
