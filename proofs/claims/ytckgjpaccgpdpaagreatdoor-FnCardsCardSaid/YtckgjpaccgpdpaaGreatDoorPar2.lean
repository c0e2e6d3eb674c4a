/-
  Proved here: what the reference's ParseCard returns: the card whose text the text is, or none.
  Conditions: the text has at most 1048576 bytes.
-/
import Derived.Test.YtckgjpaccgpdpaaGreatDoorPar1
namespace Go.Proofs.YtckgjpaccgpdpaaGreatDoor
open Go.ChangeShapes Go.WideShapes Go.ChangeAt Go.RowKit

theorem by_not_true {b : Bool} (h : (!b) = true) : b = false := by cases b; rfl; cases h
theorem by_not_false {b : Bool} (h : (!b) = false) : b = true := by cases b; cases h; rfl
theorem pr_long {s : ByteArray} (h : 200 < s.size) : prB s = false ∧ prC s = ⟨0, 0, 0, []⟩ := pr_no fun c h1 h2 => by
  have := (card_bd h1).textLen
  rw [← h2, bsOf_size] at h
  omega
theorem crdS_of {s : ByteArray} {c : CardD} (h1 : cardB c = true) (h2 : bsOf (cardT c) = s) : crdS (splB 32 s) = c := by rw [← h2, splB_card, crdS_words (card_bd h1)]
theorem pr_cardS {s : ByteArray} (h : cardB (crdS (splB 32 s)) = false) : prB s = false ∧ prC s = ⟨0, 0, 0, []⟩ := pr_no fun c h1 h2 => by
  rw [crdS_of h1 h2, h1] at h; cases h
theorem pr_textS {s : ByteArray} (h : bsOf (cardT (crdS (splB 32 s))) ≠ s) : prB s = false ∧ prC s = ⟨0, 0, 0, []⟩ := pr_no fun c h1 h2 => by
  rw [crdS_of h1 h2] at h; exact h h2
theorem pus_succ {W : List ByteArray} {k : Nat} (h : k < (W.drop 5).length) : ((W.drop 5).take (k + 1)).map puS = ((W.drop 5).take k).map puS ++ [puS (nth W (5 + k))] := by
  have e : nth W (5 + k) = (W.drop 5)[k] := by
    rw [List.getElem_drop]
    rw [List.length_drop] at h
    simp [nth, List.getD, List.getElem?_eq_getElem (show 5 + k < W.length by omega)]
  rw [List.take_add_one, List.getElem?_eq_getElem h, List.map_append, e]
  rfl
theorem pus_len {W : List ByteArray} {k : Nat} (h : k ≤ (W.drop 5).length) : (((W.drop 5).take k).map puS).length = k := by
  rw [List.length_map, List.length_take]; omega
theorem Box4.st {w : World} {B : Nat} {a b c d : Value} (h : Box4 w B a b c d) (u : Value) : Box4 (w.setCell ⟨B, 0, none⟩ u) B u b c d ∧ Box4 (w.setCell ⟨B, 1, none⟩ u) B a u c d ∧ Box4 (w.setCell ⟨B, 2, none⟩ u) B a b u d := by
  have k : ∀ (i j : Nat), i ≠ j → (w.setCell ⟨B, i, none⟩ u).cell? ⟨B, j, none⟩ = w.cell? ⟨B, j, none⟩ := fun i j hij => World.cell?_setCell_other _ _ _ _ (fun e => by injection e with e1 e2; exact hij e2)
  exact ⟨⟨World.cell?_setCell_same _ _ _ h.c0, (k 0 1 (by decide)).trans h.c1, (k 0 2 (by decide)).trans h.c2, (k 0 3 (by decide)).trans h.c3⟩,
    ⟨(k 1 0 (by decide)).trans h.c0, World.cell?_setCell_same _ _ _ h.c1, (k 1 2 (by decide)).trans h.c2, (k 1 3 (by decide)).trans h.c3⟩,
    ⟨(k 2 0 (by decide)).trans h.c0, (k 2 1 (by decide)).trans h.c1, World.cell?_setCell_same _ _ _ h.c2, (k 2 3 (by decide)).trans h.c3⟩⟩
/-- a card being read -/
structure PSt (w1 wr : World) (B4 : Nat) (n0 n2 n4 : Int) (v : Value) (X : List Pch) : Prop where
  ext : Ext w1 wr
  own : Owns wr w1.heap.size 35 2 Pch.c v X
  box : Box4 wr B4 (.int .i64 n0) (.int .i64 n2) (.int .i64 n4) v
  fz : Hid (∀ j, wr.frozen? ⟨B4, j, none⟩ = false)
  ap : Apart wr (some ⟨B4, 0, none⟩) v
  lo : w1.heap.size ≤ B4
theorem PSt.grow {w1 wr w' : World} {B4 : Nat} {n0 n2 n4 : Int} {v : Value} {X : List Pch} (h : PSt w1 wr B4 n0 n2 n4 v X) (hx : Ext wr w') : PSt w1 w' B4 n0 n2 n4 v X :=
  ⟨h.ext.trans hx, h.own.ext' hx, h.box.ext hx, Lib.hid fun j => (hx.frozenr B4 j h.box.lt).trans (h.fz.out j), h.ap.ext hx, h.lo⟩
theorem PSt.putA {w1 wr : World} {B4 i : Nat} {n0 n2 n4 m0 m2 m4 : Int} {v u : Value} {X : List Pch} (h : PSt w1 wr B4 n0 n2 n4 v X) (hb : Box4 (wr.setCell ⟨B4, i, none⟩ u) B4 (.int .i64 m0) (.int .i64 m2) (.int .i64 m4) v) : PSt w1 (wr.setCell ⟨B4, i, none⟩ u) B4 m0 m2 m4 v X :=
  ⟨h.ext.setCell h.lo u, h.own.keptG (grown_put wr ⟨B4, i, none⟩ u) (h.ap _ rfl).2, hb, Lib.hid fun j => by rw [World.frozen?_setCell]; exact h.fz.out j, h.ap.mono (by simp [World.setCell]), h.lo⟩
theorem PSt.set0 {w1 wr : World} {B4 : Nat} {n0 n2 n4 : Int} {v : Value} {X : List Pch} (h : PSt w1 wr B4 n0 n2 n4 v X) (u : Int) : PSt w1 (wr.setCell ⟨B4, 0, none⟩ (.int .i64 u)) B4 u n2 n4 v X := h.putA (h.box.st _).1
theorem PSt.set1 {w1 wr : World} {B4 : Nat} {n0 n2 n4 : Int} {v : Value} {X : List Pch} (h : PSt w1 wr B4 n0 n2 n4 v X) (u : Int) : PSt w1 (wr.setCell ⟨B4, 1, none⟩ (.int .i64 u)) B4 n0 u n4 v X := h.putA (h.box.st _).2.1
theorem PSt.set2 {w1 wr : World} {B4 : Nat} {n0 n2 n4 : Int} {v : Value} {X : List Pch} (h : PSt w1 wr B4 n0 n2 n4 v X) (u : Int) : PSt w1 (wr.setCell ⟨B4, 2, none⟩ (.int .i64 u)) B4 n0 n2 u v X := h.putA (h.box.st _).2.2
theorem word_at {w1 wr : World} {wb : Nat} {W : List ByteArray} (h : RowAt w1 (some ⟨wb, 0, none⟩) 1 W.length (fun k => stw (nth W k))) (hx : Ext w1 wr) {k : Nat} (hk : k < W.length) : wr.cell? ⟨wb, k, none⟩ = some (.string (nth W k)) := by
  obtain ⟨b, off, e, H⟩ := h (by omega)
  injection e with e; injection e with e1 e2; subst e1 e2
  have := H k hk 0 (by decide)
  rw [show 0 + k * 1 + 0 = k by omega] at this
  exact hx.cells this
theorem initC {w0 w : World} {m2 : Int} (hx : Ext w0 w) : InitP ((w.alloc (.cells #[] 35)).alloc (.cells #[.int .i64 0, .int .i64 0, .int .i64 m2, .slice (some ⟨w.heap.size, 0, none⟩) 0 0] 26)) w0.heap.size (w.heap.size + 1) 0 0 m2 := by
  refine ⟨w.heap.size, 0, ?_, (Owns.start hx).ext' (((Ext.refl _).alloc _)), ?_, ?_⟩
  · have := Box4.of (w := w.alloc (.cells #[] 35)) (a := .int .i64 0) (b := .int .i64 0) (c := .int .i64 m2) (d := .slice (some ⟨w.heap.size, 0, none⟩) 0 0) (T := 26) (Ext.refl _)
    rwa [World.size_alloc] at this
  · exact Lib.hid fun j => by go_simp
  · intro a e
    injection e with e
    subst e
    exact ⟨by simp, by simp [Value.ownBlock]⟩
theorem read_nb {s : ByteArray} (hs : s.size ≤ 9223372036854775807) {w : World} {W : List ByteArray} {p : Nat} (h : s = nth W p) :
    Calls Tryz.prog 48 #[.string s] w fun e w' => ∃ b : Bool, e = .returned (.tuple #[.int .i64 (nbV W p), .bool b]) ∧ Ext w w' := by
  subst h
  exact (spec_l1Read hs).mono fun _ _ ⟨he, hx⟩ => ⟨_, he, hx⟩

set_option maxRecDepth 100000 in
set_option maxHeartbeats 8000000 in
theorem spec_ParseCard {s : ByteArray} (hs : s.size ≤ 1048576) {w : World} :
    Calls Tryz.prog 23 #[.string s] w (ResP s w) := by
  obtain ⟨W, hW⟩ : ∃ W, W = splB 32 s := ⟨_, rfl⟩
  have hwl := splB_bd 32 s
  rw [← hW] at hwl
  have HBAD := Lib.hid (fun (R : List ByteArray → Prop) (hR : ∀ c, CardBd c → R (wordsC c)) (h : ¬ R W) => pr_bad (s := s) hR (by rw [← hW]; exact h))
  have HSP := Lib.hid (fun y => spec_l1Split (s := s) (c := 32) (ci := 32) (w := y) rfl hs)
  rw [← hW] at HSP
  have hx0 : Ext w (w.alloc (.cells #[.int .i64 0, .int .i64 0, .int .i64 0, .slice none 0 0] 26)) := (Ext.refl w).alloc _
  have HX0 := Lib.hid hx0
  have HWW := Lib.hid hW
  have HSZ := Lib.hid (fun k => (show (nth W k).size ≤ s.size by rw [hW]; exact splB_size 32 s k))
  clear hW hx0
  go_enter Tryz.func23, Tryz.ntmps23
  go_wp2_with fail
  refine (HSP.out _).mono ?_; rintro e w1 ⟨wb, wcap, rfl, hx1, hrow⟩
  have hres : Res4 w1 w.heap.size := Res4.of hx1
  have HX1 := Lib.hid (HX0.out.trans hx1)
  have HR1 := Lib.hid hres; have HRW := Lib.hid hrow
  clear hx1 hres hrow HSP HX0
  by_cases hlen : s.size ≤ 200 ∧ 5 ≤ W.length ∧ W.length ≤ 17
  case neg =>
    have HBB := Lib.hid (show prB s = false ∧ prC s = ⟨0, 0, 0, []⟩ by
      by_cases h200 : 200 < s.size
      · exact pr_long h200
      · exact HBAD.out (fun W => 5 ≤ W.length ∧ W.length ≤ 17) (fun c h => by have := h.len; rw [wordsC_len]; omega) (fun h => hlen ⟨by omega, h⟩))
    rcases (show 200 < s.size ∨ (¬ 200 < s.size ∧ W.length < 5) ∨ (¬ 200 < s.size ∧ ¬ W.length < 5 ∧ 17 < W.length) by omega) with h5 | ⟨h2, h5⟩ | ⟨h2, h5, h17⟩
    · have c1 : (200 : Int) < (s.size : Int) := by omega
      have HB := Lib.hid (HBB.out)
      have HXB := Lib.hid (HX1.out)
      obtain ⟨r0, r1, r2, r3, rz⟩ := HR1.out
      have rl := World.block_lt_of_cell? _ _ r0
      have f0 := rz 0; have f1 := rz 1; have f2 := rz 2; have f3 := rz 3
      clear rz
      go_wp2
      refine bodyPost_ret (v := .tuple #[.agg #[.int .i64 0, .int .i64 0, .int .i64 0, .slice none 0 0], .bool false]) ?_ rfl ?_
      · simp [results, Tryz.results23, go_sem, cell_put, r0, r1, r2, r3]
      · refine ResP.no HB.out rfl ?_
        have hx := HXB.out
        first
          | exact Ext.setCell (Ext.setCell (Ext.setCell (Ext.setCell hx (by simp) _) (by simp) _) (by simp) _) (by simp) _
          | exact (by repeat (first | (with_reducible exact Ext.refl _) | (with_reducible assumption) | with_reducible refine Ext.drew ?_ | with_reducible refine Ext.alloc ?_ _ | with_reducible refine Ext.setCell ?_ (by first | (simp; done) | (simp; omega) | omega) _ | with_reducible refine Ext.trans ?_ (by with_reducible assumption)))
    · have c0 : ¬ (200 : Int) < (s.size : Int) := by omega
      have c1 : (W.length : Int) < 5 := by omega
      have HB := Lib.hid (HBB.out)
      have HXB := Lib.hid (HX1.out)
      obtain ⟨r0, r1, r2, r3, rz⟩ := HR1.out
      have rl := World.block_lt_of_cell? _ _ r0
      have f0 := rz 0; have f1 := rz 1; have f2 := rz 2; have f3 := rz 3
      clear rz
      go_wp2
      refine bodyPost_ret (v := .tuple #[.agg #[.int .i64 0, .int .i64 0, .int .i64 0, .slice none 0 0], .bool false]) ?_ rfl ?_
      · simp [results, Tryz.results23, go_sem, cell_put, r0, r1, r2, r3]
      · refine ResP.no HB.out rfl ?_
        have hx := HXB.out
        first
          | exact Ext.setCell (Ext.setCell (Ext.setCell (Ext.setCell hx (by simp) _) (by simp) _) (by simp) _) (by simp) _
          | exact (by repeat (first | (with_reducible exact Ext.refl _) | (with_reducible assumption) | with_reducible refine Ext.drew ?_ | with_reducible refine Ext.alloc ?_ _ | with_reducible refine Ext.setCell ?_ (by first | (simp; done) | (simp; omega) | omega) _ | with_reducible refine Ext.trans ?_ (by with_reducible assumption)))
    · have c0 : ¬ (200 : Int) < (s.size : Int) := by omega
      have c1 : ¬ (W.length : Int) < 5 := by omega
      have c2 : (17 : Int) < (W.length : Int) := by omega
      have HB := Lib.hid (HBB.out)
      have HXB := Lib.hid (HX1.out)
      obtain ⟨r0, r1, r2, r3, rz⟩ := HR1.out
      have rl := World.block_lt_of_cell? _ _ r0
      have f0 := rz 0; have f1 := rz 1; have f2 := rz 2; have f3 := rz 3
      clear rz
      go_wp2
      refine bodyPost_ret (v := .tuple #[.agg #[.int .i64 0, .int .i64 0, .int .i64 0, .slice none 0 0], .bool false]) ?_ rfl ?_
      · simp [results, Tryz.results23, go_sem, cell_put, r0, r1, r2, r3]
      · refine ResP.no HB.out rfl ?_
        have hx := HXB.out
        first
          | exact Ext.setCell (Ext.setCell (Ext.setCell (Ext.setCell hx (by simp) _) (by simp) _) (by simp) _) (by simp) _
          | exact (by repeat (first | (with_reducible exact Ext.refl _) | (with_reducible assumption) | with_reducible refine Ext.drew ?_ | with_reducible refine Ext.alloc ?_ _ | with_reducible refine Ext.setCell ?_ (by first | (simp; done) | (simp; omega) | omega) _ | with_reducible refine Ext.trans ?_ (by with_reducible assumption)))
  case pos =>
    obtain ⟨hs200, hl5, hl17⟩ := hlen
    have c0 : ¬ (200 : Int) < (s.size : Int) := by omega
    have c1 : ¬ (W.length : Int) < 5 := by omega
    have c2 : ¬ (17 : Int) < (W.length : Int) := by omega
    have c3 : (4 : Int) < (W.length : Int) := by omega
    have c4 : (2 : Int) < (W.length : Int) := by omega
    have c5 : (0 : Int) < (W.length : Int) := by omega
    have hin := initC (w := w1) (m2 := -1) (Ext.refl w1)
    have hxi : Ext w1 ((w1.alloc (.cells #[] 35)).alloc (.cells #[.int .i64 0, .int .i64 0, .int .i64 (-1), .slice (some ⟨w1.heap.size, 0, none⟩) 0 0] 26)) := ((Ext.refl _).alloc _).alloc _
    obtain ⟨g0, gc0, hbx0, hown0, hfz0, hap0⟩ := hin
    have HP2 := Lib.hid (PSt.mk hxi hown0 hbx0 hfz0 hap0 (by omega))
    clear hxi hbx0 hown0 hfz0 hap0
    obtain ⟨B4, hB4⟩ : ∃ B4, B4 = w1.heap.size + 1 := ⟨_, rfl⟩
    go_upto_region 5 with fail
    rw [← hB4] at HP2 ⊢
    clear hB4
    generalize ((w1.alloc (.cells #[] 35)).alloc (.cells #[.int .i64 0, .int .i64 0, .int .i64 (-1), .slice (some ⟨w1.heap.size, 0, none⟩) 0 0] 26)) = w2 at *
    have d0 := word_at HRW.out HP2.out.ext (k := 0) (by omega)
    go_wp2_with fail
    refine (read_nb (p := 0) (W := W) (by have := HSZ.out 0; omega) rfl).mono ?_; rintro e w3 ⟨b0, rfl, hx3⟩
    have HP3 := Lib.hid (HP2.out.grow hx3)
    have k0 := HP3.out.box.c0; have z0 := HP3.out.fz.out 0; have bl3 := HP3.out.box.lt
    clear d0 hx3 HP2
    go_upto_region 6 with fail
    have HP4 := Lib.hid (HP3.out.set0 (nbV W 0))
    clear k0 z0 bl3 HP3
    generalize w3.setCell ⟨B4, 0, none⟩ (.int .i64 (nbV W 0)) = w4 at *
    have d2 := word_at HRW.out HP4.out.ext (k := 2) (by omega)
    go_wp2_with fail
    refine (read_nb (p := 2) (W := W) (by have := HSZ.out 2; omega) rfl).mono ?_; rintro e w5 ⟨b2, rfl, hx5⟩
    have HP5 := Lib.hid (HP4.out.grow hx5)
    have k0 := HP5.out.box.c1; have z0 := HP5.out.fz.out 1; have bl3 := HP5.out.box.lt
    clear d2 hx5 HP4
    go_upto_region 7 with fail
    have HP6 := Lib.hid (HP5.out.set1 (nbV W 2))
    clear k0 z0 bl3 HP5
    generalize w5.setCell ⟨B4, 1, none⟩ (.int .i64 (nbV W 2)) = w6 at *
    obtain ⟨n0, hn0⟩ : ∃ n, n = nbV W 0 := ⟨_, rfl⟩
    obtain ⟨n2, hn2⟩ : ∃ n, n = nbV W 2 := ⟨_, rfl⟩
    obtain ⟨n4, hn4⟩ : ∃ n, n = (if isNone W then -1 else nbV W 4) := ⟨_, rfl⟩
    have HCR := Lib.hid (show crdS W = ⟨n0, n2, n4, (W.drop 5).map puS⟩ by unfold crdS; rw [hn0, hn2, hn4])
    rw [← hn0, ← hn2] at HP6
    have HN4 := Lib.hid hn4
    clear hn0 hn2 hn4
    have d4 := word_at HRW.out HP6.out.ext (k := 4) (by omega)
    go_upto_if 49 with fail
    go_cut [] (fun wc => PSt w1 wc B4 n0 n2 n4 (.slice (some ⟨g0, 0, none⟩) 0 gc0) [])
    case first =>
      go_wp2_with fail
      · have hN : isNone W = false := by unfold isNone; rw [noneB_list]; exact by_not_true (by assumption)
        have HQ := Lib.hid (show n4 = nbV W 4 by rw [HN4.out, hN]; rfl)
        clear hN
        refine (read_nb (p := 4) (W := W) (by have := HSZ.out 4; omega) rfl).mono ?_; rintro e w7 ⟨b4, rfl, hx7⟩
        have HP7 := Lib.hid (HP6.out.grow hx7)
        have k0 := HP7.out.box.c2; have z0 := HP7.out.fz.out 2; have bl3 := HP7.out.box.lt
        clear d4 hx7 HP6
        go_wp2_with fail
        go_meet
        rw [HQ.out]
        exact HP7.out.set2 (nbV W 4)
      · have hN : isNone W = true := by unfold isNone; rw [noneB_list]; exact by_not_false (by assumption)
        have HQ := Lib.hid (show n4 = -1 by rw [HN4.out, hN]; rfl)
        clear hN
        go_meet
        rw [HQ.out]
        exact HP6.out
    case rest =>
    have HPC := Lib.hid hcut
    clear hcut HP6 HN4 d4 c0 c1 c2 c3 c4 c5
    obtain ⟨i0, hi, hz0, hz1, hz2⟩ := info_parts infoPch
    have HPS := Lib.hid (fun q (h5 : 5 ≤ q) (hq : q < W.length) => (show ((W.drop 5).take (q + 1 - 5)).map puS = ((W.drop 5).take (q - 5)).map puS ++ [puS (nth W q)] by
      have := pus_succ (W := W) (k := q - 5) (by rw [List.length_drop]; omega)
      rw [show 5 + (q - 5) = q by omega] at this
      rw [show q + 1 - 5 = q - 5 + 1 by omega]
      exact this))
    have HPL := Lib.hid (fun q (hq : q ≤ W.length) => pus_len (W := W) (k := q - 5) (by rw [List.length_drop]; omega))
    have HPF := Lib.hid (show ((W.drop 5).take (W.length - 5)).map puS = (W.drop 5).map puS by rw [List.take_of_length_le (by rw [List.length_drop]; exact Nat.le_refl _)])
    go_wp2_with fail
    go_loopw [6] (fun i wr => ∃ (q : Nat) (v : Value), 5 ≤ q ∧ q ≤ W.length ∧ i = .int .i64 q ∧ PSt w1 wr B4 n0 n2 n4 v (((W.drop 5).take (q - 5)).map puS)) (fun i _ => W.length - (intOf i).toNat)
    case atStart => exact ⟨5, _, by omega, by omega, rfl, by simpa using HPC.out⟩
    case round =>
      clear HPC
      obtain ⟨q, v, h5, hq, rfl, hst⟩ := hrel
      have HST := Lib.hid hst
      clear hst
      by_cases hlt : q < W.length
      · have hkn : (q : Int) < (W.length : Int) := by omega
        have d0 := word_at HRW.out HST.out.ext (k := q) hlt
        have HNS := Lib.hid (HPS.out q h5 hlt)
        have hpl := HPL.out q hq
        have hxs := HSZ.out q
        obtain ⟨X, hXX⟩ : ∃ X, X = ((W.drop 5).take (q - 5)).map puS := ⟨_, rfl⟩
        rw [← hXX] at HST HNS hpl
        have HRK := Lib.hid (fun (h : (splB 64 (nth W q)).length ≠ 2) => HBAD.out (fun W => ∀ j, 5 + j < W.length → (splB 64 (nth W (5 + j))).length = 2) (fun c hc j hj => by
          have hjl : j < c.ps.length := by rw [wordsC_len] at hj; omega
          rw [words_punch hjl]
          exact (punch_words (hc.ps j hjl).1 (hc.ps j hjl).2).2.2.2) (fun hh => h (by have := hh (q - 5) (by omega); rwa [show 5 + (q - 5) = q by omega] at this)))
        clear hXX
        generalize nth W q = x at *
        have HSPX := Lib.hid (fun y => spec_l1Split (s := x) (c := 64) (ci := 64) (w := y) rfl (by omega))
        have HXZ := Lib.hid (fun p => (show (nth (splB 64 x) p).size ≤ 9223372036854775807 by have := splB_size 64 x p; omega))
        obtain ⟨Y, hY⟩ : ∃ Y, Y = splB 64 x := ⟨_, rfl⟩
        have hPU : puS x = ⟨nbV Y 0, nbV Y 1⟩ := by rw [hY]; rfl
        rw [← hY] at HSPX HXZ HRK
        rw [hPU] at HNS
        clear hY hPU
        go_wp2_with fail
        refine (HSPX.out _).mono ?_; rintro e w5 ⟨pb, pc, rfl, hx5, hrow5⟩
        have HP5 := Lib.hid (HST.out.grow hx5)
        have HRY := Lib.hid hrow5
        clear hx5 hrow5 HST HSPX d0
        by_cases h2 : Y.length = 2
        · rw [h2] at HRY ⊢
          clear HRK h2
          obtain ⟨yb, yo, yy, hyc⟩ := HRY.out (show 0 < 2 by decide)
          injection yy with yy; injection yy with y1 y2; subst y1 y2
          have p0 := hyc 0 (show 0 < 2 by decide) 0 (by decide)
          have p1 := hyc 1 (show 1 < 2 by decide) 0 (by decide)
          simp only [stw, Nat.zero_mul, Nat.one_mul, Nat.add_zero, Nat.zero_add] at p0 p1
          clear hyc
          go_wp2_with fail
          refine (read_nb (p := 0) (W := Y) (HXZ.out 0) rfl).mono ?_; rintro e w6 ⟨bb0, rfl, hx6⟩
          replace p1 := hx6.cells p1
          have HP6 := Lib.hid (HP5.out.grow hx6)
          clear hx6 HP5 p0
          go_wp2_with fail
          refine (read_nb (p := 1) (W := Y) (HXZ.out 1) rfl).mono ?_; rintro e w7 ⟨bb1, rfl, hx7⟩
          have HP7 := Lib.hid (HP6.out.grow hx7)
          clear hx7 HP6 p1 HRY HXZ
          obtain ⟨P, hP⟩ : ∃ P : Pch, P = ⟨nbV Y 0, nbV Y 1⟩ := ⟨_, rfl⟩
          rw [← hP] at HNS
          have q0 : nbV Y 0 = P.code := by rw [hP]
          have q1 : nbV Y 1 = P.time := by rw [hP]
          rw [q0, q1]
          clear hP q0 q1
          obtain ⟨XN, hXN⟩ : ∃ XN, XN = ((W.drop 5).take (q + 1 - 5)).map puS := ⟨_, rfl⟩
          have HXN := Lib.hid hXN
          have HN : Hid (XN = X ++ [P]) := Lib.hid (by rw [hXN]; exact HNS.out)
          obtain ⟨hxw, hown2, hbx2, HFZ2, hap2, hlo⟩ := HP7.out
          have b3 := hbx2.c3
          have bl := hbx2.lt
          have hrow2 := fun y => row_lit (w := y) (cs := #[.int .i64 P.code, .int .i64 P.time]) (T := 35) (s := 2) (cc := Pch.c) (x := P) (by intro j hj; match j, hj with | 0, _ => rfl | 1, _ => rfl)
          clear hXN HNS HBAD HP7
          go_wp2_with (at_builtin; refine wpList_append_form rfl _ _ 24 rfl w1 35 i0 _ 2 16 Tryz.underlying24 hi hz0 hz1 hz2 rfl (by decide) Pch.c pch_cells v X [P] XN HN rfl (hown2.kept ((Ext.refl _).alloc _)) ⟨w7.heap.size, 0, none⟩ 1 1 rfl rfl (hrow2 _) (by rw [hpl]; simp; omega) (by rw [hpl]; simp; omega) (hxw.alloc _) ?_; intro go1 gc1 w8 ho1 hx3 hg3 hv3; have hap3 := (hap2.ext ((Ext.refl _).alloc _)).append hg3 hv3; have hbx3 := (hbx2.ext ((Ext.refl _).alloc _)).grown hg3 (hap2 _ rfl).2; have hfz3 := fun j => (grown_frozen (b := B4) (o := j) hg3 (Nat.lt_of_lt_of_le bl (by simp)) (hap2 _ rfl).2).trans ((((Ext.refl w7).alloc _).frozenr _ _ bl).trans (HFZ2.out j)); have c3 := hbx3.c3; have z3 := hfz3 3; have bl3 := hbx3.lt; have HFZ3 := Lib.hid hfz3; clear hfz3 hg3 hv3)
          have hap4 := hap3.mono (w' := w8.setCell ⟨B4, 3, none⟩ (.slice go1 XN.length gc1)) (by simp [World.setCell])
          have hown4 := ho1.keptG (grown_put w8 ⟨B4, 3, none⟩ (.slice go1 XN.length gc1)) (hap3 _ rfl).2
          have hbx4 := hbx3.put3 (.slice go1 XN.length gc1)
          have hfz4 : ∀ j, (w8.setCell ⟨B4, 3, none⟩ (.slice go1 XN.length gc1)).frozen? ⟨B4, j, none⟩ = false := fun j => by rw [World.frozen?_setCell]; exact HFZ3.out j
          have HFZ4 := Lib.hid hfz4; clear hfz4
          go_wp2
          go_roundw
          case rel => exact ⟨q + 1, .slice go1 XN.length gc1, by omega, by omega, by go_num, ⟨hx3.setCell hlo _, by rw [← HXN.out]; exact hown4, hbx4, HFZ4, hap4, hlo⟩⟩
          case measure => simp [intOf]; omega
        · have HBB := Lib.hid (HRK.out h2)
          have hq1 : ((Y.length : Int) == 2) = false := by rw [beq_eq_false_iff_ne]; omega
          have hq2 : ((Y.length : Int) != 2) = true := by simp [bne, hq1]
          clear HRK h2
          have HB := Lib.hid (HBB.out)
          have HXB := Lib.hid (HX1.out.trans HP5.out.ext)
          obtain ⟨r0, r1, r2, r3, rz⟩ := HR1.out.ext HP5.out.ext
          have rl := World.block_lt_of_cell? _ _ r0
          have f0 := rz 0; have f1 := rz 1; have f2 := rz 2; have f3 := rz 3
          clear rz
          go_wp2
          refine bodyPost_ret (v := .tuple #[.agg #[.int .i64 0, .int .i64 0, .int .i64 0, .slice none 0 0], .bool false]) ?_ rfl ?_
          · simp [results, Tryz.results23, go_sem, cell_put, r0, r1, r2, r3]
          · refine ResP.no HB.out rfl ?_
            have hx := HXB.out
            first
              | exact Ext.setCell (Ext.setCell (Ext.setCell (Ext.setCell hx (by simp) _) (by simp) _) (by simp) _) (by simp) _
              | exact (by repeat (first | (with_reducible exact Ext.refl _) | (with_reducible assumption) | with_reducible refine Ext.drew ?_ | with_reducible refine Ext.alloc ?_ _ | with_reducible refine Ext.setCell ?_ (by first | (simp; done) | (simp; omega) | omega) _ | with_reducible refine Ext.trans ?_ (by with_reducible assumption)))
      · have hkn : ¬ (q : Int) < (W.length : Int) := by omega
        obtain rfl : q = W.length := by omega
        obtain ⟨hxr, hown, hbx, HFZ, hap, hlo⟩ := HST.out
        rw [HPF.out] at hown
        obtain ⟨go', gc', rfl, hFo, _, _, _⟩ := hown.fresh
        obtain ⟨b0, b1, b2, b3⟩ := hbx
        obtain ⟨PS, hPS⟩ : ∃ PS, PS = (W.drop 5).map puS := ⟨_, rfl⟩
        have hcr := HCR.out
        rw [← hPS] at hcr hFo
        have hpn : PS.length ≤ 9223372036854775807 := by rw [hPS, List.length_map, List.length_drop]; omega
        have HIC := Lib.hid (spec_l12Card (c := ⟨n0, n2, n4, PS⟩) (cap := gc') hFo.row hpn)
        have HCT := Lib.hid (fun (hc : cardB ⟨n0, n2, n4, PS⟩ = true) y (hy : Ext wr y) => spec_l12Text (c := ⟨n0, n2, n4, PS⟩) (cap := gc') (hFo.row.ext hy) hc)
        have HFO := Lib.hid hFo
        have HE := Lib.hid (show crdS (splB 32 s) = ⟨n0, n2, n4, PS⟩ by rw [← HWW.out]; exact hcr)
        have HSL : Hid (((W.drop 5).map puS).length = PS.length) := Lib.hid (by rw [hPS])
        have HXR := Lib.hid (HX1.out.trans hxr)
        have HRR := Lib.hid (HR1.out.ext hxr)
        rw [HSL.out] at b3
        unfold CardD.val at HIC HCT
        dsimp only at HIC HCT
        have hszw : w.heap.size < w1.heap.size := HR1.out.lt
        have HSZ3 := Lib.hid hszw
        clear hown hap HFZ hFo hcr hpn hPS hszw hxr HX1 HR1 HRW HBAD HPS HPL HPF HCR HSZ HWW hkn HST hlo
        cases hcb : cardB ⟨n0, n2, n4, PS⟩
        · have HBB := Lib.hid (pr_cardS (s := s) (by rw [HE.out, hcb]))
          rw [hcb] at HIC
          clear HCT hcb HFO
          go_wp2_with fail
          refine HIC.out.mono ?_; rintro e w5 ⟨rfl, hx5⟩
          have HX5 := Lib.hid (HXR.out.trans hx5)
          have HR5 := Lib.hid (HRR.out.ext hx5)
          clear hx5 HIC HXR HRR b0 b1 b2 b3
          have HB := Lib.hid (HBB.out)
          have HXB := Lib.hid (HX5.out)
          obtain ⟨r0, r1, r2, r3, rz⟩ := HR5.out
          have rl := World.block_lt_of_cell? _ _ r0
          have f0 := rz 0; have f1 := rz 1; have f2 := rz 2; have f3 := rz 3
          clear rz
          go_wp2
          refine bodyPost_ret (v := .tuple #[.agg #[.int .i64 0, .int .i64 0, .int .i64 0, .slice none 0 0], .bool false]) ?_ rfl ?_
          · simp [results, Tryz.results23, go_sem, cell_put, r0, r1, r2, r3]
          · refine ResP.no HB.out rfl ?_
            have hx := HXB.out
            first
              | exact Ext.setCell (Ext.setCell (Ext.setCell (Ext.setCell hx (by simp) _) (by simp) _) (by simp) _) (by simp) _
              | exact (by repeat (first | (with_reducible exact Ext.refl _) | (with_reducible assumption) | with_reducible refine Ext.drew ?_ | with_reducible refine Ext.alloc ?_ _ | with_reducible refine Ext.setCell ?_ (by first | (simp; done) | (simp; omega) | omega) _ | with_reducible refine Ext.trans ?_ (by with_reducible assumption)))
        · have HCT2 := Lib.hid (HCT.out hcb)
          rw [hcb] at HIC
          have HCB := Lib.hid hcb
          clear HCT hcb
          go_wp2_with fail
          refine HIC.out.mono ?_; rintro e w5 ⟨rfl, hx5⟩
          replace b0 := hx5.cells b0; replace b1 := hx5.cells b1; replace b2 := hx5.cells b2; replace b3 := hx5.cells b3
          have HX5 := Lib.hid hx5
          clear hx5 HIC
          by_cases htx : bsOf (cardT ⟨n0, n2, n4, PS⟩) = s
          · have hc2 : ((bsOf (cardT ⟨n0, n2, n4, PS⟩)).toList == s.toList) = true := eqS_iff.2 htx
            have HP := Lib.hid (pr_yes HCB.out htx)
            generalize bsOf (cardT ⟨n0, n2, n4, PS⟩) = TX at *
            clear htx
            go_wp2_with fail
            refine (HCT2.out _ HX5.out).mono ?_; rintro e w6 ⟨rfl, hx6⟩
            replace b0 := hx6.cells b0; replace b1 := hx6.cells b1; replace b2 := hx6.cells b2; replace b3 := hx6.cells b3
            have HX6 := Lib.hid (HX5.out.trans hx6)
            obtain ⟨r0, r1, r2, r3, rz⟩ := HRR.out.ext (HX5.out.trans hx6)
            have rl := World.block_lt_of_cell? _ _ r0
            have bl := World.block_lt_of_cell? _ _ b0
            have f0 := rz 0; have f1 := rz 1; have f2 := rz 2; have f3 := rz 3
            clear rz hx6 HCT2 HRR
            go_wp2
            refine bodyPost_ret (v := .tuple #[.agg #[.int .i64 n0, .int .i64 n2, .int .i64 n4, .slice go' PS.length gc'], .bool true]) ?_ rfl ?_
            · simp [results, Tryz.results23, go_sem, cell_put, r0, r1, r2, r3]
            · unfold ResP
              rw [HP.out.1, HP.out.2]
              have hx := HXR.out.trans HX6.out
              have hwl0 : w.heap.size < w1.heap.size := HSZ3.out
              have hF' := ((((HFO.out.ext HX6.out).setCell (p := ⟨w.heap.size, 0, none⟩) hwl0 (.int .i64 n0)).setCell (p := ⟨w.heap.size, 1, none⟩) hwl0 (.int .i64 n2)).setCell (p := ⟨w.heap.size, 2, none⟩) hwl0 (.int .i64 n4)).setCell (p := ⟨w.heap.size, 3, none⟩) hwl0 (.slice go' PS.length gc')
              exact ⟨go', gc', rfl, Ext.setCell (Ext.setCell (Ext.setCell (Ext.setCell hx (by simp) _) (by simp) _) (by simp) _) (by simp) _, hF'.mono (Nat.le_of_lt HSZ3.out)⟩
          · have hc2 : ((bsOf (cardT ⟨n0, n2, n4, PS⟩)).toList == s.toList) = false := eqS_no htx
            have HBB := Lib.hid (pr_textS (s := s) (by rw [HE.out]; exact htx))
            generalize bsOf (cardT ⟨n0, n2, n4, PS⟩) = TX at *
            clear htx
            go_wp2_with fail
            refine (HCT2.out _ HX5.out).mono ?_; rintro e w6 ⟨rfl, hx6⟩
            have HX6 := Lib.hid (HXR.out.trans (HX5.out.trans hx6))
            have HR6 := Lib.hid (HRR.out.ext (HX5.out.trans hx6))
            clear hx6 HCT2 HRR HXR HX5 b0 b1 b2 b3
            have HB := Lib.hid (HBB.out)
            have HXB := Lib.hid (HX6.out)
            obtain ⟨r0, r1, r2, r3, rz⟩ := HR6.out
            have rl := World.block_lt_of_cell? _ _ r0
            have f0 := rz 0; have f1 := rz 1; have f2 := rz 2; have f3 := rz 3
            clear rz
            go_wp2
            refine bodyPost_ret (v := .tuple #[.agg #[.int .i64 0, .int .i64 0, .int .i64 0, .slice none 0 0], .bool false]) ?_ rfl ?_
            · simp [results, Tryz.results23, go_sem, cell_put, r0, r1, r2, r3]
            · refine ResP.no HB.out rfl ?_
              have hx := HXB.out
              first
                | exact Ext.setCell (Ext.setCell (Ext.setCell (Ext.setCell hx (by simp) _) (by simp) _) (by simp) _) (by simp) _
                | exact (by repeat (first | (with_reducible exact Ext.refl _) | (with_reducible assumption) | with_reducible refine Ext.drew ?_ | with_reducible refine Ext.alloc ?_ _ | with_reducible refine Ext.setCell ?_ (by first | (simp; done) | (simp; omega) | omega) _ | with_reducible refine Ext.trans ?_ (by with_reducible assumption)))

end Go.Proofs.YtckgjpaccgpdpaaGreatDoor
