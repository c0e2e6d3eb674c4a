/-
  Proved here: the cursor's entries, entrant.
  Conditions: the cursor lies in one block; counts are small.
-/
import Derived.Test.YtkejhhflpnfepaaCurN
import Derived.Test.YtkejhhflpnfepaaCurE
import Derived.Test.YtkejhhflpnfepaaInsEnt
import Derived.Deep.DeepCutAuto
import Derived.Deep.CutBlock
namespace Go.Proofs.Ytkejhhflpnfepaa
open Go.RowKit

def entIns (xs : List Ent) : Prop := ∀ k, k < xs.length → entIn (nth xs k)
theorem entIns.snoc {ms : List Ent} {m : Ent} (h : entIns ms) (hm : entIn m) : entIns (ms ++ [m]) := by
  intro k hk
  by_cases e : k < ms.length
  · have : nth (ms ++ [m]) k = nth ms k := by simp only [nth, List.getD]; rw [List.getElem?_append_left e]
    rw [this]; exact h k e
  · have hk' : k = ms.length := by simp at hk; omega
    subst hk'
    have : nth (ms ++ [m]) ms.length = m := by simp [nth]
    rw [this]; exact hm
/-- drawn values, in new memory -/
structure DrawnE (B0 : Nat) (w' : World) (xs : List Ent) (b off cap : Nat) : Prop where
  len : xs.length ≤ 13
  ok : entIns xs
  caps : xs.length ≤ cap ∧ cap ≤ 9223372036854775807
  fresh : FreshAt B0 w' (some ⟨b, off, none⟩) 5 xs.length (fun k => (nth xs k).c)
theorem DrawnE.of {B0 : Nat} {w : World} {xs : List Ent} {b off gc : Nat} (h : Owns w B0 26 5 Ent.c (.slice (some ⟨b, off, none⟩) xs.length gc) xs) (hl : xs.length ≤ 13) (hok : entIns xs) : DrawnE B0 w xs b off gc := by
  obtain ⟨go2, gc2, e2, hF, _, h1, h2⟩ := h.fresh
  injection e2 with e2 e3 e4
  subst e2 e4
  exact ⟨hl, hok, ⟨h1, by unfold maxLen at h2; omega⟩, hF⟩
theorem DrawnE.mono {B0 B1 : Nat} {w : World} {xs : List Ent} {b off cap : Nat} (h : DrawnE B0 w xs b off cap) (hB : B1 ≤ B0) : DrawnE B1 w xs b off cap := ⟨h.len, h.ok, h.caps, h.fresh.mono hB⟩
theorem DrawnE.ext {B0 : Nat} {w w' : World} {xs : List Ent} {b off cap : Nat} (h : DrawnE B0 w xs b off cap) (hx : Ext w w') : DrawnE B0 w' xs b off cap := ⟨h.len, h.ok, h.caps, h.fresh.ext hx⟩
theorem DrawnE.curs {B0 B : Nat} {w w' : World} {xs : List Ent} {b off cap : Nat} (h : DrawnE B0 w xs b off cap) (ht : Touch w w' (Span B (B + 1))) (hB : B < B0) : DrawnE B0 w' xs b off cap :=
  ⟨h.len, h.ok, h.caps, h.fresh.touch ht (fun a e hs => by have h1 := (h.fresh.base a e).1; have h2 := hs.2; omega)⟩

set_option maxRecDepth 100000 in
set_option maxHeartbeats 8000000 in
theorem cu_entries {B B0 n rb roff rcap : Nat} {rs : List Rnr} {w : World} (h : Cu w B n) (hn : n ≤ 800000) (hD : DrawnR B0 w rs rb roff rcap) (hB : B < B0) :
    Calls Try.prog 38 #[.pointer (some ⟨B, 0, none⟩), .slice (some ⟨rb, roff, none⟩) rs.length rcap] w fun e w' => ∃ (b off cap : Nat) (xs : List Ent), e = .returned (.slice (some ⟨b, off, none⟩) xs.length cap) ∧ DrawnE w.heap.size w' xs b off cap ∧ Cu w' B (n + 130) ∧ Touch w w' (Span B (B + 1)) := by
  obtain ⟨i0, hi, hz0, hz1, hz2⟩ := info_parts infoEnt
  have hBl := h.lt
  have HRC := Lib.hid (fun (x : World) (ht : Touch w x (Span B (B + 1))) (k : Nat) (hk : k < rs.length) => (show x.cell? ⟨rb, roff + k * 6, none⟩ = some (.int .i64 (nth rs k).id) from by
    obtain ⟨b', off', e, hc⟩ := hD.fresh.row (by omega)
    injection e with e; injection e with e1 e2; subst e1 e2
    have h1 := hD.fresh.base _ rfl
    exact (ht.cell h1.2 (fun hs => by have h2 := hs.2; have h3 := h1.1; simp only at h3; omega)).trans (hc k hk 0 (by decide))))
  have HRO := Lib.hid hD.ok
  have hrl := hD.len
  have hx0 := ((Ext.refl w).alloc (.cells #[] 26))
  have HO1 := Lib.hid (Owns.start' (e := 26) (s := 5) (cc := Ent.c) (Nat.le_refl w.heap.size))
  have HC1 := Lib.hid (h.ext hx0)
  have HT1 := Lib.hid (Touch.of_ext (S := Span B (B + 1)) hx0)
  clear h hx0 hD
  go_enter Try.func38, Try.ntmps38
  go_wp2
  go_loopw [5, 6] (fun l v wr => ∃ (xs : List Ent) (k b off gc : Nat), k ≤ rs.length ∧ v = .int .i64 k ∧ l = .slice (some ⟨b, off, none⟩) xs.length gc ∧ xs.length ≤ k ∧ entIns xs ∧ Owns wr w.heap.size 26 5 Ent.c (.slice (some ⟨b, off, none⟩) xs.length gc) xs ∧ Cu wr B (n + 8 * k) ∧ Touch w wr (Span B (B + 1))) (fun _ v _ => rs.length - (intOf v).toNat)
  case atStart => exact ⟨[], 0, w.heap.size, 0, 0, by omega, rfl, rfl, by simp, fun k hk => by simp at hk, HO1.out, HC1.out, HT1.out⟩
  case round =>
    obtain ⟨xs, k, b, off, gc, hk, rfl, rfl, hxl, hok, hown, hc, hT⟩ := hrel
    have HO := Lib.hid hown; have HC := Lib.hid hc; have HT := Lib.hid hT; have HK := Lib.hid hok
    clear hown hc hT hok HO1 HC1 HT1
    by_cases hlt : k < rs.length
    · have hki : (k : Int) < (rs.length : Int) := by omega
      have HP := Lib.hid (cu_one (N := 3) HC.out (by omega) (by decide) (by decide))
      go_wp2_with fail
      refine HP.out.mono ?_; rintro e w2 ⟨y, rfl, hc, ht⟩
      have HO2 := Lib.hid (HO.out.cur ht hBl); have HT2 := Lib.hid (HT.out.trans ht); have HC2 := Lib.hid hc
      clear hc ht HP HO HT HC
      cases y
      · have HP := Lib.hid (fun (r : Int) (hr : 0 ≤ r ∧ r ≤ 1000) => cu_entry11 HC2.out (by omega) hr)
        have d0 := HRC.out w2 HT2.out k hlt
        go_wp2_with fail
        refine (HP.out _ (HRO.out k hlt).f0).mono ?_; rintro e w4 ⟨⟨a0, a1, a2, a3, a4⟩, rfl, hro, hc, ht⟩
        have HO := Lib.hid (HO2.out.cur ht hBl); have HT := Lib.hid (HT2.out.trans ht); have HC := Lib.hid hc; have HEO := Lib.hid hro
        clear hc ht HP HO2 HT2 HC2 hro d0
        unfold Ent.val
        dsimp only
        have hrow2 := fun y => row_lit (w := y) (cs := #[.int .i64 a0, .int .i64 a1, .int .i64 a2, .bool a3, .int .i64 a4]) (T := 26) (s := 5) (cc := Ent.c) (x := (⟨a0, a1, a2, a3, a4⟩ : Ent)) (by intro j hj; match j, hj with | 0, _ => rfl | 1, _ => rfl | 2, _ => rfl | 3, _ => rfl | 4, _ => rfl)
        go_wp2_with (at_builtin; refine wpList_append_bf rfl _ _ 24 rfl 26 i0 _ 5 40 Try.underlying24 hi hz0 hz1 hz2 rfl (by decide) Ent.c ent_cells w.heap.size (Nat.le_trans HT.out.size (by simp)) _ xs [(⟨a0, a1, a2, a3, a4⟩ : Ent)] (xs ++ [(⟨a0, a1, a2, a3, a4⟩ : Ent)]) (Lib.hid rfl) rfl (HO.out.ext' ((Ext.refl _).alloc _)) ⟨w4.heap.size, 0, none⟩ 1 1 rfl rfl (hrow2 _) (by simp; omega) (by simp; omega) ?_; intro go1 gc1 w9 ho4 hb4 _ hv4; obtain ⟨g1, rfl, _⟩ := own_at' ho4 hv4.out; have HO9 := Lib.hid ho4; have HC9 := Lib.hid ((HC.out.ext ((Ext.refl w4).alloc (.cells #[.int .i64 a0, .int .i64 a1, .int .i64 a2, .bool a3, .int .i64 a4] 26))).below hb4 hBl); have HT9 := Lib.hid ((HT.out.trans (Touch.of_ext ((Ext.refl w4).alloc (.cells #[.int .i64 a0, .int .i64 a1, .int .i64 a2, .bool a3, .int .i64 a4] 26)))).below hb4); clear ho4 hb4 hv4 HO HC HT hrow2)
        have HL := Lib.hid (show (xs ++ [(⟨a0, a1, a2, a3, a4⟩ : Ent)]).length = xs.length + 1 from by simp)
        have HKS := Lib.hid (HK.out.snoc HEO.out)
        go_wp2
        go_roundw
        case rel => exact ⟨_, k + 1, g1, 0, gc1, by omega, by go_num, by rw [List.length_append]; rfl, by rw [HL.out]; omega, HKS.out, HO9.out, HC9.out.mono (by omega), HT9.out⟩
        case measure => simp [intOf] <;> omega
      · go_wp2
        go_roundw
        case rel => exact ⟨xs, k + 1, b, off, gc, by omega, by go_num, rfl, by omega, HK.out, HO2.out, HC2.out.mono (by omega), HT2.out⟩
        case measure => simp [intOf] <;> omega
    · have hki : ¬ (k : Int) < (rs.length : Int) := by omega
      have HP := Lib.hid (cu_pick (N := 24) HC.out (by omega) (by decide) (by decide))
      go_wp2_with fail
      refine HP.out.mono ?_; rintro e w2 ⟨y, rfl, hy, hc2, ht2⟩
      have HO2 := Lib.hid (HO.out.cur ht2 hBl); have HC2 := Lib.hid hc2; have HT2 := Lib.hid (HT.out.trans ht2)
      have hy0 := hy.1; have hy1 := hy.2
      clear hc2 ht2 HO HC HT HP hy HRC HRO
      by_cases e0 : y = 0
      · subst e0
        have HP := Lib.hid (fun T => cu_lit (T := T) (cs := #[.int .i64 1, .int .i64 998]) [1, 998] 1 998 HC2.out (by omega) rfl (by decide) (by decide) (by decide))
        go_wp2_with fail
        refine (HP.out _).mono ?_; rintro e w3 ⟨p, rfl, hp, hc, ht⟩
        have HO3 := Lib.hid (HO2.out.cur ht hBl); have HT3 := Lib.hid (HT2.out.trans ht); have HC3 := Lib.hid hc
        have hp0 := hp.1; have hp1 := hp.2
        clear hc ht HP HO2 HT2 HC2 hp
        have HP := Lib.hid (fun (r : Int) (hr : 0 ≤ r ∧ r ≤ 1000) => cu_entry11 HC3.out (by omega) hr)
        go_wp2_with fail
        refine (HP.out _ ⟨by omega, by omega⟩).mono ?_; rintro e w4 ⟨⟨a0, a1, a2, a3, a4⟩, rfl, hro, hc, ht⟩
        have HO := Lib.hid (HO3.out.cur ht hBl); have HT := Lib.hid (HT3.out.trans ht); have HC := Lib.hid hc; have HEO := Lib.hid hro
        clear hc ht HP HO3 HT3 HC3 hro
        unfold Ent.val
        dsimp only
        have hrow2 := fun y => row_lit (w := y) (cs := #[.int .i64 a0, .int .i64 a1, .int .i64 a2, .bool a3, .int .i64 a4]) (T := 26) (s := 5) (cc := Ent.c) (x := (⟨a0, a1, a2, a3, a4⟩ : Ent)) (by intro j hj; match j, hj with | 0, _ => rfl | 1, _ => rfl | 2, _ => rfl | 3, _ => rfl | 4, _ => rfl)
        go_wp2_with (at_builtin; refine wpList_append_bf rfl _ _ 24 rfl 26 i0 _ 5 40 Try.underlying24 hi hz0 hz1 hz2 rfl (by decide) Ent.c ent_cells w.heap.size (Nat.le_trans HT.out.size (by simp)) _ xs [(⟨a0, a1, a2, a3, a4⟩ : Ent)] (xs ++ [(⟨a0, a1, a2, a3, a4⟩ : Ent)]) (Lib.hid rfl) rfl (HO.out.ext' ((Ext.refl _).alloc _)) ⟨w4.heap.size, 0, none⟩ 1 1 rfl rfl (hrow2 _) (by simp; omega) (by simp; omega) ?_; intro go1 gc1 w9 ho4 hb4 _ hv4; obtain ⟨g1, rfl, _⟩ := own_at' ho4 hv4.out; have HO9 := Lib.hid ho4; have HC9 := Lib.hid ((HC.out.ext ((Ext.refl w4).alloc (.cells #[.int .i64 a0, .int .i64 a1, .int .i64 a2, .bool a3, .int .i64 a4] 26))).below hb4 hBl); have HT9 := Lib.hid ((HT.out.trans (Touch.of_ext ((Ext.refl w4).alloc (.cells #[.int .i64 a0, .int .i64 a1, .int .i64 a2, .bool a3, .int .i64 a4] 26)))).below hb4); clear ho4 hb4 hv4 HO HC HT hrow2)
        all_goals
          have HL := Lib.hid (show (xs ++ [(⟨a0, a1, a2, a3, a4⟩ : Ent)]).length = xs.length + 1 from by simp)
          have HKS := Lib.hid (HK.out.snoc HEO.out)
          have HD := Lib.hid (DrawnE.of HO9.out (by rw [HL.out]; omega) HKS.out)
          go_wp2
          go_ret
          exact ⟨g1, 0, gc1, _, by rw [HL.out]; rfl, HD.out, HC9.out.mono (by omega), HT9.out⟩
      · by_cases e1 : y = 1
        · subst e1
          have HOS := Lib.hid (Owns.start' (α := Ent) (e := 26) (s := 5) (cc := Ent.c) (w := w2) HT2.out.size)
          have HXS := Lib.hid ((Ext.refl w2).alloc (.cells #[] 26))
          have HCS := Lib.hid (HC2.out.ext HXS.out); have HTS := Lib.hid (HT2.out.trans (Touch.of_ext HXS.out))
          clear HO2 HC2 HT2 HXS hy0 hy1 e0
          go_wp2
          go_loopw [5, 7] (fun l v wr => ∃ (xs : List Ent) (k b off gc : Nat), xs.length = k ∧ v = .int .i64 k ∧ l = .slice (some ⟨b, off, none⟩) xs.length gc ∧ k ≤ 13 ∧ entIns xs ∧ Owns wr w.heap.size 26 5 Ent.c (.slice (some ⟨b, off, none⟩) xs.length gc) xs ∧ Cu wr B (n + 100 + k) ∧ Touch w wr (Span B (B + 1))) (fun _ v _ => 14 - (intOf v).toNat)
          case atStart => exact ⟨[], 0, w2.heap.size, 0, 0, rfl, rfl, rfl, by omega, fun k hk => by simp at hk, HOS.out, HCS.out.mono (by omega), HTS.out⟩
          case round =>
            clear HK HOS HCS HTS hxl
            obtain ⟨xs, k, b, off, gc, hxk, rfl, rfl, hk12, hok, hown, hc, hT⟩ := hrel
            have HO := Lib.hid hown; have HC := Lib.hid hc; have HT := Lib.hid hT; have HK := Lib.hid hok; have HXK := Lib.hid hxk
            have hxl : xs.length ≤ 13 := by omega
            clear hown hc hT hok hxk
            have HP := Lib.hid (cu_pick (N := 2) HC.out (by omega) (by decide) (by decide))
            go_wp2_with fail
            refine HP.out.mono ?_; rintro e w4 ⟨p, rfl, hp, hc, ht⟩
            have hp0 := hp.1; have hp1 := hp.2
            have HO := Lib.hid (HO.out.cur ht hBl)
            have HT := Lib.hid (HT.out.trans ht)
            have HC := Lib.hid hc
            clear hc ht HP hp
            by_cases hlt : (k : Int) < 12 + p
            · have hk11 : k ≤ 12 := by omega
              have hrow2 := fun y => row_lit (w := y) (cs := #[.int .i64 ((k : Int) + 1), .int .i64 (1 + (k : Int) % 3), .int .i64 5, .bool false, .int .i64 0]) (T := 26) (s := 5) (cc := Ent.c) (x := (⟨(k : Int) + 1, 1 + (k : Int) % 3, 5, false, 0⟩ : Ent)) (by intro j hj; match j, hj with | 0, _ => rfl | 1, _ => rfl | 2, _ => rfl | 3, _ => rfl | 4, _ => rfl)
              go_wp2_with (at_builtin; refine wpList_append_bf rfl _ _ 24 rfl 26 i0 _ 5 40 Try.underlying24 hi hz0 hz1 hz2 rfl (by decide) Ent.c ent_cells w.heap.size (Nat.le_trans HT.out.size (by simp)) _ xs [(⟨(k : Int) + 1, 1 + (k : Int) % 3, 5, false, 0⟩ : Ent)] (xs ++ [(⟨(k : Int) + 1, 1 + (k : Int) % 3, 5, false, 0⟩ : Ent)]) (Lib.hid rfl) rfl (HO.out.ext' ((Ext.refl _).alloc _)) ⟨w4.heap.size, 0, none⟩ 1 1 rfl rfl (hrow2 _) (by simp; omega) (by simp; omega) ?_; intro go1 gc1 w9 ho4 hb4 _ hv4; obtain ⟨g1, rfl, _⟩ := own_at' ho4 hv4.out; have HO9 := Lib.hid ho4; have HC9 := Lib.hid ((HC.out.ext ((Ext.refl w4).alloc (.cells #[.int .i64 ((k : Int) + 1), .int .i64 (1 + (k : Int) % 3), .int .i64 5, .bool false, .int .i64 0] 26))).below hb4 hBl); have HT9 := Lib.hid ((HT.out.trans (Touch.of_ext ((Ext.refl w4).alloc (.cells #[.int .i64 ((k : Int) + 1), .int .i64 (1 + (k : Int) % 3), .int .i64 5, .bool false, .int .i64 0] 26)))).below hb4); clear ho4 hb4 hv4 HO HC HT hrow2)
              have HL := Lib.hid (show (xs ++ [(⟨(k : Int) + 1, 1 + (k : Int) % 3, 5, false, 0⟩ : Ent)]).length = k + 1 from by rw [List.length_append, HXK.out]; rfl)
              have HKS := Lib.hid (HK.out.snoc (show entIn (⟨(k : Int) + 1, 1 + (k : Int) % 3, 5, false, 0⟩ : Ent) from ⟨⟨by show 0 ≤ (k : Int) + 1; omega, by show (k : Int) + 1 ≤ 1000; omega⟩, ⟨by show 0 ≤ 1 + (k : Int) % 3; omega, by show 1 + (k : Int) % 3 ≤ 100; omega⟩, ⟨by show (-1 : Int) ≤ 5; omega, by show (5 : Int) ≤ 366; omega⟩, ⟨by show (-1 : Int) ≤ 0; omega, by show (0 : Int) ≤ 100001; omega⟩⟩))
              go_wp2
              go_roundw
              case rel => exact ⟨_, k + 1, g1, 0, gc1, HL.out, by go_num, by rw [List.length_append]; rfl, by omega, HKS.out, HO9.out, HC9.out.mono (by omega), HT9.out⟩
              case measure => simp [intOf] <;> omega
            · have HD := Lib.hid (DrawnE.of HO.out hxl HK.out)
              go_wp2
              go_ret
              exact ⟨b, off, gc, xs, rfl, HD.out, HC.out.mono (by omega), HT.out⟩
        · have HD := Lib.hid (DrawnE.of HO2.out (by omega) HK.out)
          go_wp2
          go_ret
          exact ⟨b, off, gc, xs, rfl, HD.out, HC2.out.mono (by omega), HT2.out⟩

set_option maxRecDepth 100000 in
set_option maxHeartbeats 2000000 in
theorem cu_entrant {B B0 n b off cap : Nat} {xs : List Ent} {w : World} (h : Cu w B n) (hn : n ≤ 800000) (hD : DrawnE B0 w xs b off cap) (hB : B < B0) :
    Calls Try.prog 51 #[.pointer (some ⟨B, 0, none⟩), .slice (some ⟨b, off, none⟩) xs.length cap] w fun e w' => ∃ r : Int, e = .returned (.int .i64 r) ∧ (0 ≤ r ∧ r ≤ 1000) ∧ Cu w' B (n + 2) ∧ Touch w w' (Span B (B + 1)) := by
  have HLIT := fun (x : World) (m : Nat) (hm : m ≤ 900000) (hc : Cu x B m) => fun T => cu_lit (T := T) (cs := #[.int .i64 0, .int .i64 1, .int .i64 500]) [0, 1, 500] 0 500 hc (by omega) rfl (by decide) (by decide) (by decide)
  have HLT := Lib.hid HLIT; clear HLIT
  have hlen := hD.len
  by_cases h0 : xs.length = 0
  · have HC := Lib.hid h
    have hb0 : ((xs.length : Int) == 0) = true := by rw [h0]; rfl
    clear h hD h0
    go_enter Try.func51, Try.ntmps51
    go_wp2_with fail
    refine (HLT.out _ _ (by omega) HC.out _).mono ?_; rintro e w2 ⟨v, rfl, hv, hc, ht⟩
    have HC2 := Lib.hid hc; have HT2 := Lib.hid ht; have HV := Lib.hid hv
    clear hc ht hv
    go_wp2
    go_ret
    exact ⟨v, rfl, ⟨HV.out.1, by have := HV.out.2; omega⟩, HC2.out.mono (by omega), HT2.out⟩
  · have hb0 : ((xs.length : Int) == 0) = false := by simpa using h0
    have hlp : 0 < xs.length := by omega
    have HP := Lib.hid (cu_one (N := 8) h (by omega) (by decide) (by decide))
    clear h
    go_enter Try.func51, Try.ntmps51
    go_wp2_with fail
    refine HP.out.mono ?_; rintro e w2 ⟨y, rfl, hc, ht⟩
    have HC2 := Lib.hid hc; have HT2 := Lib.hid ht; have HD2 := Lib.hid (hD.curs ht hB)
    clear hc ht HP hD
    cases y
    · have HP := Lib.hid (cu_pick (N := xs.length) HC2.out (by omega) (by omega) (by omega))
      go_wp2_with fail
      refine HP.out.mono ?_; rintro e w3 ⟨i, rfl, hi, hc, ht⟩
      obtain ⟨k, rfl⟩ := Int.eq_ofNat_of_zero_le hi.1
      have hk : k < xs.length := by have := hi.2; omega
      have HC3 := Lib.hid hc; have HT3 := Lib.hid (HT2.out.trans ht)
      have HD3 := HD2.out.curs ht hB
      obtain ⟨b', off', e, hcl⟩ := HD3.fresh.row (by omega)
      injection e with e; injection e with e1 e2; subst e1 e2
      have d0 := hcl k hk 0 (by decide)
      simp only [Ent.c0, Nat.add_zero] at d0
      have HOK := Lib.hid (HD3.ok k hk).f0
      have hk0 : (0 : Int) ≤ (k : Int) := by omega
      have hk1 : (k : Int) < (xs.length : Int) := by omega
      clear hc ht HP HC2 HT2 HD2 HD3 hcl hi
      go_wp2
      go_ret
      exact ⟨_, rfl, HOK.out, HC3.out.mono (by omega), HT3.out⟩
    · go_wp2_with fail
      refine (HLT.out _ _ (by omega) HC2.out _).mono ?_; rintro e w3 ⟨v, rfl, hv, hc, ht⟩
      have HC3 := Lib.hid hc; have HT3 := Lib.hid (HT2.out.trans ht); have HV := Lib.hid hv
      clear hc ht hv
      go_wp2
      go_ret
      exact ⟨v, rfl, ⟨HV.out.1, by have := HV.out.2; omega⟩, HC3.out.mono (by omega), HT3.out⟩

end Go.Proofs.Ytkejhhflpnfepaa
