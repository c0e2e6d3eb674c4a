/-
  Proved here: the cursor's marks and shown.
  Conditions: the cursor lies in one block; counts are small.
-/
import Derived.Test.YtemencnfackplaaCurL
import Derived.Test.YtemencnfackplaaTClockMark
namespace Go.Proofs.Ytemencnfackplaa
open Go.RowKit

theorem cu_shown {B n : Nat} {w : World} (h : Cu w B n) (hn : n ≤ 900000) :
    Calls Try.prog 33 #[.pointer (some ⟨B, 0, none⟩)] w fun e w' => ∃ x : Int, e = .returned (.int .i64 x) ∧ (-1 ≤ x ∧ x ≤ 36001) ∧ Cu w' B (n + 1) ∧ Touch w w' (Span B (B + 1)) := by
  have H := Lib.hid (fun T => cu_lit (T := T) (cs := #[.int .i64 0, .int .i64 5, .int .i64 50, .int .i64 100, .int .i64 150, .int .i64 333, .int .i64 620, .int .i64 1000, .int .i64 2000, .int .i64 36000, .int .i64 36001, .int .i64 (-1)]) [0, 5, 50, 100, 150, 333, 620, 1000, 2000, 36000, 36001, -1] (-1) 36001 h (by omega) rfl (by decide) (by decide) (by decide))
  clear h
  go_enter Try.func33, Try.ntmps33
  go_wp2_with fail
  refine (H.out _).mono ?_; rintro e w1 ⟨x, rfl, hx, hc, ht⟩
  have HC := Lib.hid hc; have HT := Lib.hid ht
  clear hc ht
  go_wp2
  go_ret
  exact ⟨x, rfl, hx, HC.out, HT.out⟩

theorem mark_cells : ∀ (x : Mark) (j : Nat), j < 2 → (x.c j).oneCell' = true := by
  intro x j hj
  rcases j with _ | _ | j <;> first | rfl | omega
def mkOk (m : Mark) : Prop := (-100000 ≤ m.shown ∧ m.shown ≤ 100000) ∧ (-100000 ≤ m.real ∧ m.real ≤ 100000)
def mksOk (ms : List Mark) : Prop := ∀ k, k < ms.length → mkOk (nth ms k)
theorem mksOk.snoc {ms : List Mark} {m : Mark} (h : mksOk ms) (hm : mkOk m) : mksOk (ms ++ [m]) := by
  intro k hk
  by_cases e : k < ms.length
  · have : nth (ms ++ [m]) k = nth ms k := by simp only [nth, List.getD]; rw [List.getElem?_append_left e]
    rw [this]; exact h k e
  · have hk' : k = ms.length := by simp at hk; omega
    subst hk'
    have : nth (ms ++ [m]) ms.length = m := by simp [nth]
    rw [this]; exact hm

set_option maxRecDepth 100000 in
set_option maxHeartbeats 1500000 in
theorem cu_marks {B n : Nat} {w : World} (h : Cu w B n) (hn : n ≤ 900000) :
    Calls Try.prog 32 #[.pointer (some ⟨B, 0, none⟩)] w fun e w' => ∃ (ao : Option Addr) (cap : Nat) (ms : List Mark), e = .returned (.slice ao ms.length cap) ∧ ms.length ≤ 6 ∧ mksOk ms ∧ FreshAt w.heap.size w' ao 2 ms.length (fun k => (nth ms k).c) ∧ (ms.length ≤ cap ∧ cap ≤ 9223372036854775807 ∧ (0 < ms.length ∨ ∃ b, ao = some ⟨b, 0, none⟩)) ∧ Cu w' B (n + 40) ∧ Touch w w' (Span B (B + 1)) := by
  obtain ⟨i0, hi, hz0, hz1, hz2⟩ := info_parts infoMark
  have hBl := h.lt
  have hx0 := ((Ext.refl w).alloc (.cells #[] 30))
  have ha := fun T => cu_lit (T := T) (cs := #[.int .i64 0, .int .i64 10, .int .i64 100, .int .i64 600]) [0, 10, 100, 600] 0 600 (h.ext hx0) (by omega) rfl (by decide) (by decide) (by decide)
  simp only [World.size_alloc, List.length_cons, List.length_nil] at ha
  have HA := Lib.hid ha; clear ha
  have hstart := Lib.hid (Owns.start' (e := 30) (s := 2) (cc := Mark.c) (Nat.le_refl w.heap.size))
  have HX0 := Lib.hid hx0
  clear h hx0
  go_enter Try.func32, Try.ntmps32
  go_wp2_with fail
  refine (HA.out _).mono ?_; rintro e w1 ⟨S0, rfl, hS0, hc, ht⟩
  have HO1 := Lib.hid (hstart.out.cur ht hBl)
  have HT1 := Lib.hid ((Touch.of_ext HX0.out).trans ht)
  have HA2 := Lib.hid (fun T => cu_lit (T := T) (cs := #[.int .i64 0, .int .i64 0, .int .i64 5, .int .i64 30, .int .i64 (-5), .int .i64 (-10)]) [0, 0, 5, 30, -5, -10] (-10) 30 hc (by omega) rfl (by decide) (by decide) (by decide))
  clear hc ht hstart HX0 HA
  go_wp2_with fail
  refine (HA2.out _).mono ?_; rintro e w2 ⟨O0, rfl, hO0, hc, ht⟩
  have HO2 := Lib.hid (HO1.out.cur ht hBl)
  have HT2 := Lib.hid (HT1.out.trans ht)
  have HP := Lib.hid (cu_pick (N := 4) hc (by omega) (by decide) (by decide))
  clear hc ht HO1 HT1 HA2
  go_wp2_with fail
  refine HP.out.mono ?_; rintro e w3 ⟨x, rfl, hx, hc, ht⟩
  obtain ⟨q, rfl⟩ := Int.eq_ofNat_of_zero_le hx.1
  have hq : q < 4 := by have := hx.2; omega
  have HO3 := Lib.hid (HO2.out.cur ht hBl)
  have HT3 := Lib.hid (HT2.out.trans ht)
  have HC3 := Lib.hid hc
  have hS00 := hS0.1
  have hS01 := hS0.2
  have hO00 := hO0.1
  have hO01 := hO0.2
  clear hc ht HO2 HT2 HP hx hS0 hO0
  go_wp2
  go_loopw [3, 4, 5, 6] (fun l s o v wr => ∃ (ms : List Mark) (j : Nat) (go : Option Addr) (gc : Nat) (S O : Int), j + ms.length = q + 1 ∧ v = .int .i64 j ∧ s = .int .i64 S ∧ o = .int .i64 O ∧ l = .slice go ms.length gc ∧ (0 ≤ S ∧ S ≤ 600 + 900 * ms.length ∧ -10 - 10 * ms.length ≤ O ∧ O ≤ 30 + 10 * ms.length) ∧ mksOk ms ∧ Owns wr w.heap.size 30 2 Mark.c (.slice go ms.length gc) ms ∧ Cu wr B (n + 3 + 2 * ms.length) ∧ Touch w wr (Span B (B + 1))) (fun _ _ _ v _ => (intOf v).toNat)
  case atStart => exact ⟨[], q + 1, _, _, S0, O0, by simp, by go_num, rfl, rfl, rfl, ⟨hS00, by simp; omega, by simp; omega, by simp; omega⟩, fun k hk => by simp at hk, HO3.out, HC3.out, HT3.out⟩
  case round =>
    obtain ⟨ms, j, go, gc, S, O, hj, rfl, rfl, rfl, rfl, ⟨hb0, hb1, hb2, hb3⟩, hok, hown, hc, hT⟩ := hrel
    have HO := Lib.hid hown; have HC := Lib.hid hc; have HT := Lib.hid hT; have HK := Lib.hid hok
    have hml : ms.length ≤ 5 := by omega
    clear hown hc hT hok HO3 HC3 HT3
    by_cases hj0 : 0 < j
    · have hj0' : (0 : Int) < (j : Int) := by omega
      have hokm : mkOk ⟨S, S + O⟩ := ⟨⟨by show -100000 ≤ S; omega, by show S ≤ 100000; omega⟩, by show -100000 ≤ S + O; omega, by show S + O ≤ 100000; omega⟩
      have HKM := Lib.hid hokm; clear hokm
      have hrow2 := fun x => row_lit (w := x) (cs := #[.int .i64 S, .int .i64 (S + O)]) (T := 30) (s := 2) (cc := Mark.c) (x := ⟨S, S + O⟩) (by intro j hj; rcases j with _ | _ | j <;> first | rfl | omega)
      go_wp2_with (at_builtin; refine wpList_append_bf rfl _ _ 26 rfl 30 i0 _ 2 16 Try.underlying26 hi hz0 hz1 hz2 rfl (by decide) Mark.c mark_cells w.heap.size (Nat.le_trans HT.out.size (by simp)) _ ms [⟨S, S + O⟩] (ms ++ [⟨S, S + O⟩]) (Lib.hid rfl) rfl (HO.out.ext' ((Ext.refl _).alloc _)) ⟨wr.heap.size, 0, none⟩ 1 1 rfl rfl (hrow2 _) (by simp; omega) (by simp; omega) ?_; intro go1 gc1 w4 ho4 hb4 _ _; have HO4 := Lib.hid ho4; have HC4 := Lib.hid ((HC.out.ext ((Ext.refl wr).alloc (.cells #[.int .i64 S, .int .i64 (S + O)] 30))).below hb4 hBl); have HT4 := Lib.hid ((HT.out.trans (Touch.of_ext ((Ext.refl wr).alloc (.cells #[.int .i64 S, .int .i64 (S + O)] 30)))).below hb4); have HA4 := Lib.hid (fun T => cu_lit (T := T) (cs := #[.int .i64 10, .int .i64 60, .int .i64 100, .int .i64 900]) [10, 60, 100, 900] 10 900 HC4.out (by omega) rfl (by decide) (by decide) (by decide)); clear ho4 hb4 HO HC HT hrow2)
      refine (HA4.out _).mono ?_; rintro e w5 ⟨d, rfl, hd, hc, ht⟩
      have HO5 := Lib.hid (HO4.out.cur ht hBl)
      have HT5 := Lib.hid (HT4.out.trans ht)
      have HA5 := Lib.hid (fun T => cu_lit (T := T) (cs := #[.int .i64 0, .int .i64 0, .int .i64 1, .int .i64 (-1), .int .i64 7, .int .i64 (-5)]) [0, 0, 1, -1, 7, -5] (-5) 7 hc (by omega) rfl (by decide) (by decide) (by decide))
      have hd0 := hd.1
      have hd1 := hd.2
      clear hc ht HO4 HT4 HA4 HC4 hd
      go_wp2_with fail
      refine (HA5.out _).mono ?_; rintro e w6 ⟨f, rfl, hf, hc, ht⟩
      have HO6 := Lib.hid (HO5.out.cur ht hBl)
      have HT6 := Lib.hid (HT5.out.trans ht)
      have HC6 := Lib.hid hc
      have hf0 := hf.1
      have hf1 := hf.2
      clear hc ht HO5 HT5 HA5 hf
      go_wp2
      go_roundw
      case rel => exact ⟨ms ++ [⟨S, S + O⟩], j - 1, go1, gc1, S + d, O + f, by simp; omega, by go_num, rfl, rfl, by rw [List.length_append]; rfl, ⟨by omega, by simp; omega, by simp; omega, by simp; omega⟩, HK.out.snoc HKM.out, HO6.out, HC6.out.mono (by simp; omega), HT6.out⟩
      case measure => simp [intOf] <;> omega
    · obtain rfl : j = 0 := by omega
      have hm1 : 1 ≤ ms.length := by omega
      have hm4 : ms.length ≤ 4 := by omega
      have HP := Lib.hid (cu_pick (N := 24) HC.out (by omega) (by decide) (by decide))
      go_wp2_with fail
      refine HP.out.mono ?_; rintro e w2 ⟨x, rfl, hx, hc2, ht2⟩
      have HO2 := Lib.hid (HO.out.cur ht2 hBl); have HC2 := Lib.hid hc2; have HT2 := Lib.hid (HT.out.trans ht2)
      clear hc2 ht2 HO HC HT HP
      have hx0 := hx.1
      by_cases h0 : x = 0
      · subst h0
        clear hx hx0
        go_wp2
        go_ret
        exact ⟨_, _, [], rfl, by simp, fun k hk => by simp at hk, fresh_lit0 (Nat.le_trans HT2.out.size (Nat.le_refl _)), ⟨by simp, by simp, .inr ⟨_, rfl⟩⟩, (HC2.out.ext ((Ext.refl _).alloc _)).mono (by omega), HT2.out.trans (Touch.of_ext ((Ext.refl _).alloc _))⟩
      · by_cases h1 : x = 1
        · subst h1
          have HA := Lib.hid (fun T => cu_lit (T := T) (cs := #[.int .i64 36000, .int .i64 36001, .int .i64 (-1)]) [36000, 36001, -1] (-1) 36001 HC2.out (by omega) rfl (by decide) (by decide) (by decide))
          clear hx hx0
          go_wp2_with fail
          refine (HA.out _).mono ?_; rintro e w5 ⟨S1, rfl, hS1, hc, ht⟩
          have HO5 := Lib.hid (HO2.out.cur ht hBl); have HT5 := Lib.hid (HT2.out.trans ht)
          have HA5 := Lib.hid (fun T => cu_lit (T := T) (cs := #[.int .i64 36000, .int .i64 35990, .int .i64 36001]) [36000, 35990, 36001] 35990 36001 hc (by omega) rfl (by decide) (by decide) (by decide))
          clear hc ht HO2 HT2 HA HC2
          go_wp2_with fail
          refine (HA5.out _).mono ?_; rintro e w6 ⟨R1, rfl, hR1, hc, ht⟩
          have HO6 := Lib.hid (HO5.out.cur ht hBl); have HT6 := Lib.hid (HT5.out.trans ht); have HC6 := Lib.hid hc
          have hokm : mkOk ⟨S1, R1⟩ := ⟨⟨by show -100000 ≤ S1; omega, by show S1 ≤ 100000; omega⟩, by show -100000 ≤ R1; omega, by show R1 ≤ 100000; omega⟩
          have HKM := Lib.hid hokm
          clear hc ht HO5 HT5 HA5 hokm hS1 hR1
          have hrow2 := fun x => row_lit (w := x) (cs := #[.int .i64 S1, .int .i64 R1]) (T := 30) (s := 2) (cc := Mark.c) (x := ⟨S1, R1⟩) (by intro j hj; rcases j with _ | _ | j <;> first | rfl | omega)
          go_wp2_with (at_builtin; refine wpList_append_bf rfl _ _ 26 rfl 30 i0 _ 2 16 Try.underlying26 hi hz0 hz1 hz2 rfl (by decide) Mark.c mark_cells w.heap.size (Nat.le_trans HT6.out.size (by simp)) _ ms [⟨S1, R1⟩] (ms ++ [⟨S1, R1⟩]) (Lib.hid rfl) rfl (HO6.out.ext' ((Ext.refl _).alloc _)) ⟨w6.heap.size, 0, none⟩ 1 1 rfl rfl (hrow2 _) (by simp; omega) (by simp; omega) ?_; intro go1 gc1 w9 ho9 hb9 _ _)
          go_wp2
          go_ret
          have k := ((Ext.refl w6).alloc (.cells #[.int .i64 S1, .int .i64 R1] 30))
          obtain ⟨go2, gc2, e2, hF, _, hl1, hl2⟩ := ho9.fresh
          injection e2 with e2 e3 e4
          subst e2
          exact ⟨go1, gc1, ms ++ [⟨S1, R1⟩], by rw [List.length_append]; rfl, by simp; omega, HK.out.snoc HKM.out, hF, ⟨by rw [e4]; exact hl1, by rw [e4]; unfold maxLen at hl2; omega, .inl (by first | omega | (simp; done) | (simp; omega))⟩, ((HC6.out.ext k).below hb9 hBl).mono (by omega), (HT6.out.trans (Touch.of_ext k)).below hb9⟩
        · by_cases h2 : x = 2
          · subst h2
            clear hx hx0
            obtain ⟨go2, gc2, e2, hF, _⟩ := HO2.out.fresh
            injection e2 with e2 e3 e4
            subst e2
            subst e4
            clear e3
            obtain ⟨b, off, rfl, hcell⟩ := hF.row (by omega)
            have d0 : w2.cell? ⟨b, off, none⟩ = some (.int .i64 (nth ms 0).shown) := by simpa [Mark.c] using hcell 0 (by omega) 0 (by decide)
            have d1 : w2.cell? ⟨b, off + 1, none⟩ = some (.int .i64 (nth ms 0).real) := by simpa [Mark.c] using hcell 0 (by omega) 1 (by decide)
            have hml1 : (0 : Int) < (ms.length : Int) := by omega
            clear hcell hF
            have HKM := Lib.hid (HK.out 0 (by omega))
            have hrow2 := fun x => row_lit (w := x) (cs := #[.int .i64 (nth ms 0).shown, .int .i64 (nth ms 0).real]) (T := 30) (s := 2) (cc := Mark.c) (x := nth ms 0) (by intro j hj; rcases j with _ | _ | j <;> first | rfl | omega)
            go_wp2_with (at_builtin; refine wpList_append_bf rfl _ _ 26 rfl 30 i0 _ 2 16 Try.underlying26 hi hz0 hz1 hz2 rfl (by decide) Mark.c mark_cells w.heap.size (Nat.le_trans HT2.out.size (by simp)) _ ms [nth ms 0] (ms ++ [nth ms 0]) (Lib.hid rfl) rfl (HO2.out.ext' ((Ext.refl _).alloc _)) ⟨w2.heap.size, 0, none⟩ 1 1 rfl rfl (hrow2 _) (by simp; omega) (by simp; omega) ?_; intro go1 gc1 w9 ho9 hb9 _ _)
            go_wp2
            go_ret
            have k := ((Ext.refl w2).alloc (.cells #[.int .i64 (nth ms 0).shown, .int .i64 (nth ms 0).real] 30))
            obtain ⟨go2, gc2, e2, hF, _, hl1, hl2⟩ := ho9.fresh
            injection e2 with e2 e3 e4
            subst e2
            exact ⟨go1, gc1, ms ++ [nth ms 0], by rw [List.length_append]; rfl, by simp; omega, HK.out.snoc HKM.out, hF, ⟨by rw [e4]; exact hl1, by rw [e4]; unfold maxLen at hl2; omega, .inl (by first | omega | (simp; done) | (simp; omega))⟩, ((HC2.out.ext k).below hb9 hBl).mono (by omega), (HT2.out.trans (Touch.of_ext k)).below hb9⟩
          · clear hx
            go_wp2
            go_ret
            obtain ⟨go2, gc2, e2, hF, _, hl1, hl2⟩ := HO2.out.fresh
            injection e2 with e2 e3 e4
            subst e2
            exact ⟨go, gc, ms, rfl, by omega, HK.out, hF, ⟨by rw [e4]; exact hl1, by rw [e4]; unfold maxLen at hl2; omega, .inl (by first | omega | (simp; done) | (simp; omega))⟩, HC2.out.mono (by omega), HT2.out⟩

end Go.Proofs.Ytemencnfackplaa
