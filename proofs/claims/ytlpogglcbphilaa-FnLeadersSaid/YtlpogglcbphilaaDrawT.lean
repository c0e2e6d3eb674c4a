/-
  Proved here: what the draws of teams hand back.
  Conditions: the bytes' length fits an int.
-/
import Derived.Test.YtlpogglcbphilaaCurT
namespace Go.Proofs.Ytlpogglcbphilaa
open Go.RowKit

set_option maxRecDepth 100000 in
theorem cu_mass {B n : Nat} {w : World} (h : Cu w B n) (hn : n ≤ 900000) :
    Calls Try.prog 35 #[.pointer (some ⟨B, 0, none⟩)] w fun e w' => ∃ x : Int, e = .returned (.int .i64 x) ∧ (0 ≤ x ∧ x ≤ 40001) ∧ Cu w' B (n + 1) ∧ Touch w w' (Span B (B + 1)) := by
  have HA := Lib.hid (fun T => cu_lit (T := T) (cs := #[.int .i64 1000, .int .i64 2000, .int .i64 2400, .int .i64 3000, .int .i64 3600, .int .i64 40000, .int .i64 1, .int .i64 0, .int .i64 40001, .int .i64 2200]) [1000, 2000, 2400, 3000, 3600, 40000, 1, 0, 40001, 2200] 0 40001 h (by omega) rfl (by decide) (by decide) (by decide))
  clear h
  go_enter Try.func35, Try.ntmps35
  go_wp2_with fail
  refine (HA.out _).mono ?_; rintro e w1 ⟨x, rfl, hx, hc, ht⟩
  have HC := Lib.hid hc; have HT := Lib.hid ht; have HX := Lib.hid hx
  clear hc ht hx HA
  go_wp2
  go_ret
  exact ⟨x, rfl, HX.out, HC.out, HT.out⟩

set_option maxRecDepth 100000 in
set_option maxHeartbeats 2000000 in
theorem cu_teamOf {B B0 n cap : Nat} {ao : Option Addr} {vs : List TmV} {w : World} (h : Cu w B n) (hn : n ≤ 900000) (hD : DrawnT B0 w vs ao cap) (hB : B < B0) :
    Calls Try.prog 36 #[.pointer (some ⟨B, 0, none⟩), .slice ao vs.length cap] w fun e w' => ∃ x : Int, e = .returned (.int .i64 x) ∧ (0 ≤ x ∧ x ≤ 100) ∧ Cu w' B (n + 2) ∧ Touch w w' (Span B (B + 1)) := by
  have hl8 := hD.len
  have HDD := Lib.hid hD
  by_cases h0 : vs.length = 0
  · have HA := Lib.hid (fun T => cu_lit (T := T) (cs := #[.int .i64 0, .int .i64 2, .int .i64 5, .int .i64 99]) [0, 2, 5, 99] 0 99 h (by omega) rfl (by decide) (by decide) (by decide))
    clear h hD
    rw [h0]
    go_enter Try.func36, Try.ntmps36
    go_wp2_with fail
    refine (HA.out _).mono ?_; rintro e w1 ⟨x, rfl, hx, hc, ht⟩
    have HC := Lib.hid hc; have HT := Lib.hid ht; have HX := Lib.hid hx
    clear hc ht hx HA
    go_wp2
    go_ret
    exact ⟨x, rfl, ⟨HX.out.1, by have := HX.out.2; omega⟩, HC.out.mono (by omega), HT.out⟩
  · have HO := Lib.hid (cu_one (N := 12) h (by omega) (by decide) (by decide))
    have h0i : ¬ (vs.length : Int) = 0 := by omega
    clear h hD
    go_enter Try.func36, Try.ntmps36
    go_wp2_with fail
    refine HO.out.mono ?_; rintro e w1 ⟨x, rfl, hc, ht⟩
    have HC1 := Lib.hid hc; have HT1 := Lib.hid ht; have HD1 := Lib.hid (HDD.out.curs ht hB)
    clear hc ht HO HDD
    cases x
    case true =>
      have HA := Lib.hid (fun T => cu_lit (T := T) (cs := #[.int .i64 0, .int .i64 2, .int .i64 5, .int .i64 99]) [0, 2, 5, 99] 0 99 HC1.out (by omega) rfl (by decide) (by decide) (by decide))
      go_wp2_with fail
      refine (HA.out _).mono ?_; rintro e w2 ⟨x, rfl, hx, hc, ht⟩
      have HC := Lib.hid hc; have HT := Lib.hid (HT1.out.trans ht); have HX := Lib.hid hx
      clear hc ht hx HA
      go_wp2
      go_ret
      exact ⟨x, rfl, ⟨HX.out.1, by have := HX.out.2; omega⟩, HC.out.mono (by omega), HT.out⟩
    case false =>
      have HP := Lib.hid (cu_pick (N := vs.length) HC1.out (by omega) (by omega) (by omega))
      go_wp2_with fail
      refine HP.out.mono ?_; rintro e w2 ⟨x, rfl, hx, hc, ht⟩
      obtain ⟨q, rfl⟩ := Int.eq_ofNat_of_zero_le hx.1
      have hq : q < vs.length := by have := hx.2; omega
      have HC := Lib.hid hc; have HT := Lib.hid (HT1.out.trans ht)
      have hD2 := HD1.out.curs ht hB
      obtain ⟨b, off, rfl, H⟩ := hD2.row (by omega)
      have d0 := H q hq 0 (by decide)
      simp only [TmV.c0, Nat.add_zero] at d0
      have HNUM := Lib.hid (hD2.num (nth vs q) (by simp [nth, hq]))
      have hq0 : (0 : Int) ≤ (q : Int) := by omega
      have hq1 : (q : Int) < (vs.length : Int) := by omega
      clear hc ht HP HD1 hD2 H hx
      go_wp2
      go_ret
      exact ⟨_, rfl, HNUM.out, HC.out, HT.out⟩

set_option maxRecDepth 100000 in
set_option maxHeartbeats 2000000 in
theorem draw_areteams {w : World} {co : Option Addr} {m cc : Nat} {bs : Nat → Nat} (hr : RowAt w co 1 m (by8 bs)) (hb : ∀ k, bs k < 256) (hm : m ≤ 9223372036854775807) :
    Calls Try.prog 48 #[.slice co m cc] w fun e w' => ∃ (ao : Option Addr) (cap : Nat) (vs : List TmV) (legs : Int), e = .returned (.tuple #[.slice ao vs.length cap, .int .i64 legs]) ∧ DrawnT w.heap.size w' vs ao cap ∧ I64 legs ∧ Ext w w' := by
  have H := Lib.hid (fun T => cu_teams (cu_box (cc := cc) (T := T) hr hb hm) (by omega))
  clear hr hb
  go_enter Try.func48, Try.ntmps48
  go_wp2_with fail
  refine (H.out _).mono ?_; rintro e w1 ⟨ao, cap, vs, legs, rfl, hD, bdlegs, hc, ht⟩
  have HD1 := Lib.hid hD; have HC1 := Lib.hid hc; have HT1 := Lib.hid ht; have Blegs : Hid (I64 legs) := Lib.hid ⟨by omega, by omega⟩
  clear hD hc ht H bdlegs
  go_wp2
  refine bodyPost_ret (v := .tuple #[.slice ao vs.length cap, .int .i64 legs]) (by simp [results, Try.results48, go_sem]) rfl ?_
  exact ⟨ao, cap, vs, legs, rfl, HD1.out.mono (by simp), Blegs.out, Touch.spanExt ((Ext.refl w).alloc _) HT1.out (Nat.le_refl _)⟩

set_option maxRecDepth 100000 in
set_option maxHeartbeats 2000000 in
theorem draw_startof {w : World} {co : Option Addr} {m cc : Nat} {bs : Nat → Nat} (hr : RowAt w co 1 m (by8 bs)) (hb : ∀ k, bs k < 256) (hm : m ≤ 9223372036854775807) :
    Calls Try.prog 6 #[.slice co m cc] w fun e w' => ∃ (ao : Option Addr) (cap : Nat) (vs : List TmV) (legs mass number leg : Int), e = .returned (.tuple #[.slice ao vs.length cap, .int .i64 legs, .int .i64 mass, .int .i64 number, .int .i64 leg]) ∧ DrawnT w.heap.size w' vs ao cap ∧ I64 legs ∧ I64 mass ∧ I64 number ∧ I64 leg ∧ Ext w w' := by
  have H := Lib.hid (fun T => cu_teams (cu_box (cc := cc) (T := T) hr hb hm) (by omega))
  clear hr hb
  go_enter Try.func6, Try.ntmps6
  go_wp2_with fail
  refine (H.out _).mono ?_; rintro e w1 ⟨ao, cap, vs, legs, rfl, hD, bdlegs, hc, ht⟩
  have HD1 := Lib.hid hD; have HC1 := Lib.hid hc; have HT1 := Lib.hid ht; have Blegs : Hid (I64 legs) := Lib.hid ⟨by omega, by omega⟩
  clear hD hc ht H bdlegs
  go_wp2_with fail
  refine (cu_mass HC1.out (by omega)).mono ?_; rintro e w2 ⟨mass, rfl, bdmass, hc, ht⟩
  have HD2 := Lib.hid (HD1.out.curs ht (by simp)); have HC2 := Lib.hid hc; have HT2 := Lib.hid (HT1.out.trans ht); have Bmass : Hid (I64 mass) := Lib.hid ⟨by omega, by omega⟩
  clear hc ht HD1 HC1 HT1 bdmass
  go_wp2_with fail
  refine (cu_teamOf HC2.out (by omega) HD2.out (by simp)).mono ?_; rintro e w3 ⟨number, rfl, bdnumber, hc, ht⟩
  have HD3 := Lib.hid (HD2.out.curs ht (by simp)); have HC3 := Lib.hid hc; have HT3 := Lib.hid (HT2.out.trans ht); have Bnumber : Hid (I64 number) := Lib.hid ⟨by omega, by omega⟩
  clear hc ht HD2 HC2 HT2 bdnumber
  go_wp2_with fail
  refine (cu_pick (N := 5) HC3.out (by omega) (by decide) (by decide)).mono ?_; rintro e w4 ⟨x, rfl, bdx, hc, ht⟩
  have HD4 := Lib.hid (HD3.out.curs ht (by simp)); have HC4 := Lib.hid hc; have HT4 := Lib.hid (HT3.out.trans ht)
  clear hc ht HD3 HC3 HT3
  go_wp2_with fail
  refine (cu_pick (N := 9) HC4.out (by omega) (by decide) (by decide)).mono ?_; rintro e w5 ⟨y, rfl, bdy, hc, ht⟩
  have HD5 := Lib.hid (HD4.out.curs ht (by simp)); have HC5 := Lib.hid hc; have HT5 := Lib.hid (HT4.out.trans ht)
  clear hc ht HD4 HC4 HT4
  have hx0 := bdx.1; have hx1 := bdx.2; have hy0 := bdy.1; have hy1 := bdy.2
  clear bdx bdy
  have Bleg : Hid (I64 (x - y / 8)) := Lib.hid ⟨by omega, by omega⟩
  go_wp2
  refine bodyPost_ret (v := .tuple #[.slice ao vs.length cap, .int .i64 legs, .int .i64 mass, .int .i64 number, .int .i64 (x - y / 8)]) (by simp [results, Try.results6, go_sem]) rfl ?_
  exact ⟨ao, cap, vs, legs, mass, number, (x - y / 8), rfl, HD5.out.mono (by simp), Blegs.out, Bmass.out, Bnumber.out, Bleg.out, Touch.spanExt ((Ext.refl w).alloc _) HT5.out (Nat.le_refl _)⟩

set_option maxRecDepth 100000 in
set_option maxHeartbeats 2000000 in
theorem draw_teamtime {w : World} {co : Option Addr} {m cc : Nat} {bs : Nat → Nat} (hr : RowAt w co 1 m (by8 bs)) (hb : ∀ k, bs k < 256) (hm : m ≤ 9223372036854775807) :
    Calls Try.prog 17 #[.slice co m cc] w fun e w' => ∃ (ao : Option Addr) (cap : Nat) (vs : List TmV) (legs number : Int), e = .returned (.tuple #[.slice ao vs.length cap, .int .i64 legs, .int .i64 number]) ∧ DrawnT w.heap.size w' vs ao cap ∧ I64 legs ∧ I64 number ∧ Ext w w' := by
  have H := Lib.hid (fun T => cu_teams (cu_box (cc := cc) (T := T) hr hb hm) (by omega))
  clear hr hb
  go_enter Try.func17, Try.ntmps17
  go_wp2_with fail
  refine (H.out _).mono ?_; rintro e w1 ⟨ao, cap, vs, legs, rfl, hD, bdlegs, hc, ht⟩
  have HD1 := Lib.hid hD; have HC1 := Lib.hid hc; have HT1 := Lib.hid ht; have Blegs : Hid (I64 legs) := Lib.hid ⟨by omega, by omega⟩
  clear hD hc ht H bdlegs
  go_wp2_with fail
  refine (cu_teamOf HC1.out (by omega) HD1.out (by simp)).mono ?_; rintro e w2 ⟨number, rfl, bdnumber, hc, ht⟩
  have HD2 := Lib.hid (HD1.out.curs ht (by simp)); have HC2 := Lib.hid hc; have HT2 := Lib.hid (HT1.out.trans ht); have Bnumber : Hid (I64 number) := Lib.hid ⟨by omega, by omega⟩
  clear hc ht HD1 HC1 HT1 bdnumber
  go_wp2
  refine bodyPost_ret (v := .tuple #[.slice ao vs.length cap, .int .i64 legs, .int .i64 number]) (by simp [results, Try.results17, go_sem]) rfl ?_
  exact ⟨ao, cap, vs, legs, number, rfl, HD2.out.mono (by simp), Blegs.out, Bnumber.out, Touch.spanExt ((Ext.refl w).alloc _) HT2.out (Nat.le_refl _)⟩

set_option maxRecDepth 100000 in
set_option maxHeartbeats 2000000 in
theorem draw_leader {w : World} {co : Option Addr} {m cc : Nat} {bs : Nat → Nat} (hr : RowAt w co 1 m (by8 bs)) (hb : ∀ k, bs k < 256) (hm : m ≤ 9223372036854775807) :
    Calls Try.prog 23 #[.slice co m cc] w fun e w' => ∃ (ao : Option Addr) (cap : Nat) (vs : List TmV) (legs mass leg : Int), e = .returned (.tuple #[.slice ao vs.length cap, .int .i64 legs, .int .i64 mass, .int .i64 leg]) ∧ DrawnT w.heap.size w' vs ao cap ∧ I64 legs ∧ I64 mass ∧ I64 leg ∧ Ext w w' := by
  have H := Lib.hid (fun T => cu_teams (cu_box (cc := cc) (T := T) hr hb hm) (by omega))
  clear hr hb
  go_enter Try.func23, Try.ntmps23
  go_wp2_with fail
  refine (H.out _).mono ?_; rintro e w1 ⟨ao, cap, vs, legs, rfl, hD, bdlegs, hc, ht⟩
  have HD1 := Lib.hid hD; have HC1 := Lib.hid hc; have HT1 := Lib.hid ht; have Blegs : Hid (I64 legs) := Lib.hid ⟨by omega, by omega⟩
  clear hD hc ht H bdlegs
  go_wp2_with fail
  refine (cu_mass HC1.out (by omega)).mono ?_; rintro e w2 ⟨mass, rfl, bdmass, hc, ht⟩
  have HD2 := Lib.hid (HD1.out.curs ht (by simp)); have HC2 := Lib.hid hc; have HT2 := Lib.hid (HT1.out.trans ht); have Bmass : Hid (I64 mass) := Lib.hid ⟨by omega, by omega⟩
  clear hc ht HD1 HC1 HT1 bdmass
  go_wp2_with fail
  refine (cu_pick (N := 5) HC2.out (by omega) (by decide) (by decide)).mono ?_; rintro e w3 ⟨x, rfl, bdx, hc, ht⟩
  have HD3 := Lib.hid (HD2.out.curs ht (by simp)); have HC3 := Lib.hid hc; have HT3 := Lib.hid (HT2.out.trans ht)
  clear hc ht HD2 HC2 HT2
  go_wp2_with fail
  refine (cu_pick (N := 9) HC3.out (by omega) (by decide) (by decide)).mono ?_; rintro e w4 ⟨y, rfl, bdy, hc, ht⟩
  have HD4 := Lib.hid (HD3.out.curs ht (by simp)); have HC4 := Lib.hid hc; have HT4 := Lib.hid (HT3.out.trans ht)
  clear hc ht HD3 HC3 HT3
  have hx0 := bdx.1; have hx1 := bdx.2; have hy0 := bdy.1; have hy1 := bdy.2
  clear bdx bdy
  have Bleg : Hid (I64 (x - y / 8)) := Lib.hid ⟨by omega, by omega⟩
  go_wp2
  refine bodyPost_ret (v := .tuple #[.slice ao vs.length cap, .int .i64 legs, .int .i64 mass, .int .i64 (x - y / 8)]) (by simp [results, Try.results23, go_sem]) rfl ?_
  exact ⟨ao, cap, vs, legs, mass, (x - y / 8), rfl, HD4.out.mono (by simp), Blegs.out, Bmass.out, Bleg.out, Touch.spanExt ((Ext.refl w).alloc _) HT4.out (Nat.le_refl _)⟩

set_option maxRecDepth 100000 in
set_option maxHeartbeats 2000000 in
theorem draw_massst {w : World} {co : Option Addr} {m cc : Nat} {bs : Nat → Nat} (hr : RowAt w co 1 m (by8 bs)) (hb : ∀ k, bs k < 256) (hm : m ≤ 9223372036854775807) :
    Calls Try.prog 19 #[.slice co m cc] w fun e w' => ∃ (ao : Option Addr) (cap : Nat) (vs : List TmV) (legs mass : Int), e = .returned (.tuple #[.slice ao vs.length cap, .int .i64 legs, .int .i64 mass]) ∧ DrawnT w.heap.size w' vs ao cap ∧ I64 legs ∧ I64 mass ∧ Ext w w' := by
  have H := Lib.hid (fun T => cu_teams (cu_box (cc := cc) (T := T) hr hb hm) (by omega))
  clear hr hb
  go_enter Try.func19, Try.ntmps19
  go_wp2_with fail
  refine (H.out _).mono ?_; rintro e w1 ⟨ao, cap, vs, legs, rfl, hD, bdlegs, hc, ht⟩
  have HD1 := Lib.hid hD; have HC1 := Lib.hid hc; have HT1 := Lib.hid ht; have Blegs : Hid (I64 legs) := Lib.hid ⟨by omega, by omega⟩
  clear hD hc ht H bdlegs
  go_wp2_with fail
  refine (cu_mass HC1.out (by omega)).mono ?_; rintro e w2 ⟨mass, rfl, bdmass, hc, ht⟩
  have HD2 := Lib.hid (HD1.out.curs ht (by simp)); have HC2 := Lib.hid hc; have HT2 := Lib.hid (HT1.out.trans ht); have Bmass : Hid (I64 mass) := Lib.hid ⟨by omega, by omega⟩
  clear hc ht HD1 HC1 HT1 bdmass
  go_wp2
  refine bodyPost_ret (v := .tuple #[.slice ao vs.length cap, .int .i64 legs, .int .i64 mass]) (by simp [results, Try.results19, go_sem]) rfl ?_
  exact ⟨ao, cap, vs, legs, mass, rfl, HD2.out.mono (by simp), Blegs.out, Bmass.out, Touch.spanExt ((Ext.refl w).alloc _) HT2.out (Nat.le_refl _)⟩

set_option maxRecDepth 100000 in
set_option maxHeartbeats 2000000 in
theorem draw_addleg {w : World} {co : Option Addr} {m cc : Nat} {bs : Nat → Nat} (hr : RowAt w co 1 m (by8 bs)) (hb : ∀ k, bs k < 256) (hm : m ≤ 9223372036854775807) :
    Calls Try.prog 26 #[.slice co m cc] w fun e w' => ∃ (ao : Option Addr) (cap : Nat) (vs : List TmV) (legs number time : Int), e = .returned (.tuple #[.slice ao vs.length cap, .int .i64 legs, .int .i64 number, .int .i64 time]) ∧ DrawnT w.heap.size w' vs ao cap ∧ I64 legs ∧ I64 number ∧ I64 time ∧ Ext w w' := by
  have H := Lib.hid (fun T => cu_teams (cu_box (cc := cc) (T := T) hr hb hm) (by omega))
  clear hr hb
  go_enter Try.func26, Try.ntmps26
  go_wp2_with fail
  refine (H.out _).mono ?_; rintro e w1 ⟨ao, cap, vs, legs, rfl, hD, bdlegs, hc, ht⟩
  have HD1 := Lib.hid hD; have HC1 := Lib.hid hc; have HT1 := Lib.hid ht; have Blegs : Hid (I64 legs) := Lib.hid ⟨by omega, by omega⟩
  clear hD hc ht H bdlegs
  go_wp2_with fail
  refine (cu_teamOf HC1.out (by omega) HD1.out (by simp)).mono ?_; rintro e w2 ⟨number, rfl, bdnumber, hc, ht⟩
  have HD2 := Lib.hid (HD1.out.curs ht (by simp)); have HC2 := Lib.hid hc; have HT2 := Lib.hid (HT1.out.trans ht); have Bnumber : Hid (I64 number) := Lib.hid ⟨by omega, by omega⟩
  clear hc ht HD1 HC1 HT1 bdnumber
  go_wp2_with fail
  refine (cu_lit (cs := #[.int .i64 0, .int .i64 800, .int .i64 1200, .int .i64 10000, .int .i64 10001, .int .i64 (-1)]) [0, 800, 1200, 10000, 10001, -1] (-1) 10001 HC2.out (by omega) rfl (by decide) (by decide) (by decide)).mono ?_; rintro e w3 ⟨time, rfl, bdtime, hc, ht⟩
  have HD3 := Lib.hid (HD2.out.curs ht (by simp)); have HC3 := Lib.hid hc; have HT3 := Lib.hid (HT2.out.trans ht); have Btime : Hid (I64 time) := Lib.hid ⟨by omega, by omega⟩
  clear hc ht HD2 HC2 HT2 bdtime
  go_wp2
  refine bodyPost_ret (v := .tuple #[.slice ao vs.length cap, .int .i64 legs, .int .i64 number, .int .i64 time]) (by simp [results, Try.results26, go_sem]) rfl ?_
  exact ⟨ao, cap, vs, legs, number, time, rfl, HD3.out.mono (by simp), Blegs.out, Bnumber.out, Btime.out, Touch.spanExt ((Ext.refl w).alloc _) HT3.out (Nat.le_refl _)⟩

set_option maxRecDepth 100000 in
set_option maxHeartbeats 2000000 in
theorem draw_fastest {w : World} {co : Option Addr} {m cc : Nat} {bs : Nat → Nat} (hr : RowAt w co 1 m (by8 bs)) (hb : ∀ k, bs k < 256) (hm : m ≤ 9223372036854775807) :
    Calls Try.prog 30 #[.slice co m cc] w fun e w' => ∃ (ao : Option Addr) (cap : Nat) (vs : List TmV) (legs leg : Int), e = .returned (.tuple #[.slice ao vs.length cap, .int .i64 legs, .int .i64 leg]) ∧ DrawnT w.heap.size w' vs ao cap ∧ I64 legs ∧ I64 leg ∧ Ext w w' := by
  have H := Lib.hid (fun T => cu_teams (cu_box (cc := cc) (T := T) hr hb hm) (by omega))
  clear hr hb
  go_enter Try.func30, Try.ntmps30
  go_wp2_with fail
  refine (H.out _).mono ?_; rintro e w1 ⟨ao, cap, vs, legs, rfl, hD, bdlegs, hc, ht⟩
  have HD1 := Lib.hid hD; have HC1 := Lib.hid hc; have HT1 := Lib.hid ht; have Blegs : Hid (I64 legs) := Lib.hid ⟨by omega, by omega⟩
  clear hD hc ht H bdlegs
  go_wp2_with fail
  refine (cu_pick (N := 5) HC1.out (by omega) (by decide) (by decide)).mono ?_; rintro e w2 ⟨x, rfl, bdx, hc, ht⟩
  have HD2 := Lib.hid (HD1.out.curs ht (by simp)); have HC2 := Lib.hid hc; have HT2 := Lib.hid (HT1.out.trans ht)
  clear hc ht HD1 HC1 HT1
  go_wp2_with fail
  refine (cu_pick (N := 9) HC2.out (by omega) (by decide) (by decide)).mono ?_; rintro e w3 ⟨y, rfl, bdy, hc, ht⟩
  have HD3 := Lib.hid (HD2.out.curs ht (by simp)); have HC3 := Lib.hid hc; have HT3 := Lib.hid (HT2.out.trans ht)
  clear hc ht HD2 HC2 HT2
  have hx0 := bdx.1; have hx1 := bdx.2; have hy0 := bdy.1; have hy1 := bdy.2
  clear bdx bdy
  have Bleg : Hid (I64 (x - y / 8)) := Lib.hid ⟨by omega, by omega⟩
  go_wp2
  refine bodyPost_ret (v := .tuple #[.slice ao vs.length cap, .int .i64 legs, .int .i64 (x - y / 8)]) (by simp [results, Try.results30, go_sem]) rfl ?_
  exact ⟨ao, cap, vs, legs, (x - y / 8), rfl, HD3.out.mono (by simp), Blegs.out, Bleg.out, Touch.spanExt ((Ext.refl w).alloc _) HT3.out (Nat.le_refl _)⟩

set_option maxRecDepth 100000 in
set_option maxHeartbeats 2000000 in
theorem draw_comes {w : World} {co : Option Addr} {m cc : Nat} {bs : Nat → Nat} (hr : RowAt w co 1 m (by8 bs)) (hb : ∀ k, bs k < 256) (hm : m ≤ 9223372036854775807) :
    Calls Try.prog 33 #[.slice co m cc] w fun e w' => ∃ (ao : Option Addr) (cap : Nat) (vs : List TmV) (legs mass number leg : Int), e = .returned (.tuple #[.slice ao vs.length cap, .int .i64 legs, .int .i64 mass, .int .i64 number, .int .i64 leg]) ∧ DrawnT w.heap.size w' vs ao cap ∧ I64 legs ∧ I64 mass ∧ I64 number ∧ I64 leg ∧ Ext w w' := by
  have H := Lib.hid (draw_startof (cc := cc) hr hb hm)
  clear hr hb
  go_enter Try.func33, Try.ntmps33
  go_wp2_with fail
  refine H.out.mono ?_; rintro e w1 ⟨ao, cap, vs, legs, mass, number, leg, rfl, hD, bdlegs, bdmass, bdnumber, bdleg, hx⟩
  have HD1 := Lib.hid hD; have HX := Lib.hid hx; have Blegs := Lib.hid bdlegs; have Bmass := Lib.hid bdmass; have Bnumber := Lib.hid bdnumber; have Bleg := Lib.hid bdleg
  clear hD hx H bdlegs bdmass bdnumber bdleg
  go_wp2
  refine bodyPost_ret (v := .tuple #[.slice ao vs.length cap, .int .i64 legs, .int .i64 mass, .int .i64 number, .int .i64 leg]) (by simp [results, Try.results33, go_sem]) rfl ?_
  exact ⟨ao, cap, vs, legs, mass, number, leg, rfl, HD1.out, Blegs.out, Bmass.out, Bnumber.out, Bleg.out, HX.out⟩

set_option maxRecDepth 100000 in
set_option maxHeartbeats 2000000 in
theorem draw_rorder {w : World} {co : Option Addr} {m cc : Nat} {bs : Nat → Nat} (hr : RowAt w co 1 m (by8 bs)) (hb : ∀ k, bs k < 256) (hm : m ≤ 9223372036854775807) :
    Calls Try.prog 11 #[.slice co m cc] w fun e w' => ∃ (ao : Option Addr) (cap : Nat) (vs : List TmV) (legs : Int), e = .returned (.tuple #[.slice ao vs.length cap, .int .i64 legs]) ∧ DrawnT w.heap.size w' vs ao cap ∧ I64 legs ∧ Ext w w' := by
  have H := Lib.hid (draw_areteams (cc := cc) hr hb hm)
  clear hr hb
  go_enter Try.func11, Try.ntmps11
  go_wp2_with fail
  refine H.out.mono ?_; rintro e w1 ⟨ao, cap, vs, legs, rfl, hD, bdlegs, hx⟩
  have HD1 := Lib.hid hD; have HX := Lib.hid hx; have Blegs := Lib.hid bdlegs
  clear hD hx H bdlegs
  go_wp2
  refine bodyPost_ret (v := .tuple #[.slice ao vs.length cap, .int .i64 legs]) (by simp [results, Try.results11, go_sem]) rfl ?_
  exact ⟨ao, cap, vs, legs, rfl, HD1.out, Blegs.out, HX.out⟩

end Go.Proofs.Ytlpogglcbphilaa
