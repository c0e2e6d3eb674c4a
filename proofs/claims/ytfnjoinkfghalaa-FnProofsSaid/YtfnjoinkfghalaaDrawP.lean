/-
  Proved here: what the draws of proofs hand back.
  Conditions: the bytes' length fits an int.
-/
import Derived.Test.YtfnjoinkfghalaaCurP
namespace Go.Proofs.Ytfnjoinkfghalaa
open Go.RowKit

set_option maxRecDepth 100000 in
set_option maxHeartbeats 2000000 in
theorem draw_areproofs {w : World} {co : Option Addr} {m cc : Nat} {bs : Nat → Nat} (hr : RowAt w co 1 m (by8 bs)) (hb : ∀ k, bs k < 256) (hm : m ≤ 9223372036854775807) :
    Calls Try.prog 78 #[.slice co m cc] w fun e w' => ∃ (ao : Option Addr) (cap : Nat) (xs : List Prf), e = .returned (.slice ao xs.length cap) ∧ DrawnPrfs w.heap.size w' xs ao cap ∧ Ext w w' := by
  have H := Lib.hid (fun T => cu_proofs (cu_box (cc := cc) (T := T) hr hb hm) (by omega))
  clear hr hb
  go_enter Try.func78, Try.ntmps78
  go_wp2_with fail
  refine (H.out _).mono ?_; rintro e w1 ⟨ao, cap, xs, rfl, hD, hc, ht⟩
  have HD1 := Lib.hid hD; have HC1 := Lib.hid hc; have HT1 := Lib.hid ht
  clear hD hc ht H
  go_wp2
  refine bodyPost_ret (v := .slice ao xs.length cap) (by simp [results, Try.results78, go_sem]) rfl ?_
  exact ⟨ao, cap, xs, rfl, HD1.out.mono (by simp), Touch.spanExt ((Ext.refl w).alloc _) HT1.out (Nat.le_refl _)⟩

set_option maxRecDepth 100000 in
set_option maxHeartbeats 2000000 in
theorem draw_balance {w : World} {co : Option Addr} {m cc : Nat} {bs : Nat → Nat} (hr : RowAt w co 1 m (by8 bs)) (hb : ∀ k, bs k < 256) (hm : m ≤ 9223372036854775807) :
    Calls Try.prog 28 #[.slice co m cc] w fun e w' => ∃ (ao : Option Addr) (cap : Nat) (xs : List Prf) (r c : Int), e = .returned (.tuple #[.slice ao xs.length cap, .int .i64 r, .int .i64 c]) ∧ DrawnPrfs w.heap.size w' xs ao cap ∧ I64 r ∧ I64 c ∧ Ext w w' := by
  have H := Lib.hid (fun T => cu_proofs (cu_box (cc := cc) (T := T) hr hb hm) (by omega))
  clear hr hb
  go_enter Try.func28, Try.ntmps28
  go_wp2_with fail
  refine (H.out _).mono ?_; rintro e w1 ⟨ao, cap, xs, rfl, hD, hc, ht⟩
  have HD1 := Lib.hid hD; have HC1 := Lib.hid hc; have HT1 := Lib.hid ht
  clear hD hc ht H
  go_wp2_with fail
  refine (cu_runner14 HC1.out (by omega)).mono ?_; rintro e w2 ⟨r, rfl, bdr, hc, ht⟩
  have HD2 := Lib.hid (HD1.out.curs ht (by simp)); have HC2 := Lib.hid hc; have HT2 := Lib.hid (HT1.out.trans ht); have Br : Hid (I64 r) := Lib.hid ⟨by omega, by omega⟩
  clear hc ht HD1 HC1 HT1 bdr
  go_wp2_with fail
  refine (cu_code14 HC2.out (by omega)).mono ?_; rintro e w3 ⟨c, rfl, bdc, hc, ht⟩
  have HD3 := Lib.hid (HD2.out.curs ht (by simp)); have HC3 := Lib.hid hc; have HT3 := Lib.hid (HT2.out.trans ht); have Bc : Hid (I64 c) := Lib.hid ⟨by omega, by omega⟩
  clear hc ht HD2 HC2 HT2 bdc
  go_wp2
  refine bodyPost_ret (v := .tuple #[.slice ao xs.length cap, .int .i64 r, .int .i64 c]) (by simp [results, Try.results28, go_sem]) rfl ?_
  exact ⟨ao, cap, xs, r, c, rfl, HD3.out.mono (by simp), Br.out, Bc.out, Touch.spanExt ((Ext.refl w).alloc _) HT3.out (Nat.le_refl _)⟩

set_option maxRecDepth 100000 in
set_option maxHeartbeats 2000000 in
theorem draw_isbel {w : World} {co : Option Addr} {m cc : Nat} {bs : Nat → Nat} (hr : RowAt w co 1 m (by8 bs)) (hb : ∀ k, bs k < 256) (hm : m ≤ 9223372036854775807) :
    Calls Try.prog 55 #[.slice co m cc] w fun e w' => ∃ (ao : Option Addr) (cap : Nat) (xs : List Prf) (r c l : Int), e = .returned (.tuple #[.slice ao xs.length cap, .int .i64 r, .int .i64 c, .int .i64 l]) ∧ DrawnPrfs w.heap.size w' xs ao cap ∧ I64 r ∧ I64 c ∧ I64 l ∧ Ext w w' := by
  have H := Lib.hid (fun T => cu_proofs (cu_box (cc := cc) (T := T) hr hb hm) (by omega))
  clear hr hb
  go_enter Try.func55, Try.ntmps55
  go_wp2_with fail
  refine (H.out _).mono ?_; rintro e w1 ⟨ao, cap, xs, rfl, hD, hc, ht⟩
  have HD1 := Lib.hid hD; have HC1 := Lib.hid hc; have HT1 := Lib.hid ht
  clear hD hc ht H
  go_wp2_with fail
  refine (cu_runner14 HC1.out (by omega)).mono ?_; rintro e w2 ⟨r, rfl, bdr, hc, ht⟩
  have HD2 := Lib.hid (HD1.out.curs ht (by simp)); have HC2 := Lib.hid hc; have HT2 := Lib.hid (HT1.out.trans ht); have Br : Hid (I64 r) := Lib.hid ⟨by omega, by omega⟩
  clear hc ht HD1 HC1 HT1 bdr
  go_wp2_with fail
  refine (cu_code14 HC2.out (by omega)).mono ?_; rintro e w3 ⟨c, rfl, bdc, hc, ht⟩
  have HD3 := Lib.hid (HD2.out.curs ht (by simp)); have HC3 := Lib.hid hc; have HT3 := Lib.hid (HT2.out.trans ht); have Bc : Hid (I64 c) := Lib.hid ⟨by omega, by omega⟩
  clear hc ht HD2 HC2 HT2 bdc
  go_wp2_with fail
  refine (cu_limit14 HC3.out (by omega)).mono ?_; rintro e w4 ⟨l, rfl, bdl, hc, ht⟩
  have HD4 := Lib.hid (HD3.out.curs ht (by simp)); have HC4 := Lib.hid hc; have HT4 := Lib.hid (HT3.out.trans ht); have Bl : Hid (I64 l) := Lib.hid ⟨by omega, by omega⟩
  clear hc ht HD3 HC3 HT3 bdl
  go_wp2
  refine bodyPost_ret (v := .tuple #[.slice ao xs.length cap, .int .i64 r, .int .i64 c, .int .i64 l]) (by simp [results, Try.results55, go_sem]) rfl ?_
  exact ⟨ao, cap, xs, r, c, l, rfl, HD4.out.mono (by simp), Br.out, Bc.out, Bl.out, Touch.spanExt ((Ext.refl w).alloc _) HT4.out (Nat.le_refl _)⟩

set_option maxRecDepth 100000 in
set_option maxHeartbeats 2000000 in
theorem draw_codes {w : World} {co : Option Addr} {m cc : Nat} {bs : Nat → Nat} (hr : RowAt w co 1 m (by8 bs)) (hb : ∀ k, bs k < 256) (hm : m ≤ 9223372036854775807) :
    Calls Try.prog 22 #[.slice co m cc] w fun e w' => ∃ (ao : Option Addr) (cap : Nat) (xs : List Prf) (r l : Int), e = .returned (.tuple #[.slice ao xs.length cap, .int .i64 r, .int .i64 l]) ∧ DrawnPrfs w.heap.size w' xs ao cap ∧ I64 r ∧ I64 l ∧ Ext w w' := by
  have H := Lib.hid (fun T => cu_proofs (cu_box (cc := cc) (T := T) hr hb hm) (by omega))
  clear hr hb
  go_enter Try.func22, Try.ntmps22
  go_wp2_with fail
  refine (H.out _).mono ?_; rintro e w1 ⟨ao, cap, xs, rfl, hD, hc, ht⟩
  have HD1 := Lib.hid hD; have HC1 := Lib.hid hc; have HT1 := Lib.hid ht
  clear hD hc ht H
  go_wp2_with fail
  refine (cu_runner14 HC1.out (by omega)).mono ?_; rintro e w2 ⟨r, rfl, bdr, hc, ht⟩
  have HD2 := Lib.hid (HD1.out.curs ht (by simp)); have HC2 := Lib.hid hc; have HT2 := Lib.hid (HT1.out.trans ht); have Br : Hid (I64 r) := Lib.hid ⟨by omega, by omega⟩
  clear hc ht HD1 HC1 HT1 bdr
  go_wp2_with fail
  refine (cu_limit14 HC2.out (by omega)).mono ?_; rintro e w3 ⟨l, rfl, bdl, hc, ht⟩
  have HD3 := Lib.hid (HD2.out.curs ht (by simp)); have HC3 := Lib.hid hc; have HT3 := Lib.hid (HT2.out.trans ht); have Bl : Hid (I64 l) := Lib.hid ⟨by omega, by omega⟩
  clear hc ht HD2 HC2 HT2 bdl
  go_wp2
  refine bodyPost_ret (v := .tuple #[.slice ao xs.length cap, .int .i64 r, .int .i64 l]) (by simp [results, Try.results22, go_sem]) rfl ?_
  exact ⟨ao, cap, xs, r, l, rfl, HD3.out.mono (by simp), Br.out, Bl.out, Touch.spanExt ((Ext.refl w).alloc _) HT3.out (Nat.le_refl _)⟩

set_option maxRecDepth 100000 in
set_option maxHeartbeats 2000000 in
theorem draw_lacks {w : World} {co : Option Addr} {m cc : Nat} {bs : Nat → Nat} (hr : RowAt w co 1 m (by8 bs)) (hb : ∀ k, bs k < 256) (hm : m ≤ 9223372036854775807) :
    Calls Try.prog 16 #[.slice co m cc] w fun e w' => ∃ (ao : Option Addr) (cap : Nat) (xs : List Prf) (r c l : Int), e = .returned (.tuple #[.slice ao xs.length cap, .int .i64 r, .int .i64 c, .int .i64 l]) ∧ DrawnPrfs w.heap.size w' xs ao cap ∧ I64 r ∧ I64 c ∧ I64 l ∧ Ext w w' := by
  have H := Lib.hid (draw_isbel (cc := cc) hr hb hm)
  clear hr hb
  go_enter Try.func16, Try.ntmps16
  go_wp2_with fail
  refine H.out.mono ?_; rintro e w1 ⟨ao, cap, xs, r, c, l, rfl, hD, bdr, bdc, bdl, hx⟩
  have HD1 := Lib.hid hD; have HX := Lib.hid hx; have Br := Lib.hid bdr; have Bc := Lib.hid bdc; have Bl := Lib.hid bdl
  clear hD hx H bdr bdc bdl
  go_wp2
  refine bodyPost_ret (v := .tuple #[.slice ao xs.length cap, .int .i64 r, .int .i64 c, .int .i64 l]) (by simp [results, Try.results16, go_sem]) rfl ?_
  exact ⟨ao, cap, xs, r, c, l, rfl, HD1.out, Br.out, Bc.out, Bl.out, HX.out⟩

set_option maxRecDepth 100000 in
set_option maxHeartbeats 2000000 in
theorem draw_strong {w : World} {co : Option Addr} {m cc : Nat} {bs : Nat → Nat} (hr : RowAt w co 1 m (by8 bs)) (hb : ∀ k, bs k < 256) (hm : m ≤ 9223372036854775807) :
    Calls Try.prog 37 #[.slice co m cc] w fun e w' => ∃ (ao : Option Addr) (cap : Nat) (xs : List Prf) (r c : Int), e = .returned (.tuple #[.slice ao xs.length cap, .int .i64 r, .int .i64 c]) ∧ DrawnPrfs w.heap.size w' xs ao cap ∧ I64 r ∧ I64 c ∧ Ext w w' := by
  have H := Lib.hid (draw_balance (cc := cc) hr hb hm)
  clear hr hb
  go_enter Try.func37, Try.ntmps37
  go_wp2_with fail
  refine H.out.mono ?_; rintro e w1 ⟨ao, cap, xs, r, c, rfl, hD, bdr, bdc, hx⟩
  have HD1 := Lib.hid hD; have HX := Lib.hid hx; have Br := Lib.hid bdr; have Bc := Lib.hid bdc
  clear hD hx H bdr bdc
  go_wp2
  refine bodyPost_ret (v := .tuple #[.slice ao xs.length cap, .int .i64 r, .int .i64 c]) (by simp [results, Try.results37, go_sem]) rfl ?_
  exact ⟨ao, cap, xs, r, c, rfl, HD1.out, Br.out, Bc.out, HX.out⟩

set_option maxRecDepth 100000 in
set_option maxHeartbeats 2000000 in
theorem draw_contra {w : World} {co : Option Addr} {m cc : Nat} {bs : Nat → Nat} (hr : RowAt w co 1 m (by8 bs)) (hb : ∀ k, bs k < 256) (hm : m ≤ 9223372036854775807) :
    Calls Try.prog 30 #[.slice co m cc] w fun e w' => ∃ (ao : Option Addr) (cap : Nat) (xs : List Prf), e = .returned (.slice ao xs.length cap) ∧ DrawnPrfs w.heap.size w' xs ao cap ∧ Ext w w' := by
  have H := Lib.hid (draw_areproofs (cc := cc) hr hb hm)
  clear hr hb
  go_enter Try.func30, Try.ntmps30
  go_wp2_with fail
  refine H.out.mono ?_; rintro e w1 ⟨ao, cap, xs, rfl, hD, hx⟩
  have HD1 := Lib.hid hD; have HX := Lib.hid hx
  clear hD hx H
  go_wp2
  refine bodyPost_ret (v := .slice ao xs.length cap) (by simp [results, Try.results30, go_sem]) rfl ?_
  exact ⟨ao, cap, xs, rfl, HD1.out, HX.out⟩

set_option maxRecDepth 100000 in
set_option maxHeartbeats 2000000 in
theorem draw_weak {w : World} {co : Option Addr} {m cc : Nat} {bs : Nat → Nat} (hr : RowAt w co 1 m (by8 bs)) (hb : ∀ k, bs k < 256) (hm : m ≤ 9223372036854775807) :
    Calls Try.prog 33 #[.slice co m cc] w fun e w' => ∃ (ao : Option Addr) (cap : Nat) (xs : List Prf) (l : Int), e = .returned (.tuple #[.slice ao xs.length cap, .int .i64 l]) ∧ DrawnPrfs w.heap.size w' xs ao cap ∧ I64 l ∧ Ext w w' := by
  have H := Lib.hid (fun T => cu_proofs (cu_box (cc := cc) (T := T) hr hb hm) (by omega))
  clear hr hb
  go_enter Try.func33, Try.ntmps33
  go_wp2_with fail
  refine (H.out _).mono ?_; rintro e w1 ⟨ao, cap, xs, rfl, hD, hc, ht⟩
  have hBl := hc.lt
  have hx0 := fun T => (Ext.refl w1).alloc (.cells #[.int .i64 1, .int .i64 2, .int .i64 5, .int .i64 10, .int .i64 0, .int .i64 11] T)
  have hr0 := fun T => lit_ints (w := w1) (T := T) (cs := #[.int .i64 1, .int .i64 2, .int .i64 5, .int .i64 10, .int .i64 0, .int .i64 11]) [1, 2, 5, 10, 0, 11] rfl
  have HP := Lib.hid (fun T => cu_pick (N := 24) (hc.ext (hx0 T)) (by omega) (by decide) (by decide))
  have HX0 := Lib.hid hx0; have HR0 := Lib.hid hr0
  have HD1 := Lib.hid hD; have HT1 := Lib.hid ht
  clear hD hc ht H hx0 hr0
  go_wp2_with fail
  refine (HP.out _).mono ?_; rintro e w2 ⟨y, rfl, hy, hc, ht⟩
  have HC2 := Lib.hid hc; have HT2 := Lib.hid (HT1.out.trans ((Touch.of_ext (HX0.out _)).trans ht))
  have HD2 := Lib.hid ((HD1.out.ext (HX0.out _)).curs ht (by simp))
  have HR2 := Lib.hid ((HR0.out _).curs ht hBl)
  have h3 : y / 11 = 0 ∨ y / 11 = 1 ∨ y / 11 = 2 := by omega
  have hy0 := hy.1
  clear hc ht HX0 HR0 HP hy HD1 HT1
  rcases h3 with h3 | h3 | h3
  all_goals
    go_wp2_with fail
    refine (cu_cut [1, 2, 5, 10, 0, 11] 0 11 HC2.out (by omega) HR2.out hBl (by decide) (by decide) (by decide) (by decide)).mono ?_
    rintro e w3 ⟨x, rfl, hx, hc, ht⟩
    have HD3 := Lib.hid (HD2.out.curs ht (by simp)); have HT3 := Lib.hid (HT2.out.trans ht); have HX : Hid (I64 x) := Lib.hid ⟨by omega, by omega⟩
    clear hc ht hx h3
    go_wp2
    refine bodyPost_ret (v := .tuple #[.slice ao xs.length cap, .int .i64 x]) (by simp [results, Try.results33, go_sem]) rfl ?_
    exact ⟨ao, cap, xs, x, rfl, HD3.out.mono (by simp), HX.out, Touch.spanExt ((Ext.refl w).alloc _) HT3.out (Nat.le_refl _)⟩

set_option maxRecDepth 100000 in
set_option maxHeartbeats 2000000 in
theorem draw_addp {w : World} {co : Option Addr} {m cc : Nat} {bs : Nat → Nat} (hr : RowAt w co 1 m (by8 bs)) (hb : ∀ k, bs k < 256) (hm : m ≤ 9223372036854775807) :
    Calls Try.prog 39 #[.slice co m cc] w fun e w' => ∃ (ao : Option Addr) (cap : Nat) (xs : List Prf) (p : Prf), e = .returned (.tuple #[.slice ao xs.length cap, p.val]) ∧ DrawnPrfs w.heap.size w' xs ao cap ∧ prOk p ∧ Ext w w' := by
  have hx0 := (Ext.refl w).alloc (.cells #[.int .i64 0, .int .i64 0, .int .i64 0, .int .i64 0, .bool false] 45)
  have h0 := fun T => cu_proofs (cu_box (w := w.alloc (.cells #[.int .i64 0, .int .i64 0, .int .i64 0, .int .i64 0, .bool false] 45)) (cc := cc) (T := T) (hr.ext hx0) hb hm) (by omega)
  simp only [World.size_alloc] at h0
  have H := Lib.hid h0
  have HX0 := Lib.hid hx0
  clear hr hb hx0 h0
  go_enter Try.func39, Try.ntmps39
  go_wp2_with fail
  refine (H.out _).mono ?_; rintro e w1 ⟨ao, cap, xs, rfl, hD, hc, ht⟩
  have HD1 := Lib.hid hD; have HC1 := Lib.hid hc; have HT1 := Lib.hid ht
  clear hD hc ht H
  go_wp2_with fail
  refine (cu_proof HC1.out (by omega)).mono ?_; rintro e w2 ⟨p, rfl, hp, hc, ht⟩
  obtain ⟨r, c, k, t, g⟩ := p
  have ht2 := HT1.out.trans ht
  have hne : ¬ Span (w.heap.size + 1) (w.heap.size + 1 + 1) w.heap.size := fun hs => by
    have := hs.1
    omega
  have r0 : w2.cell? ⟨w.heap.size, 0, none⟩ = some (.int .i64 0) := (ht2.cell (by simp; omega) hne).trans (by go_simp)
  have r1 : w2.cell? ⟨w.heap.size, 1, none⟩ = some (.int .i64 0) := (ht2.cell (by simp; omega) hne).trans (by go_simp)
  have r2 : w2.cell? ⟨w.heap.size, 2, none⟩ = some (.int .i64 0) := (ht2.cell (by simp; omega) hne).trans (by go_simp)
  have r3 : w2.cell? ⟨w.heap.size, 3, none⟩ = some (.int .i64 0) := (ht2.cell (by simp; omega) hne).trans (by go_simp)
  have r4 : w2.cell? ⟨w.heap.size, 4, none⟩ = some (.bool false) := (ht2.cell (by simp; omega) hne).trans (by go_simp)
  have rf : ∀ j, w2.frozen? ⟨w.heap.size, j, none⟩ = false := fun j => (ht2.frozen (by simp; omega) hne).trans (by go_simp)
  have f0 := rf 0; have f1 := rf 1; have f2 := rf 2; have f3 := rf 3; have f4 := rf 4
  have HD2 := Lib.hid ((HD1.out.curs ht (by simp))); have HT2 := Lib.hid ht2; have HP := Lib.hid hp
  clear hc ht HD1 HC1 HT1 hp rf ht2 hne
  dsimp only [Prf.val]
  go_wp2
  refine bodyPost_ret (v := .tuple #[.slice ao xs.length cap, .agg #[.int .i64 r, .int .i64 c, .int .i64 k, .int .i64 t, .bool g]]) ?_ rfl ?_
  · simp [results, Try.results39, go_sem, cell_put, r0, r1, r2, r3, r4]
  · obtain ⟨q1, q2, q3, q4⟩ := HD2.out
    refine ⟨ao, cap, xs, ⟨r, c, k, t, g⟩, rfl, ⟨q1, q2, q3, ?_⟩, HP.out, ?_⟩
    · exact (((((q4.setCell (by simp; omega) _).setCell (by simp; omega) _).setCell (by simp; omega) _).setCell (by simp; omega) _).setCell (by simp; omega) _).mono (by omega)
    · exact (((((Touch.spanExt (HX0.out.alloc _) HT2.out (by omega)).setCell (by exact Nat.le_refl _) _).setCell (by exact Nat.le_refl _) _).setCell (by exact Nat.le_refl _) _).setCell (by exact Nat.le_refl _) _).setCell (by exact Nat.le_refl _) _

end Go.Proofs.Ytfnjoinkfghalaa
