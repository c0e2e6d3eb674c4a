/-
  Proved here: what the draws of entries hand back.
  Conditions: the bytes' length fits an int.
-/
import Derived.Test.YtkejhhflpnfepaaCurO
namespace Go.Proofs.Ytkejhhflpnfepaa
open Go.RowKit

theorem cu_cut {B n A L cap : Nat} {x : World} (xs : List Int) (lo hi : Int) (hc : Cu x B n) (hn : n ≤ 1000000) (hr : RowAt x (some ⟨A, 0, none⟩) 1 xs.length (ic xs)) (hA : B < A) (hb : ∀ i, i < xs.length → lo ≤ nth xs i ∧ nth xs i ≤ hi) (h1 : 1 ≤ L) (h2 : L ≤ xs.length) (h3 : xs.length ≤ 200) :
    Calls Try.prog 52 #[.pointer (some ⟨B, 0, none⟩), .slice (some ⟨A, 0, none⟩) L cap] x fun e w' => ∃ y : Int, e = .returned (.int .i64 y) ∧ (lo ≤ y ∧ y ≤ hi) ∧ Cu w' B (n + 1) ∧ Touch x w' (Span B (B + 1)) := by
  have e : (xs.take L).length = L := by simp; omega
  have hA' : ∀ a : Addr, some ⟨A, 0, none⟩ = some a → B < a.block := fun a e => by injection e with e; rw [← e]; exact hA
  have hat : ∀ i, i < L → nth (xs.take L) i = nth xs i := fun i hi => by simp only [nth, List.getD]; rw [List.getElem?_take_of_lt hi]
  have := cu_among (cap := cap) (xs := xs.take L) (ao := some ⟨A, 0, none⟩) hc hn (by
    intro h0
    obtain ⟨b, off, e2, H⟩ := hr (by omega)
    refine ⟨b, off, e2, fun k hk j hj => ?_⟩
    rw [e] at hk
    have := H k (by omega) j hj
    rw [this]
    simp only [ic]
    rw [hat k hk]) (by omega) (by omega) hA'
  rw [e] at this
  refine this.mono ?_
  rintro e w' ⟨i, hi', rfl, hc, ht⟩
  rw [hat i hi']
  exact ⟨nth xs i, rfl, hb i (by omega), hc, ht⟩
theorem RowAt.curs {w w' : World} {B A n : Nat} {c : Nat → Nat → Value} (h : RowAt w (some ⟨A, 0, none⟩) 1 n c) (ht : Touch w w' (Span B (B + 1))) (hA : B < A) : RowAt w' (some ⟨A, 0, none⟩) 1 n c := fun hn => by
  obtain ⟨b, off, e, H⟩ := h hn
  injection e with e; injection e with e1 e2; subst e1 e2
  have hl := World.block_lt_of_cell? _ _ (H 0 hn 0 (by decide))
  exact ⟨_, _, rfl, fun k hk j hj => (ht.cell hl (fun hs => by have h2 : A < B + 1 := hs.2; omega)).trans (H k hk j hj)⟩

set_option maxRecDepth 100000 in
set_option maxHeartbeats 2000000 in
theorem draw_ents {w : World} {co : Option Addr} {m cc : Nat} {bs : Nat → Nat} (hr : RowAt w co 1 m (by8 bs)) (hb : ∀ k, bs k < 256) (hm : m ≤ 9223372036854775807) :
    Calls Try.prog 47 #[.slice co m cc] w fun e w' => ∃ (b off cap : Nat) (xs : List Ent), e = .returned (.slice (some ⟨b, off, none⟩) xs.length cap) ∧ DrawnE w.heap.size w' xs b off cap ∧ Ext w w' := by
  have H := Lib.hid (fun T => cu_runners (cu_box (cc := cc) (T := T) hr hb hm) (by omega))
  clear hr hb
  go_enter Try.func47, Try.ntmps47
  go_wp2_with fail
  refine (H.out _).mono ?_; rintro e w1 ⟨rb, ro, rc, rs, rfl, hD, hc, ht⟩
  have HC1 := Lib.hid hc; have HT1 := Lib.hid ht
  have HE := Lib.hid (cu_entries hc (by omega) hD (by simp))
  clear hc ht H hD
  go_wp2_with fail
  refine HE.out.mono ?_; rintro e w2 ⟨b, off, cap, xs, rfl, hD, hc, ht⟩
  have HC2 := Lib.hid hc; have HT2 := Lib.hid (HT1.out.trans ht); have HD2 := Lib.hid hD
  have hBl : w.heap.size < w1.heap.size := HC1.out.lt
  clear hc ht HE hD HC1 HT1
  go_wp2
  refine bodyPost_ret (v := .slice (some ⟨b, off, none⟩) xs.length cap) (by simp [results, Try.results47, go_sem]) rfl ?_
  exact ⟨b, off, cap, xs, rfl, HD2.out.mono (by omega), Touch.spanExt ((Ext.refl w).alloc _) HT2.out (Nat.le_refl _)⟩

theorem draw_classes {w : World} {co : Option Addr} {m cc : Nat} {bs : Nat → Nat} (hr : RowAt w co 1 m (by8 bs)) (hb : ∀ k, bs k < 256) (hm : m ≤ 9223372036854775807) :
    Calls Try.prog 11 #[.slice co m cc] w fun e w' => ∃ (b off cap : Nat) (xs : List Ent), e = .returned (.slice (some ⟨b, off, none⟩) xs.length cap) ∧ DrawnE w.heap.size w' xs b off cap ∧ Ext w w' := by
  have H := Lib.hid (draw_ents (cc := cc) hr hb hm)
  clear hr hb
  go_enter Try.func11, Try.ntmps11
  go_wp2_with fail
  refine H.out.mono ?_; rintro e w1 ⟨b, off, cap, xs, rfl, hD, hx⟩
  have HD := Lib.hid hD; have HX := Lib.hid hx
  clear H hD hx
  go_wp2
  go_ret
  exact ⟨b, off, cap, xs, rfl, HD.out, HX.out⟩

set_option maxRecDepth 100000 in
set_option maxHeartbeats 4000000 in
theorem draw_change {w : World} {co : Option Addr} {m cc : Nat} {bs : Nat → Nat} (hr : RowAt w co 1 m (by8 bs)) (hb : ∀ k, bs k < 256) (hm : m ≤ 9223372036854775807) :
    Calls Try.prog 19 #[.slice co m cc] w fun e w' => ∃ (b off cap : Nat) (xs : List Ent) (r v d : Int), e = .returned (.tuple #[.slice (some ⟨b, off, none⟩) xs.length cap, .int .i64 r, .int .i64 v, .int .i64 d]) ∧ DrawnE w.heap.size w' xs b off cap ∧ Ext w w' := by
  have H := Lib.hid (fun T => cu_runners (cu_box (cc := cc) (T := T) hr hb hm) (by omega))
  clear hr hb
  go_enter Try.func19, Try.ntmps19
  go_wp2_with fail
  refine (H.out _).mono ?_; rintro e w1 ⟨rb, ro, rc, rs, rfl, hD, hc, ht⟩
  have HC1 := Lib.hid hc; have HT1 := Lib.hid ht
  have HE := Lib.hid (cu_entries hc (by omega) hD (by simp))
  clear hc ht H hD
  go_wp2_with fail
  refine HE.out.mono ?_; rintro e w2 ⟨b, off, cap, xs, rfl, hD, hc, ht⟩
  have HC2 := Lib.hid hc; have HT2 := Lib.hid (HT1.out.trans ht); have HD2 := Lib.hid hD
  have hBl : w.heap.size < w1.heap.size := HC1.out.lt
  clear hc ht HE hD HC1 HT1
  have HE := Lib.hid (cu_entrant HC2.out (by omega) HD2.out (by omega))
  go_wp2_with fail
  refine HE.out.mono ?_; rintro e w3 ⟨r, rfl, _, hc, ht⟩
  have HC3 := Lib.hid hc; have HT3 := Lib.hid (HT2.out.trans ht); have HD3 := Lib.hid (HD2.out.curs ht (by omega))
  have hBl3 : w.heap.size < w3.heap.size := HC3.out.lt
  have hx0 := fun T => (Ext.refl w3).alloc (.cells #[.int .i64 1, .int .i64 5, .int .i64 99, .int .i64 0, .int .i64 100] T)
  have hr0 := fun T => lit_ints (w := w3) (T := T) (cs := #[.int .i64 1, .int .i64 5, .int .i64 99, .int .i64 0, .int .i64 100]) [1, 5, 99, 0, 100] rfl
  have HP := Lib.hid (fun T => cu_pick (N := 24) (hc.ext (hx0 T)) (by omega) (by decide) (by decide))
  have HX0 := Lib.hid hx0; have HR0 := Lib.hid hr0
  clear hc ht HE HC2 HT2 HD2 hx0 hr0
  go_wp2_with fail
  refine (HP.out _).mono ?_; rintro e w4 ⟨y, rfl, hy, hc, ht⟩
  have HC4 := Lib.hid hc; have HT4 := Lib.hid ((HT3.out.trans (Touch.of_ext (HX0.out _))).trans ht); have HD4 := Lib.hid ((HD3.out.ext (HX0.out _)).curs ht (by omega))
  have HR4 := Lib.hid ((HR0.out _).curs ht hBl3)
  have h3 : y / 11 = 0 ∨ y / 11 = 1 ∨ y / 11 = 2 := by omega
  have hy0 := hy.1
  clear hc ht HX0 HR0 HP hy HC3 HT3 HD3
  rcases h3 with h3 | h3 | h3
  all_goals
    go_wp2_with fail
    refine (cu_cut [1, 5, 99, 0, 100] 0 100 HC4.out (by omega) HR4.out hBl3 (by decide) (by decide) (by decide) (by decide)).mono ?_
    rintro e w5 ⟨v, rfl, _, hc, ht⟩
    have HC5 := Lib.hid hc; have HT5 := Lib.hid (HT4.out.trans ht); have HD5 := Lib.hid (HD4.out.curs ht (by omega))
    clear hc ht h3 HC4 HT4 HD4 HR4
    have HP := Lib.hid (fun T => cu_lit (T := T) (cs := #[.int .i64 0, .int .i64 299, .int .i64 300, .int .i64 365, .int .i64 366]) [0, 299, 300, 365, 366] 0 366 HC5.out (by omega) rfl (by decide) (by decide) (by decide))
    go_wp2_with fail
    refine (HP.out _).mono ?_; rintro e w6 ⟨d, rfl, _, hc, ht⟩
    have HT6 := Lib.hid (HT5.out.trans ht); have HD6 := Lib.hid (HD5.out.curs ht (by omega))
    clear hc ht HP HC5 HT5 HD5
    go_wp2
    refine bodyPost_ret (v := .tuple #[.slice (some ⟨b, off, none⟩) xs.length cap, .int .i64 r, .int .i64 v, .int .i64 d]) (by simp [results, Try.results19, go_sem]) rfl ?_
    exact ⟨b, off, cap, xs, r, v, d, rfl, HD6.out.mono (by omega), Touch.spanExt ((Ext.refl w).alloc _) HT6.out (Nat.le_refl _)⟩

set_option maxRecDepth 100000 in
set_option maxHeartbeats 4000000 in
theorem draw_pay {w : World} {co : Option Addr} {m cc : Nat} {bs : Nat → Nat} (hr : RowAt w co 1 m (by8 bs)) (hb : ∀ k, bs k < 256) (hm : m ≤ 9223372036854775807) :
    Calls Try.prog 22 #[.slice co m cc] w fun e w' => ∃ (b off cap : Nat) (xs : List Ent) (r v : Int), e = .returned (.tuple #[.slice (some ⟨b, off, none⟩) xs.length cap, .int .i64 r, .int .i64 v]) ∧ DrawnE w.heap.size w' xs b off cap ∧ Ext w w' := by
  have H := Lib.hid (fun T => cu_runners (cu_box (cc := cc) (T := T) hr hb hm) (by omega))
  clear hr hb
  go_enter Try.func22, Try.ntmps22
  go_wp2_with fail
  refine (H.out _).mono ?_; rintro e w1 ⟨rb, ro, rc, rs, rfl, hD, hc, ht⟩
  have HC1 := Lib.hid hc; have HT1 := Lib.hid ht
  have HE := Lib.hid (cu_entries hc (by omega) hD (by simp))
  clear hc ht H hD
  go_wp2_with fail
  refine HE.out.mono ?_; rintro e w2 ⟨b, off, cap, xs, rfl, hD, hc, ht⟩
  have HC2 := Lib.hid hc; have HT2 := Lib.hid (HT1.out.trans ht); have HD2 := Lib.hid hD
  have hBl : w.heap.size < w1.heap.size := HC1.out.lt
  clear hc ht HE hD HC1 HT1
  have HE := Lib.hid (cu_entrant HC2.out (by omega) HD2.out (by omega))
  go_wp2_with fail
  refine HE.out.mono ?_; rintro e w3 ⟨r, rfl, _, hc, ht⟩
  have HC3 := Lib.hid hc; have HT3 := Lib.hid (HT2.out.trans ht); have HD3 := Lib.hid (HD2.out.curs ht (by omega))
  have hBl3 : w.heap.size < w3.heap.size := HC3.out.lt
  have hx0 := fun T => (Ext.refl w3).alloc (.cells #[.int .i64 1, .int .i64 999, .int .i64 100000, .int .i64 0, .int .i64 100001] T)
  have hr0 := fun T => lit_ints (w := w3) (T := T) (cs := #[.int .i64 1, .int .i64 999, .int .i64 100000, .int .i64 0, .int .i64 100001]) [1, 999, 100000, 0, 100001] rfl
  have HP := Lib.hid (fun T => cu_pick (N := 24) (hc.ext (hx0 T)) (by omega) (by decide) (by decide))
  have HX0 := Lib.hid hx0; have HR0 := Lib.hid hr0
  clear hc ht HE HC2 HT2 HD2 hx0 hr0
  go_wp2_with fail
  refine (HP.out _).mono ?_; rintro e w4 ⟨y, rfl, hy, hc, ht⟩
  have HC4 := Lib.hid hc; have HT4 := Lib.hid ((HT3.out.trans (Touch.of_ext (HX0.out _))).trans ht); have HD4 := Lib.hid ((HD3.out.ext (HX0.out _)).curs ht (by omega))
  have HR4 := Lib.hid ((HR0.out _).curs ht hBl3)
  have h3 : y / 11 = 0 ∨ y / 11 = 1 ∨ y / 11 = 2 := by omega
  have hy0 := hy.1
  clear hc ht HX0 HR0 HP hy HC3 HT3 HD3
  rcases h3 with h3 | h3 | h3
  all_goals
    go_wp2_with fail
    refine (cu_cut [1, 999, 100000, 0, 100001] 0 100001 HC4.out (by omega) HR4.out hBl3 (by decide) (by decide) (by decide) (by decide)).mono ?_
    rintro e w5 ⟨v, rfl, _, hc, ht⟩
    have HC5 := Lib.hid hc; have HT5 := Lib.hid (HT4.out.trans ht); have HD5 := Lib.hid (HD4.out.curs ht (by omega))
    clear hc ht h3 HC4 HT4 HD4 HR4
    go_wp2
    go_ret3
    exact ⟨b, off, cap, xs, r, v, rfl, HD5.out.mono (by omega), Touch.spanExt ((Ext.refl w).alloc _) HT5.out (Nat.le_refl _)⟩

set_option maxRecDepth 100000 in
set_option maxHeartbeats 4000000 in
theorem draw_refund {w : World} {co : Option Addr} {m cc : Nat} {bs : Nat → Nat} (hr : RowAt w co 1 m (by8 bs)) (hb : ∀ k, bs k < 256) (hm : m ≤ 9223372036854775807) :
    Calls Try.prog 25 #[.slice co m cc] w fun e w' => ∃ (b off cap : Nat) (xs : List Ent) (r v : Int), e = .returned (.tuple #[.slice (some ⟨b, off, none⟩) xs.length cap, .int .i64 r, .int .i64 v]) ∧ DrawnE w.heap.size w' xs b off cap ∧ Ext w w' := by
  have H := Lib.hid (fun T => cu_runners (cu_box (cc := cc) (T := T) hr hb hm) (by omega))
  clear hr hb
  go_enter Try.func25, Try.ntmps25
  go_wp2_with fail
  refine (H.out _).mono ?_; rintro e w1 ⟨rb, ro, rc, rs, rfl, hD, hc, ht⟩
  have HC1 := Lib.hid hc; have HT1 := Lib.hid ht
  have HE := Lib.hid (cu_entries hc (by omega) hD (by simp))
  clear hc ht H hD
  go_wp2_with fail
  refine HE.out.mono ?_; rintro e w2 ⟨b, off, cap, xs, rfl, hD, hc, ht⟩
  have HC2 := Lib.hid hc; have HT2 := Lib.hid (HT1.out.trans ht); have HD2 := Lib.hid hD
  have hBl : w.heap.size < w1.heap.size := HC1.out.lt
  clear hc ht HE hD HC1 HT1
  have HE := Lib.hid (cu_entrant HC2.out (by omega) HD2.out (by omega))
  go_wp2_with fail
  refine HE.out.mono ?_; rintro e w3 ⟨r, rfl, _, hc, ht⟩
  have HC3 := Lib.hid hc; have HT3 := Lib.hid (HT2.out.trans ht); have HD3 := Lib.hid (HD2.out.curs ht (by omega))
  have hBl3 : w.heap.size < w3.heap.size := HC3.out.lt
  have hx0 := fun T => (Ext.refl w3).alloc (.cells #[.int .i64 0, .int .i64 299, .int .i64 300, .int .i64 365, .int .i64 (-1), .int .i64 366] T)
  have hr0 := fun T => lit_ints (w := w3) (T := T) (cs := #[.int .i64 0, .int .i64 299, .int .i64 300, .int .i64 365, .int .i64 (-1), .int .i64 366]) [0, 299, 300, 365, -1, 366] rfl
  have HP := Lib.hid (fun T => cu_pick (N := 24) (hc.ext (hx0 T)) (by omega) (by decide) (by decide))
  have HX0 := Lib.hid hx0; have HR0 := Lib.hid hr0
  clear hc ht HE HC2 HT2 HD2 hx0 hr0
  go_wp2_with fail
  refine (HP.out _).mono ?_; rintro e w4 ⟨y, rfl, hy, hc, ht⟩
  have HC4 := Lib.hid hc; have HT4 := Lib.hid ((HT3.out.trans (Touch.of_ext (HX0.out _))).trans ht); have HD4 := Lib.hid ((HD3.out.ext (HX0.out _)).curs ht (by omega))
  have HR4 := Lib.hid ((HR0.out _).curs ht hBl3)
  have h3 : y / 11 = 0 ∨ y / 11 = 1 ∨ y / 11 = 2 := by omega
  have hy0 := hy.1
  clear hc ht HX0 HR0 HP hy HC3 HT3 HD3
  rcases h3 with h3 | h3 | h3
  all_goals
    go_wp2_with fail
    refine (cu_cut [0, 299, 300, 365, -1, 366] (-1) 366 HC4.out (by omega) HR4.out hBl3 (by decide) (by decide) (by decide) (by decide)).mono ?_
    rintro e w5 ⟨v, rfl, _, hc, ht⟩
    have HC5 := Lib.hid hc; have HT5 := Lib.hid (HT4.out.trans ht); have HD5 := Lib.hid (HD4.out.curs ht (by omega))
    clear hc ht h3 HC4 HT4 HD4 HR4
    go_wp2
    go_ret3
    exact ⟨b, off, cap, xs, r, v, rfl, HD5.out.mono (by omega), Touch.spanExt ((Ext.refl w).alloc _) HT5.out (Nat.le_refl _)⟩

set_option maxRecDepth 100000 in
set_option maxHeartbeats 4000000 in
theorem draw_enter {w : World} {co : Option Addr} {m cc : Nat} {bs : Nat → Nat} (hr : RowAt w co 1 m (by8 bs)) (hb : ∀ k, bs k < 256) (hm : m ≤ 9223372036854775807) :
    Calls Try.prog 6 #[.slice co m cc] w fun e w' => ∃ (b off cap : Nat) (xs : List Ent) (x : Ent), e = .returned (.tuple #[.slice (some ⟨b, off, none⟩) xs.length cap, x.val]) ∧ DrawnE w.heap.size w' xs b off cap ∧ entIn x ∧ Ext w w' := by
  have hx0 := (Ext.refl w).alloc (.cells #[.int .i64 0, .int .i64 0, .int .i64 0, .bool false, .int .i64 0] 26)
  have h0 := fun T => cu_runners (cu_box (w := w.alloc (.cells #[.int .i64 0, .int .i64 0, .int .i64 0, .bool false, .int .i64 0] 26)) (cc := cc) (T := T) (hr.ext hx0) hb hm) (by omega)
  simp only [World.size_alloc] at h0
  have H := Lib.hid h0
  have HX0 := Lib.hid hx0
  clear hr hb hx0 h0
  go_enter Try.func6, Try.ntmps6
  go_wp2_with fail
  refine (H.out _).mono ?_; rintro e w1 ⟨rb, ro, rc, rs, rfl, hD, hc, ht⟩
  have HC1 := Lib.hid hc; have HT1 := Lib.hid ht
  have HE := Lib.hid (cu_entries hc (by omega) hD (by simp))
  clear hc ht H hD
  go_wp2_with fail
  refine HE.out.mono ?_; rintro e w2 ⟨b, off, cap, xs, rfl, hD, hc, ht⟩
  have HC2 := Lib.hid hc; have HT2 := Lib.hid (HT1.out.trans ht); have HD2 := Lib.hid hD
  have hBl : w.heap.size + 1 < w1.heap.size := HC1.out.lt
  clear hc ht HE hD HC1 HT1
  have HP := Lib.hid (cu_pick (N := 20) HC2.out (by omega) (by decide) (by decide))
  go_wp2_with fail
  refine HP.out.mono ?_; rintro e w3 ⟨y, rfl, hy, hc, ht⟩
  have HC3 := Lib.hid hc; have HT3 := Lib.hid (HT2.out.trans ht); have HD3 := Lib.hid (HD2.out.curs ht (by omega))
  have hy0 := hy.1; have hy1 := hy.2
  have HE := Lib.hid (fun (r : Int) (hr : 0 ≤ r ∧ r ≤ 1000) => cu_entry11 hc (by omega) hr)
  clear hc ht HP HC2 HT2 HD2 hy
  go_wp2_with fail
  refine (HE.out _ ⟨by omega, by omega⟩).mono ?_; rintro e w4 ⟨x, rfl, hp, hc, ht⟩
  obtain ⟨a0, a1, a2, a3, a4⟩ := x
  have ht2 := HT3.out.trans ht
  have hne : ¬ Span (w.heap.size + 1) (w.heap.size + 1 + 1) w.heap.size := fun hs => by
    have := hs.1
    omega
  have r0 : w4.cell? ⟨w.heap.size, 0, none⟩ = some (.int .i64 0) := (ht2.cell (by simp; omega) hne).trans (by go_simp)
  have r1 : w4.cell? ⟨w.heap.size, 1, none⟩ = some (.int .i64 0) := (ht2.cell (by simp; omega) hne).trans (by go_simp)
  have r2 : w4.cell? ⟨w.heap.size, 2, none⟩ = some (.int .i64 0) := (ht2.cell (by simp; omega) hne).trans (by go_simp)
  have r3 : w4.cell? ⟨w.heap.size, 3, none⟩ = some (.bool false) := (ht2.cell (by simp; omega) hne).trans (by go_simp)
  have r4 : w4.cell? ⟨w.heap.size, 4, none⟩ = some (.int .i64 0) := (ht2.cell (by simp; omega) hne).trans (by go_simp)
  have rf : ∀ j, w4.frozen? ⟨w.heap.size, j, none⟩ = false := fun j => (ht2.frozen (by simp; omega) hne).trans (by go_simp)
  have f0 := rf 0; have f1 := rf 1; have f2 := rf 2; have f3 := rf 3; have f4 := rf 4
  have HD4 := Lib.hid (HD3.out.curs ht (by omega)); have HT4 := Lib.hid ht2; have HP := Lib.hid hp
  clear hc ht HD3 HC3 HT3 hp rf ht2 hne HE
  dsimp only [Ent.val]
  go_wp2
  refine bodyPost_ret (v := .tuple #[.slice (some ⟨b, off, none⟩) xs.length cap, .agg #[.int .i64 a0, .int .i64 a1, .int .i64 a2, .bool a3, .int .i64 a4]]) ?_ rfl ?_
  · simp [results, Try.results6, go_sem, cell_put, r0, r1, r2, r3, r4]
  · have q4 := HD4.out.fresh
    refine ⟨b, off, cap, xs, ⟨a0, a1, a2, a3, a4⟩, rfl, ⟨HD4.out.len, HD4.out.ok, HD4.out.caps, ?_⟩, HP.out, ?_⟩
    · exact (((((q4.setCell (by simp; omega) _).setCell (by simp; omega) _).setCell (by simp; omega) _).setCell (by simp; omega) _).setCell (by simp; omega) _).mono (by omega)
    · exact (((((Touch.spanExt (HX0.out.alloc _) HT4.out (by omega)).setCell (by exact Nat.le_refl _) _).setCell (by exact Nat.le_refl _) _).setCell (by exact Nat.le_refl _) _).setCell (by exact Nat.le_refl _) _).setCell (by exact Nat.le_refl _) _

end Go.Proofs.Ytkejhhflpnfepaa
