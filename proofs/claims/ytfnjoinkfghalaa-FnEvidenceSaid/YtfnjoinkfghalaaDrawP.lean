/-
  Proved here: what the draws of proofs hand back.
  Conditions: the bytes' length fits an int.
-/
import Derived.Test.YtfnjoinkfghalaaCurP
namespace Go.Proofs.Ytfnjoinkfghalaa
open Go.RowKit

set_option maxRecDepth 100000 in
set_option maxHeartbeats 2000000 in
theorem draw_areproofs {w : World} {co : Option Addr} {m cc : Nat} {bs : Nat → Nat} (hr : RowAt w co 1 m (by8 bs)) (hb : ∀ k, bs k < 256) (hm : m ≤ 9223372036854775807) :
    Calls Try.prog 78 #[.slice co m cc] w fun e w' => ∃ (ao : Option Addr) (cap : Nat) (xs : List Prf), e = .returned (.slice ao xs.length cap) ∧ DrawnPrfs w.heap.size w' xs ao cap ∧ Ext w w' := by
  have H := Lib.hid (fun T => cu_proofs (cu_box (cc := cc) (T := T) hr hb hm) (by omega))
  clear hr hb
  go_enter Try.func78, Try.ntmps78
  go_wp2_with fail
  refine (H.out _).mono ?_; rintro e w1 ⟨ao, cap, xs, rfl, hD, hc, ht⟩
  have HD1 := Lib.hid hD; have HC1 := Lib.hid hc; have HT1 := Lib.hid ht
  clear hD hc ht H
  go_wp2
  refine bodyPost_ret (v := .slice ao xs.length cap) (by simp [results, Try.results78, go_sem]) rfl ?_
  exact ⟨ao, cap, xs, rfl, HD1.out.mono (by simp), Touch.spanExt ((Ext.refl w).alloc _) HT1.out (Nat.le_refl _)⟩

set_option maxRecDepth 100000 in
set_option maxHeartbeats 2000000 in
theorem draw_balance {w : World} {co : Option Addr} {m cc : Nat} {bs : Nat → Nat} (hr : RowAt w co 1 m (by8 bs)) (hb : ∀ k, bs k < 256) (hm : m ≤ 9223372036854775807) :
    Calls Try.prog 28 #[.slice co m cc] w fun e w' => ∃ (ao : Option Addr) (cap : Nat) (xs : List Prf) (r c : Int), e = .returned (.tuple #[.slice ao xs.length cap, .int .i64 r, .int .i64 c]) ∧ DrawnPrfs w.heap.size w' xs ao cap ∧ I64 r ∧ I64 c ∧ Ext w w' := by
  have H := Lib.hid (fun T => cu_proofs (cu_box (cc := cc) (T := T) hr hb hm) (by omega))
  clear hr hb
  go_enter Try.func28, Try.ntmps28
  go_wp2_with fail
  refine (H.out _).mono ?_; rintro e w1 ⟨ao, cap, xs, rfl, hD, hc, ht⟩
  have HD1 := Lib.hid hD; have HC1 := Lib.hid hc; have HT1 := Lib.hid ht
  clear hD hc ht H
  go_wp2_with fail
  refine (cu_runner14 HC1.out (by omega)).mono ?_; rintro e w2 ⟨r, rfl, bdr, hc, ht⟩
  have HD2 := Lib.hid (HD1.out.curs ht (by simp)); have HC2 := Lib.hid hc; have HT2 := Lib.hid (HT1.out.trans ht); have Br : Hid (I64 r) := Lib.hid ⟨by omega, by omega⟩
  clear hc ht HD1 HC1 HT1 bdr
  go_wp2_with fail
  refine (cu_code14 HC2.out (by omega)).mono ?_; rintro e w3 ⟨c, rfl, bdc, hc, ht⟩
  have HD3 := Lib.hid (HD2.out.curs ht (by simp)); have HC3 := Lib.hid hc; have HT3 := Lib.hid (HT2.out.trans ht); have Bc : Hid (I64 c) := Lib.hid ⟨by omega, by omega⟩
  clear hc ht HD2 HC2 HT2 bdc
  go_wp2
  refine bodyPost_ret (v := .tuple #[.slice ao xs.length cap, .int .i64 r, .int .i64 c]) (by simp [results, Try.results28, go_sem]) rfl ?_
  exact ⟨ao, cap, xs, r, c, rfl, HD3.out.mono (by simp), Br.out, Bc.out, Touch.spanExt ((Ext.refl w).alloc _) HT3.out (Nat.le_refl _)⟩

set_option maxRecDepth 100000 in
set_option maxHeartbeats 2000000 in
theorem draw_isbel {w : World} {co : Option Addr} {m cc : Nat} {bs : Nat → Nat} (hr : RowAt w co 1 m (by8 bs)) (hb : ∀ k, bs k < 256) (hm : m ≤ 9223372036854775807) :
    Calls Try.prog 55 #[.slice co m cc] w fun e w' => ∃ (ao : Option Addr) (cap : Nat) (xs : List Prf) (r c l : Int), e = .returned (.tuple #[.slice ao xs.length cap, .int .i64 r, .int .i64 c, .int .i64 l]) ∧ DrawnPrfs w.heap.size w' xs ao cap ∧ I64 r ∧ I64 c ∧ I64 l ∧ Ext w w' := by
  have H := Lib.hid (fun T => cu_proofs (cu_box (cc := cc) (T := T) hr hb hm) (by omega))
  clear hr hb
  go_enter Try.func55, Try.ntmps55
  go_wp2_with fail
  refine (H.out _).mono ?_; rintro e w1 ⟨ao, cap, xs, rfl, hD, hc, ht⟩
  have HD1 := Lib.hid hD; have HC1 := Lib.hid hc; have HT1 := Lib.hid ht
  clear hD hc ht H
  go_wp2_with fail
  refine (cu_runner14 HC1.out (by omega)).mono ?_; rintro e w2 ⟨r, rfl, bdr, hc, ht⟩
  have HD2 := Lib.hid (HD1.out.curs ht (by simp)); have HC2 := Lib.hid hc; have HT2 := Lib.hid (HT1.out.trans ht); have Br : Hid (I64 r) := Lib.hid ⟨by omega, by omega⟩
  clear hc ht HD1 HC1 HT1 bdr
  go_wp2_with fail
  refine (cu_code14 HC2.out (by omega)).mono ?_; rintro e w3 ⟨c, rfl, bdc, hc, ht⟩
  have HD3 := Lib.hid (HD2.out.curs ht (by simp)); have HC3 := Lib.hid hc; have HT3 := Lib.hid (HT2.out.trans ht); have Bc : Hid (I64 c) := Lib.hid ⟨by omega, by omega⟩
  clear hc ht HD2 HC2 HT2 bdc
  go_wp2_with fail
  refine (cu_limit14 HC3.out (by omega)).mono ?_; rintro e w4 ⟨l, rfl, bdl, hc, ht⟩
  have HD4 := Lib.hid (HD3.out.curs ht (by simp)); have HC4 := Lib.hid hc; have HT4 := Lib.hid (HT3.out.trans ht); have Bl : Hid (I64 l) := Lib.hid ⟨by omega, by omega⟩
  clear hc ht HD3 HC3 HT3 bdl
  go_wp2
  refine bodyPost_ret (v := .tuple #[.slice ao xs.length cap, .int .i64 r, .int .i64 c, .int .i64 l]) (by simp [results, Try.results55, go_sem]) rfl ?_
  exact ⟨ao, cap, xs, r, c, l, rfl, HD4.out.mono (by simp), Br.out, Bc.out, Bl.out, Touch.spanExt ((Ext.refl w).alloc _) HT4.out (Nat.le_refl _)⟩

set_option maxRecDepth 100000 in
set_option maxHeartbeats 2000000 in
theorem draw_codes {w : World} {co : Option Addr} {m cc : Nat} {bs : Nat → Nat} (hr : RowAt w co 1 m (by8 bs)) (hb : ∀ k, bs k < 256) (hm : m ≤ 9223372036854775807) :
    Calls Try.prog 22 #[.slice co m cc] w fun e w' => ∃ (ao : Option Addr) (cap : Nat) (xs : List Prf) (r l : Int), e = .returned (.tuple #[.slice ao xs.length cap, .int .i64 r, .int .i64 l]) ∧ DrawnPrfs w.heap.size w' xs ao cap ∧ I64 r ∧ I64 l ∧ Ext w w' := by
  have H := Lib.hid (fun T => cu_proofs (cu_box (cc := cc) (T := T) hr hb hm) (by omega))
  clear hr hb
  go_enter Try.func22, Try.ntmps22
  go_wp2_with fail
  refine (H.out _).mono ?_; rintro e w1 ⟨ao, cap, xs, rfl, hD, hc, ht⟩
  have HD1 := Lib.hid hD; have HC1 := Lib.hid hc; have HT1 := Lib.hid ht
  clear hD hc ht H
  go_wp2_with fail
  refine (cu_runner14 HC1.out (by omega)).mono ?_; rintro e w2 ⟨r, rfl, bdr, hc, ht⟩
  have HD2 := Lib.hid (HD1.out.curs ht (by simp)); have HC2 := Lib.hid hc; have HT2 := Lib.hid (HT1.out.trans ht); have Br : Hid (I64 r) := Lib.hid ⟨by omega, by omega⟩
  clear hc ht HD1 HC1 HT1 bdr
  go_wp2_with fail
  refine (cu_limit14 HC2.out (by omega)).mono ?_; rintro e w3 ⟨l, rfl, bdl, hc, ht⟩
  have HD3 := Lib.hid (HD2.out.curs ht (by simp)); have HC3 := Lib.hid hc; have HT3 := Lib.hid (HT2.out.trans ht); have Bl : Hid (I64 l) := Lib.hid ⟨by omega, by omega⟩
  clear hc ht HD2 HC2 HT2 bdl
  go_wp2
  refine bodyPost_ret (v := .tuple #[.slice ao xs.length cap, .int .i64 r, .int .i64 l]) (by simp [results, Try.results22, go_sem]) rfl ?_
  exact ⟨ao, cap, xs, r, l, rfl, HD3.out.mono (by simp), Br.out, Bl.out, Touch.spanExt ((Ext.refl w).alloc _) HT3.out (Nat.le_refl _)⟩

set_option maxRecDepth 100000 in
set_option maxHeartbeats 2000000 in
theorem draw_lacks {w : World} {co : Option Addr} {m cc : Nat} {bs : Nat → Nat} (hr : RowAt w co 1 m (by8 bs)) (hb : ∀ k, bs k < 256) (hm : m ≤ 9223372036854775807) :
    Calls Try.prog 16 #[.slice co m cc] w fun e w' => ∃ (ao : Option Addr) (cap : Nat) (xs : List Prf) (r c l : Int), e = .returned (.tuple #[.slice ao xs.length cap, .int .i64 r, .int .i64 c, .int .i64 l]) ∧ DrawnPrfs w.heap.size w' xs ao cap ∧ I64 r ∧ I64 c ∧ I64 l ∧ Ext w w' := by
  have H := Lib.hid (draw_isbel (cc := cc) hr hb hm)
  clear hr hb
  go_enter Try.func16, Try.ntmps16
  go_wp2_with fail
  refine H.out.mono ?_; rintro e w1 ⟨ao, cap, xs, r, c, l, rfl, hD, bdr, bdc, bdl, hx⟩
  have HD1 := Lib.hid hD; have HX := Lib.hid hx; have Br := Lib.hid bdr; have Bc := Lib.hid bdc; have Bl := Lib.hid bdl
  clear hD hx H bdr bdc bdl
  go_wp2
  refine bodyPost_ret (v := .tuple #[.slice ao xs.length cap, .int .i64 r, .int .i64 c, .int .i64 l]) (by simp [results, Try.results16, go_sem]) rfl ?_
  exact ⟨ao, cap, xs, r, c, l, rfl, HD1.out, Br.out, Bc.out, Bl.out, HX.out⟩

set_option maxRecDepth 100000 in
set_option maxHeartbeats 2000000 in
theorem draw_strong {w : World} {co : Option Addr} {m cc : Nat} {bs : Nat → Nat} (hr : RowAt w co 1 m (by8 bs)) (hb : ∀ k, bs k < 256) (hm : m ≤ 9223372036854775807) :
    Calls Try.prog 37 #[.slice co m cc] w fun e w' => ∃ (ao : Option Addr) (cap : Nat) (xs : List Prf) (r c : Int), e = .returned (.tuple #[.slice ao xs.length cap, .int .i64 r, .int .i64 c]) ∧ DrawnPrfs w.heap.size w' xs ao cap ∧ I64 r ∧ I64 c ∧ Ext w w' := by
  have H := Lib.hid (draw_balance (cc := cc) hr hb hm)
  clear hr hb
  go_enter Try.func37, Try.ntmps37
  go_wp2_with fail
  refine H.out.mono ?_; rintro e w1 ⟨ao, cap, xs, r, c, rfl, hD, bdr, bdc, hx⟩
  have HD1 := Lib.hid hD; have HX := Lib.hid hx; have Br := Lib.hid bdr; have Bc := Lib.hid bdc
  clear hD hx H bdr bdc
  go_wp2
  refine bodyPost_ret (v := .tuple #[.slice ao xs.length cap, .int .i64 r, .int .i64 c]) (by simp [results, Try.results37, go_sem]) rfl ?_
  exact ⟨ao, cap, xs, r, c, rfl, HD1.out, Br.out, Bc.out, HX.out⟩

set_option maxRecDepth 100000 in
set_option maxHeartbeats 2000000 in
theorem draw_contra {w : World} {co : Option Addr} {m cc : Nat} {bs : Nat → Nat} (hr : RowAt w co 1 m (by8 bs)) (hb : ∀ k, bs k < 256) (hm : m ≤ 9223372036854775807) :
    Calls Try.prog 30 #[.slice co m cc] w fun e w' => ∃ (ao : Option Addr) (cap : Nat) (xs : List Prf), e = .returned (.slice ao xs.length cap) ∧ DrawnPrfs w.heap.size w' xs ao cap ∧ Ext w w' := by
  have H := Lib.hid (draw_areproofs (cc := cc) hr hb hm)
  clear hr hb
  go_enter Try.func30, Try.ntmps30
  go_wp2_with fail
  refine H.out.mono ?_; rintro e w1 ⟨ao, cap, xs, rfl, hD, hx⟩
  have HD1 := Lib.hid hD; have HX := Lib.hid hx
  clear hD hx H
  go_wp2
  refine bodyPost_ret (v := .slice ao xs.length cap) (by simp [results, Try.results30, go_sem]) rfl ?_
  exact ⟨ao, cap, xs, rfl, HD1.out, HX.out⟩

end Go.Proofs.Ytfnjoinkfghalaa
