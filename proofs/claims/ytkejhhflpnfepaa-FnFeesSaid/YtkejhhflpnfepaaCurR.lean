/-
  Proved here: the cursor's runner.
  Conditions: the cursor lies in one block; counts are small.
-/
import Derived.Test.YtkejhhflpnfepaaBx
import Derived.Test.YtkejhhflpnfepaaTRunner
import Derived.Deep.DeepCutAuto
import Derived.Deep.CutBlock
namespace Go.Proofs.Ytkejhhflpnfepaa
open Go.RowKit

/-- bounds of a drawn runner -/
structure rnIn (x : Rnr) : Prop where
  f0 : 0 ≤ x.id ∧ x.id ≤ 1000
  f1 : x.name.size ≤ 11
  f2 : x.club.size ≤ 11
  f3 : 1919 ≤ x.born ∧ x.born ≤ 2021
  f4 : -1 ≤ x.card ∧ x.card ≤ 10000

set_option maxRecDepth 100000 in
set_option maxHeartbeats 4000000 in
theorem cu_runner {B n : Nat} {w : World} {r : Int} (h : Cu w B n) (hn : n ≤ 900000) (hr : 0 ≤ r ∧ r ≤ 1000) :
    Calls Try.prog 73 #[.pointer (some ⟨B, 0, none⟩), .int .i64 r] w fun e w' => ∃ x : Rnr, e = .returned x.val ∧ rnIn x ∧ Cu w' B (n + 8) ∧ Touch w w' (Span B (B + 1)) := by
  have hBl := h.lt
  have hx0 := (Ext.refl w).alloc (.cells #[.int .i64 0, .string ⟨#[]⟩, .string ⟨#[]⟩, .int .i64 0, .bool false, .int .i64 0] 88)
  have HR0 := Lib.hid (Bx.of (w := w) (cs := #[.int .i64 0, .string ⟨#[]⟩, .string ⟨#[]⟩, .int .i64 0, .bool false, .int .i64 0]) (T := 88))
  have HT0 := Lib.hid (Touch.of_ext (S := Span B (B + 1)) hx0)
  have HC0 := Lib.hid (h.ext hx0)
  have hne : B ≠ w.heap.size := by omega
  have hsz0 : (w.alloc (.cells #[.int .i64 0, .string ⟨#[]⟩, .string ⟨#[]⟩, .int .i64 0, .bool false, .int .i64 0] 88)).heap.size = w.heap.size + 1 := by simp
  have hr0 := hr.1; have hr1 := hr.2
  clear h hx0 hr
  go_enter Try.func73, Try.ntmps73
  obtain ⟨w0, hw0⟩ : ∃ w0, w0 = w.alloc (.cells #[.int .i64 0, .string ⟨#[]⟩, .string ⟨#[]⟩, .int .i64 0, .bool false, .int .i64 0] 88) := ⟨_, rfl⟩
  rw [← hw0] at HC0 HT0 HR0
  have HW0 := Lib.hid hw0
  have HS0 := Lib.hid hsz0
  clear hw0 hsz0
  go_upto_region 1 with fail
  rw [← HW0.out]
  have HA1 := Lib.hid (fun T => cu_lits (T := T) (cs := #[.string ⟨#[97, 110, 110]⟩, .string ⟨#[98, 111]⟩, .string ⟨#[99, 121]⟩, .string ⟨#[100, 105]⟩]) [⟨#[97, 110, 110]⟩, ⟨#[98, 111]⟩, ⟨#[99, 121]⟩, ⟨#[100, 105]⟩] HC0.out (by omega) rfl (by decide) (by decide) (by decide))
  go_wp2_with fail
  refine (HA1.out _).mono ?_
  rintro e w1 ⟨a, rfl, ha, hc, ht⟩
  have HC1 := Lib.hid hc; have HT1 := Lib.hid (HT0.out.trans ht)
  have HR1 := Lib.hid (HR0.out.curs ht hne)
  clear hc ht HC0 HT0 HA1 HR0
  have HA2 := Lib.hid (fun T => cu_lits (T := T) (cs := #[.string ⟨#[104, 105, 108, 108]⟩, .string ⟨#[104, 105, 108, 108]⟩, .string ⟨#[102, 101, 110]⟩, .string ⟨#[111, 97, 107]⟩]) [⟨#[104, 105, 108, 108]⟩, ⟨#[104, 105, 108, 108]⟩, ⟨#[102, 101, 110]⟩, ⟨#[111, 97, 107]⟩] HC1.out (by omega) rfl (by decide) (by decide) (by decide))
  go_wp2_with fail
  refine (HA2.out _).mono ?_
  rintro e w2 ⟨b, rfl, hb, hc, ht⟩
  have HC2 := Lib.hid hc; have HT2 := Lib.hid (HT1.out.trans ht)
  have HR2 := Lib.hid (HR1.out.curs ht hne)
  clear hc ht HC1 HT1 HA2 HR1
  have HA3 := Lib.hid (fun T => cu_lit (T := T) (cs := #[.int .i64 1920, .int .i64 1960, .int .i64 1990, .int .i64 2008, .int .i64 2020]) [1920, 1960, 1990, 2008, 2020] 1920 2020 HC2.out (by omega) rfl (by decide) (by decide) (by decide))
  go_wp2_with fail
  refine (HA3.out _).mono ?_
  rintro e w3 ⟨c, rfl, hc, hc, ht⟩
  have HC3 := Lib.hid hc; have HT3 := Lib.hid (HT2.out.trans ht)
  have HR3 := Lib.hid (HR2.out.curs ht hne)
  clear hc ht HC2 HT2 HA3 HR2
  have hc0 := hc.1; have hc1 := hc.2
  clear hc
  have HA4 := Lib.hid (cu_one (N := 2) HC3.out (by omega) (by decide) (by decide))
  go_wp2_with fail
  refine HA4.out.mono ?_
  rintro e w4 ⟨g, rfl, hc, ht⟩
  have HC4 := Lib.hid hc; have HT4 := Lib.hid (HT3.out.trans ht)
  have HR4 := Lib.hid (HR3.out.curs ht hne)
  clear hc ht HC3 HT3 HA4 HR3
  have HA5 := Lib.hid (fun T => cu_lit (T := T) (cs := #[.int .i64 0, .int .i64 0, .int .i64 1, .int .i64 7, .int .i64 8, .int .i64 9, .int .i64 815, .int .i64 9999]) [0, 0, 1, 7, 8, 9, 815, 9999] 0 9999 HC4.out (by omega) rfl (by decide) (by decide) (by decide))
  go_wp2_with fail
  refine (HA5.out _).mono ?_
  rintro e w5 ⟨k, rfl, hk, hc, ht⟩
  have HC5 := Lib.hid hc; have HT5 := Lib.hid (HT4.out.trans ht)
  have HR5 := Lib.hid (HR4.out.curs ht hne)
  clear hc ht HC4 HT4 HA5 HR4
  have hk0 := hk.1; have hk1 := hk.2
  clear hk
  have hX : w.heap.size ≤ w5.heap.size := HT5.out.size
  have hne2 : B ≠ w5.heap.size := by omega
  have hRX : w.heap.size ≠ w5.heap.size := by have := HR5.out.lt; omega
  have HC6 := Lib.hid (HC5.out.ext ((Ext.refl w5).alloc (.cells #[.int .i64 r, .string a, .string b, .int .i64 c, .bool g, .int .i64 k] 88))); have HT6 := Lib.hid (HT5.out.trans (Touch.of_ext ((Ext.refl w5).alloc (.cells #[.int .i64 r, .string a, .string b, .int .i64 c, .bool g, .int .i64 k] 88)))); have HR6 := Lib.hid (HR5.out.ext ((Ext.refl w5).alloc (.cells #[.int .i64 r, .string a, .string b, .int .i64 c, .bool g, .int .i64 k] 88)))
  have HP6 := Lib.hid (Bx.of (w := w5) (cs := #[.int .i64 r, .string a, .string b, .int .i64 c, .bool g, .int .i64 k]) (T := 88))
  clear HC5 HT5 HR5
  have HA7 := Lib.hid (cu_pick (N := 70) HC6.out (by omega) (by decide) (by decide))
  go_wp2_with fail
  refine HA7.out.mono ?_
  rintro e w7 ⟨y, rfl, hy, hc, ht⟩
  have HC7 := Lib.hid hc; have HT7 := Lib.hid (HT6.out.trans ht)
  have HR7 := Lib.hid (HR6.out.curs ht hne)
  have HP7 := Lib.hid (HP6.out.curs ht hne2)
  clear hc ht HC6 HT6 HA7 HR6 HP6
  have hy0 := hy.1; have hy1 := hy.2
  clear hy
  have HOK := Lib.hid (show rnIn ⟨r, a, b, c, g, k⟩ from ⟨⟨by show 0 ≤ r; omega, by show r ≤ 1000; omega⟩, ha, hb, ⟨by show 1919 ≤ c; omega, by show c ≤ 2021; omega⟩, ⟨by show (-1) ≤ k; omega, by show k ≤ 10000; omega⟩⟩)
  generalize w5.heap.size = X at *
  go_upto_block 0 with fail
  go_cut [] (fun wc => ∃ x : Rnr, rnIn x ∧ Bx wc X [.int .i64 x.id, .string x.name, .string x.club, .int .i64 x.born, .bool x.woman, .int .i64 x.card] ∧ Bx wc w.heap.size [.int .i64 0, .string ⟨#[]⟩, .string ⟨#[]⟩, .int .i64 0, .bool false, .int .i64 0] ∧ Cu wc B (n + 8) ∧ Touch w wc (Span B (B + 1)))
  case first =>
    by_cases h0 : y = 0
    · subst h0
      have HA := Lib.hid (fun T => cu_lit (T := T) (cs := #[.int .i64 0, .int .i64 999, .int .i64 1000]) [0, 999, 1000] 0 1000 HC7.out (by omega) rfl (by decide) (by decide) (by decide))
      go_wp2_with fail
      refine (HA.out _).mono ?_; rintro e w8 ⟨v, rfl, hv, hc, ht⟩
      have hP8 := HP7.out.curs ht hne2; have HR8 := Lib.hid (HR7.out.curs ht hne); have q0 := hP8.c 0 _ rfl; have f0 := hP8.fr 0
      have HP8 := Lib.hid hP8; have HC8 := Lib.hid hc; have HT8 := Lib.hid (HT7.out.trans ht); have HV := Lib.hid hv
      clear hP8 hc ht hv
      go_wp2_with fail
      go_meet
      exact ⟨⟨v, a, b, c, g, k⟩, ⟨⟨by show 0 ≤ v; have := HV.out.1; omega, by show v ≤ 1000; have := HV.out.2; omega⟩, HOK.out.f1, HOK.out.f2, HOK.out.f3, HOK.out.f4⟩, HP8.out.set (by simp) (.int .i64 v) rfl, HR8.out.other (by omega), (HC8.out.mono (by omega)).below (base := B + 1) ((Below.refl _ _).setCell (by show B + 1 ≤ X; omega) _) (Nat.lt_succ_self _), HT8.out.below ((Below.refl _ _).setCell (by show w.heap.size ≤ X; omega) _)⟩
    · skip
      by_cases h1 : y = 1
      · subst h1
        have HA := Lib.hid (fun T => cu_lits (T := T) (cs := #[.string ⟨#[]⟩, .string ⟨#[65]⟩, .string ⟨#[97, 98, 99, 100, 101, 102, 103, 104, 105, 106, 107]⟩]) [⟨#[]⟩, ⟨#[65]⟩, ⟨#[97, 98, 99, 100, 101, 102, 103, 104, 105, 106, 107]⟩] HC7.out (by omega) rfl (by decide) (by decide) (by decide))
        go_wp2_with fail
        refine (HA.out _).mono ?_; rintro e w8 ⟨v, rfl, hv, hc, ht⟩
        have hP8 := HP7.out.curs ht hne2; have HR8 := Lib.hid (HR7.out.curs ht hne); have q0 := hP8.c 1 _ rfl; have f0 := hP8.fr 1
        have HP8 := Lib.hid hP8; have HC8 := Lib.hid hc; have HT8 := Lib.hid (HT7.out.trans ht); have HV := Lib.hid hv
        clear hP8 hc ht hv
        go_wp2_with fail
        go_meet
        exact ⟨⟨r, v, b, c, g, k⟩, ⟨HOK.out.f0, HV.out, HOK.out.f2, HOK.out.f3, HOK.out.f4⟩, HP8.out.set (by simp) (.string v) rfl, HR8.out.other (by omega), (HC8.out.mono (by omega)).below (base := B + 1) ((Below.refl _ _).setCell (by show B + 1 ≤ X; omega) _) (Nat.lt_succ_self _), HT8.out.below ((Below.refl _ _).setCell (by show w.heap.size ≤ X; omega) _)⟩
      · skip
        by_cases h2 : y = 2
        · subst h2
          have HA := Lib.hid (fun T => cu_lits (T := T) (cs := #[.string ⟨#[]⟩, .string ⟨#[65]⟩, .string ⟨#[97, 98, 99, 100, 101, 102, 103, 104, 105, 106, 107]⟩]) [⟨#[]⟩, ⟨#[65]⟩, ⟨#[97, 98, 99, 100, 101, 102, 103, 104, 105, 106, 107]⟩] HC7.out (by omega) rfl (by decide) (by decide) (by decide))
          go_wp2_with fail
          refine (HA.out _).mono ?_; rintro e w8 ⟨v, rfl, hv, hc, ht⟩
          have hP8 := HP7.out.curs ht hne2; have HR8 := Lib.hid (HR7.out.curs ht hne); have q0 := hP8.c 2 _ rfl; have f0 := hP8.fr 2
          have HP8 := Lib.hid hP8; have HC8 := Lib.hid hc; have HT8 := Lib.hid (HT7.out.trans ht); have HV := Lib.hid hv
          clear hP8 hc ht hv
          go_wp2_with fail
          go_meet
          exact ⟨⟨r, a, v, c, g, k⟩, ⟨HOK.out.f0, HOK.out.f1, HV.out, HOK.out.f3, HOK.out.f4⟩, HP8.out.set (by simp) (.string v) rfl, HR8.out.other (by omega), (HC8.out.mono (by omega)).below (base := B + 1) ((Below.refl _ _).setCell (by show B + 1 ≤ X; omega) _) (Nat.lt_succ_self _), HT8.out.below ((Below.refl _ _).setCell (by show w.heap.size ≤ X; omega) _)⟩
        · skip
          by_cases h3 : y = 3
          · subst h3
            have HA := Lib.hid (fun T => cu_lit (T := T) (cs := #[.int .i64 1919, .int .i64 2021]) [1919, 2021] 1919 2021 HC7.out (by omega) rfl (by decide) (by decide) (by decide))
            go_wp2_with fail
            refine (HA.out _).mono ?_; rintro e w8 ⟨v, rfl, hv, hc, ht⟩
            have hP8 := HP7.out.curs ht hne2; have HR8 := Lib.hid (HR7.out.curs ht hne); have q0 := hP8.c 3 _ rfl; have f0 := hP8.fr 3
            have HP8 := Lib.hid hP8; have HC8 := Lib.hid hc; have HT8 := Lib.hid (HT7.out.trans ht); have HV := Lib.hid hv
            clear hP8 hc ht hv
            go_wp2_with fail
            go_meet
            exact ⟨⟨r, a, b, v, g, k⟩, ⟨HOK.out.f0, HOK.out.f1, HOK.out.f2, ⟨by show 1919 ≤ v; have := HV.out.1; omega, by show v ≤ 2021; have := HV.out.2; omega⟩, HOK.out.f4⟩, HP8.out.set (by simp) (.int .i64 v) rfl, HR8.out.other (by omega), (HC8.out.mono (by omega)).below (base := B + 1) ((Below.refl _ _).setCell (by show B + 1 ≤ X; omega) _) (Nat.lt_succ_self _), HT8.out.below ((Below.refl _ _).setCell (by show w.heap.size ≤ X; omega) _)⟩
          · skip
            by_cases h4 : y = 4
            · subst h4
              have HA := Lib.hid (fun T => cu_lit (T := T) (cs := #[.int .i64 (-1), .int .i64 10000]) [-1, 10000] (-1) 10000 HC7.out (by omega) rfl (by decide) (by decide) (by decide))
              go_wp2_with fail
              refine (HA.out _).mono ?_; rintro e w8 ⟨v, rfl, hv, hc, ht⟩
              have hP8 := HP7.out.curs ht hne2; have HR8 := Lib.hid (HR7.out.curs ht hne); have q0 := hP8.c 5 _ rfl; have f0 := hP8.fr 5
              have HP8 := Lib.hid hP8; have HC8 := Lib.hid hc; have HT8 := Lib.hid (HT7.out.trans ht); have HV := Lib.hid hv
              clear hP8 hc ht hv
              go_wp2_with fail
              go_meet
              exact ⟨⟨r, a, b, c, g, v⟩, ⟨HOK.out.f0, HOK.out.f1, HOK.out.f2, HOK.out.f3, ⟨by show (-1) ≤ v; have := HV.out.1; omega, by show v ≤ 10000; have := HV.out.2; omega⟩⟩, HP8.out.set (by simp) (.int .i64 v) rfl, HR8.out.other (by omega), (HC8.out.mono (by omega)).below (base := B + 1) ((Below.refl _ _).setCell (by show B + 1 ≤ X; omega) _) (Nat.lt_succ_self _), HT8.out.below ((Below.refl _ _).setCell (by show w.heap.size ≤ X; omega) _)⟩
            · skip
              go_wp2_with fail
              go_meet
              exact ⟨_, HOK.out, HP7.out, HR7.out, HC7.out.mono (by omega), HT7.out⟩
  case rest =>
    obtain ⟨x, hok, hP, hR, hC, hT⟩ := hcut
    have p0 := hP.c 0 _ rfl
    have p1 := hP.c 1 _ rfl
    have p2 := hP.c 2 _ rfl
    have p3 := hP.c 3 _ rfl
    have p4 := hP.c 4 _ rfl
    have p5 := hP.c 5 _ rfl
    have r0 := hR.c 0 _ rfl
    have r1 := hR.c 1 _ rfl
    have r2 := hR.c 2 _ rfl
    have r3 := hR.c 3 _ rfl
    have r4 := hR.c 4 _ rfl
    have r5 := hR.c 5 _ rfl
    have f0 := hR.fr 0
    have f1 := hR.fr 1
    have f2 := hR.fr 2
    have f3 := hR.fr 3
    have f4 := hR.fr 4
    have f5 := hR.fr 5
    have pl := hP.lt; have rl := hR.lt
    have HC := Lib.hid hC; have HT := Lib.hid hT; have HK := Lib.hid hok
    clear hok hC hT hP hR HC7 HT7 HR7 HP7 HOK
    go_wp2
    refine bodyPost_ret (v := .agg #[.int .i64 x.id, .string x.name, .string x.club, .int .i64 x.born, .bool x.woman, .int .i64 x.card]) ?_ rfl ?_
    · simp [results, Try.results73, go_sem, cell_put, r0, r1, r2, r3, r4, r5]
    · refine ⟨x, rfl, HK.out, ?_, ?_⟩
      · exact HC.out.below (base := w.heap.size) ((((((((Below.refl _ _).setCell (by exact Nat.le_refl _) _).setCell (by exact Nat.le_refl _) _).setCell (by exact Nat.le_refl _) _).setCell (by exact Nat.le_refl _) _).setCell (by exact Nat.le_refl _) _).setCell (by exact Nat.le_refl _) _)) hBl
      · exact HT.out.below ((((((((Below.refl _ _).setCell (by exact Nat.le_refl _) _).setCell (by exact Nat.le_refl _) _).setCell (by exact Nat.le_refl _) _).setCell (by exact Nat.le_refl _) _).setCell (by exact Nat.le_refl _) _).setCell (by exact Nat.le_refl _) _))

end Go.Proofs.Ytkejhhflpnfepaa
