/-
  Proved here: the cursor's entry11.
  Conditions: the cursor lies in one block; counts are small.
-/
import Derived.Test.YtkejhhflpnfepaaBx
import Derived.Test.YtkejhhflpnfepaaEntPl
import Derived.Deep.DeepCutAuto
import Derived.Deep.CutBlock
namespace Go.Proofs.Ytkejhhflpnfepaa
open Go.RowKit

/-- bounds of a drawn entry -/
structure entIn (x : Ent) : Prop where
  f0 : 0 ≤ x.runner ∧ x.runner ≤ 1000
  f1 : 0 ≤ x.cls ∧ x.cls ≤ 100
  f2 : -1 ≤ x.day ∧ x.day ≤ 366
  f3 : -1 ≤ x.paid ∧ x.paid ≤ 100001

set_option maxRecDepth 100000 in
set_option maxHeartbeats 4000000 in
theorem cu_entry11 {B n : Nat} {w : World} {r : Int} (h : Cu w B n) (hn : n ≤ 900000) (hr : 0 ≤ r ∧ r ≤ 1000) :
    Calls Try.prog 40 #[.pointer (some ⟨B, 0, none⟩), .int .i64 r] w fun e w' => ∃ x : Ent, e = .returned x.val ∧ entIn x ∧ Cu w' B (n + 7) ∧ Touch w w' (Span B (B + 1)) := by
  have hBl := h.lt
  have hx0 := (Ext.refl w).alloc (.cells #[.int .i64 0, .int .i64 0, .int .i64 0, .bool false, .int .i64 0] 26)
  have HR0 := Lib.hid (Bx.of (w := w) (cs := #[.int .i64 0, .int .i64 0, .int .i64 0, .bool false, .int .i64 0]) (T := 26))
  have HT0 := Lib.hid (Touch.of_ext (S := Span B (B + 1)) hx0)
  have HC0 := Lib.hid (h.ext hx0)
  have hne : B ≠ w.heap.size := by omega
  have hsz0 : (w.alloc (.cells #[.int .i64 0, .int .i64 0, .int .i64 0, .bool false, .int .i64 0] 26)).heap.size = w.heap.size + 1 := by simp
  have hr0 := hr.1; have hr1 := hr.2
  clear h hx0 hr
  go_enter Try.func40, Try.ntmps40
  obtain ⟨w0, hw0⟩ : ∃ w0, w0 = w.alloc (.cells #[.int .i64 0, .int .i64 0, .int .i64 0, .bool false, .int .i64 0] 26) := ⟨_, rfl⟩
  rw [← hw0] at HC0 HT0 HR0
  have HW0 := Lib.hid hw0
  have HS0 := Lib.hid hsz0
  clear hw0 hsz0
  go_upto_region 1 with fail
  rw [← HW0.out]
  have HA1 := Lib.hid (fun T => cu_lit (T := T) (cs := #[.int .i64 1, .int .i64 2, .int .i64 2, .int .i64 99]) [1, 2, 2, 99] 1 99 HC0.out (by omega) rfl (by decide) (by decide) (by decide))
  go_wp2_with fail
  refine (HA1.out _).mono ?_
  rintro e w1 ⟨c, rfl, hc, hc, ht⟩
  have HC1 := Lib.hid hc; have HT1 := Lib.hid (HT0.out.trans ht)
  have HR1 := Lib.hid (HR0.out.curs ht hne)
  clear hc ht HC0 HT0 HA1 HR0
  have hc0 := hc.1; have hc1 := hc.2
  clear hc
  have HA2 := Lib.hid (fun T => cu_lit (T := T) (cs := #[.int .i64 0, .int .i64 299, .int .i64 300, .int .i64 365]) [0, 299, 300, 365] 0 365 HC1.out (by omega) rfl (by decide) (by decide) (by decide))
  go_wp2_with fail
  refine (HA2.out _).mono ?_
  rintro e w2 ⟨d, rfl, hd, hc, ht⟩
  have HC2 := Lib.hid hc; have HT2 := Lib.hid (HT1.out.trans ht)
  have HR2 := Lib.hid (HR1.out.curs ht hne)
  clear hc ht HC1 HT1 HA2 HR1
  have hd0 := hd.1; have hd1 := hd.2
  clear hd
  have HA3 := Lib.hid (cu_one (N := 3) HC2.out (by omega) (by decide) (by decide))
  go_wp2_with fail
  refine HA3.out.mono ?_
  rintro e w3 ⟨g, rfl, hc, ht⟩
  have HC3 := Lib.hid hc; have HT3 := Lib.hid (HT2.out.trans ht)
  have HR3 := Lib.hid (HR2.out.curs ht hne)
  clear hc ht HC2 HT2 HA3 HR2
  have HA4 := Lib.hid (fun T => cu_lit (T := T) (cs := #[.int .i64 0, .int .i64 0, .int .i64 999, .int .i64 1500, .int .i64 100000]) [0, 0, 999, 1500, 100000] 0 100000 HC3.out (by omega) rfl (by decide) (by decide) (by decide))
  go_wp2_with fail
  refine (HA4.out _).mono ?_
  rintro e w4 ⟨p, rfl, hp, hc, ht⟩
  have HC4 := Lib.hid hc; have HT4 := Lib.hid (HT3.out.trans ht)
  have HR4 := Lib.hid (HR3.out.curs ht hne)
  clear hc ht HC3 HT3 HA4 HR3
  have hp0 := hp.1; have hp1 := hp.2
  clear hp
  have hX : w.heap.size ≤ w4.heap.size := HT4.out.size
  have hne2 : B ≠ w4.heap.size := by omega
  have hRX : w.heap.size ≠ w4.heap.size := by have := HR4.out.lt; omega
  have HC5 := Lib.hid (HC4.out.ext ((Ext.refl w4).alloc (.cells #[.int .i64 r, .int .i64 c, .int .i64 d, .bool g, .int .i64 p] 26))); have HT5 := Lib.hid (HT4.out.trans (Touch.of_ext ((Ext.refl w4).alloc (.cells #[.int .i64 r, .int .i64 c, .int .i64 d, .bool g, .int .i64 p] 26)))); have HR5 := Lib.hid (HR4.out.ext ((Ext.refl w4).alloc (.cells #[.int .i64 r, .int .i64 c, .int .i64 d, .bool g, .int .i64 p] 26)))
  have HP5 := Lib.hid (Bx.of (w := w4) (cs := #[.int .i64 r, .int .i64 c, .int .i64 d, .bool g, .int .i64 p]) (T := 26))
  clear HC4 HT4 HR4
  have HA6 := Lib.hid (cu_pick (N := 70) HC5.out (by omega) (by decide) (by decide))
  go_wp2_with fail
  refine HA6.out.mono ?_
  rintro e w6 ⟨y, rfl, hy, hc, ht⟩
  have HC6 := Lib.hid hc; have HT6 := Lib.hid (HT5.out.trans ht)
  have HR6 := Lib.hid (HR5.out.curs ht hne)
  have HP6 := Lib.hid (HP5.out.curs ht hne2)
  clear hc ht HC5 HT5 HA6 HR5 HP5
  have hy0 := hy.1; have hy1 := hy.2
  clear hy
  have HOK := Lib.hid (show entIn ⟨r, c, d, g, p⟩ from ⟨⟨by show 0 ≤ r; omega, by show r ≤ 1000; omega⟩, ⟨by show 0 ≤ c; omega, by show c ≤ 100; omega⟩, ⟨by show (-1) ≤ d; omega, by show d ≤ 366; omega⟩, ⟨by show (-1) ≤ p; omega, by show p ≤ 100001; omega⟩⟩)
  generalize w4.heap.size = X at *
  go_upto_block 0 with fail
  go_cut [] (fun wc => ∃ x : Ent, entIn x ∧ Bx wc X [.int .i64 x.runner, .int .i64 x.cls, .int .i64 x.day, .bool x.rent, .int .i64 x.paid] ∧ Bx wc w.heap.size [.int .i64 0, .int .i64 0, .int .i64 0, .bool false, .int .i64 0] ∧ Cu wc B (n + 7) ∧ Touch w wc (Span B (B + 1)))
  case first =>
    by_cases h0 : y = 0
    · subst h0
      have HA := Lib.hid (fun T => cu_lit (T := T) (cs := #[.int .i64 0, .int .i64 999, .int .i64 1000]) [0, 999, 1000] 0 1000 HC6.out (by omega) rfl (by decide) (by decide) (by decide))
      go_wp2_with fail
      refine (HA.out _).mono ?_; rintro e w8 ⟨v, rfl, hv, hc, ht⟩
      have hP8 := HP6.out.curs ht hne2; have HR8 := Lib.hid (HR6.out.curs ht hne); have q0 := hP8.c 0 _ rfl; have f0 := hP8.fr 0
      have HP8 := Lib.hid hP8; have HC8 := Lib.hid hc; have HT8 := Lib.hid (HT6.out.trans ht); have HV := Lib.hid hv
      clear hP8 hc ht hv
      go_wp2_with fail
      go_meet
      exact ⟨⟨v, c, d, g, p⟩, ⟨⟨by show 0 ≤ v; have := HV.out.1; omega, by show v ≤ 1000; have := HV.out.2; omega⟩, HOK.out.f1, HOK.out.f2, HOK.out.f3⟩, HP8.out.set (by simp) (.int .i64 v) rfl, HR8.out.other (by omega), (HC8.out.mono (by omega)).below (base := B + 1) ((Below.refl _ _).setCell (by show B + 1 ≤ X; omega) _) (Nat.lt_succ_self _), HT8.out.below ((Below.refl _ _).setCell (by show w.heap.size ≤ X; omega) _)⟩
    · skip
      by_cases h1 : y = 1
      · subst h1
        have HA := Lib.hid (fun T => cu_lit (T := T) (cs := #[.int .i64 0, .int .i64 100]) [0, 100] 0 100 HC6.out (by omega) rfl (by decide) (by decide) (by decide))
        go_wp2_with fail
        refine (HA.out _).mono ?_; rintro e w8 ⟨v, rfl, hv, hc, ht⟩
        have hP8 := HP6.out.curs ht hne2; have HR8 := Lib.hid (HR6.out.curs ht hne); have q0 := hP8.c 1 _ rfl; have f0 := hP8.fr 1
        have HP8 := Lib.hid hP8; have HC8 := Lib.hid hc; have HT8 := Lib.hid (HT6.out.trans ht); have HV := Lib.hid hv
        clear hP8 hc ht hv
        go_wp2_with fail
        go_meet
        exact ⟨⟨r, v, d, g, p⟩, ⟨HOK.out.f0, ⟨by show 0 ≤ v; have := HV.out.1; omega, by show v ≤ 100; have := HV.out.2; omega⟩, HOK.out.f2, HOK.out.f3⟩, HP8.out.set (by simp) (.int .i64 v) rfl, HR8.out.other (by omega), (HC8.out.mono (by omega)).below (base := B + 1) ((Below.refl _ _).setCell (by show B + 1 ≤ X; omega) _) (Nat.lt_succ_self _), HT8.out.below ((Below.refl _ _).setCell (by show w.heap.size ≤ X; omega) _)⟩
      · skip
        by_cases h2 : y = 2
        · subst h2
          have HA := Lib.hid (fun T => cu_lit (T := T) (cs := #[.int .i64 (-1), .int .i64 366]) [-1, 366] (-1) 366 HC6.out (by omega) rfl (by decide) (by decide) (by decide))
          go_wp2_with fail
          refine (HA.out _).mono ?_; rintro e w8 ⟨v, rfl, hv, hc, ht⟩
          have hP8 := HP6.out.curs ht hne2; have HR8 := Lib.hid (HR6.out.curs ht hne); have q0 := hP8.c 2 _ rfl; have f0 := hP8.fr 2
          have HP8 := Lib.hid hP8; have HC8 := Lib.hid hc; have HT8 := Lib.hid (HT6.out.trans ht); have HV := Lib.hid hv
          clear hP8 hc ht hv
          go_wp2_with fail
          go_meet
          exact ⟨⟨r, c, v, g, p⟩, ⟨HOK.out.f0, HOK.out.f1, ⟨by show (-1) ≤ v; have := HV.out.1; omega, by show v ≤ 366; have := HV.out.2; omega⟩, HOK.out.f3⟩, HP8.out.set (by simp) (.int .i64 v) rfl, HR8.out.other (by omega), (HC8.out.mono (by omega)).below (base := B + 1) ((Below.refl _ _).setCell (by show B + 1 ≤ X; omega) _) (Nat.lt_succ_self _), HT8.out.below ((Below.refl _ _).setCell (by show w.heap.size ≤ X; omega) _)⟩
        · skip
          by_cases h3 : y = 3
          · subst h3
            have HA := Lib.hid (fun T => cu_lit (T := T) (cs := #[.int .i64 (-1), .int .i64 100001]) [-1, 100001] (-1) 100001 HC6.out (by omega) rfl (by decide) (by decide) (by decide))
            go_wp2_with fail
            refine (HA.out _).mono ?_; rintro e w8 ⟨v, rfl, hv, hc, ht⟩
            have hP8 := HP6.out.curs ht hne2; have HR8 := Lib.hid (HR6.out.curs ht hne); have q0 := hP8.c 4 _ rfl; have f0 := hP8.fr 4
            have HP8 := Lib.hid hP8; have HC8 := Lib.hid hc; have HT8 := Lib.hid (HT6.out.trans ht); have HV := Lib.hid hv
            clear hP8 hc ht hv
            go_wp2_with fail
            go_meet
            exact ⟨⟨r, c, d, g, v⟩, ⟨HOK.out.f0, HOK.out.f1, HOK.out.f2, ⟨by show (-1) ≤ v; have := HV.out.1; omega, by show v ≤ 100001; have := HV.out.2; omega⟩⟩, HP8.out.set (by simp) (.int .i64 v) rfl, HR8.out.other (by omega), (HC8.out.mono (by omega)).below (base := B + 1) ((Below.refl _ _).setCell (by show B + 1 ≤ X; omega) _) (Nat.lt_succ_self _), HT8.out.below ((Below.refl _ _).setCell (by show w.heap.size ≤ X; omega) _)⟩
          · skip
            go_wp2_with fail
            go_meet
            exact ⟨_, HOK.out, HP6.out, HR6.out, HC6.out.mono (by omega), HT6.out⟩
  case rest =>
    obtain ⟨x, hok, hP, hR, hC, hT⟩ := hcut
    have p0 := hP.c 0 _ rfl
    have p1 := hP.c 1 _ rfl
    have p2 := hP.c 2 _ rfl
    have p3 := hP.c 3 _ rfl
    have p4 := hP.c 4 _ rfl
    have r0 := hR.c 0 _ rfl
    have r1 := hR.c 1 _ rfl
    have r2 := hR.c 2 _ rfl
    have r3 := hR.c 3 _ rfl
    have r4 := hR.c 4 _ rfl
    have f0 := hR.fr 0
    have f1 := hR.fr 1
    have f2 := hR.fr 2
    have f3 := hR.fr 3
    have f4 := hR.fr 4
    have pl := hP.lt; have rl := hR.lt
    have HC := Lib.hid hC; have HT := Lib.hid hT; have HK := Lib.hid hok
    clear hok hC hT hP hR HC6 HT6 HR6 HP6 HOK
    go_wp2
    refine bodyPost_ret (v := .agg #[.int .i64 x.runner, .int .i64 x.cls, .int .i64 x.day, .bool x.rent, .int .i64 x.paid]) ?_ rfl ?_
    · simp [results, Try.results40, go_sem, cell_put, r0, r1, r2, r3, r4]
    · refine ⟨x, rfl, HK.out, ?_, ?_⟩
      · exact HC.out.below (base := w.heap.size) (((((((Below.refl _ _).setCell (by exact Nat.le_refl _) _).setCell (by exact Nat.le_refl _) _).setCell (by exact Nat.le_refl _) _).setCell (by exact Nat.le_refl _) _).setCell (by exact Nat.le_refl _) _)) hBl
      · exact HT.out.below (((((((Below.refl _ _).setCell (by exact Nat.le_refl _) _).setCell (by exact Nat.le_refl _) _).setCell (by exact Nat.le_refl _) _).setCell (by exact Nat.le_refl _) _).setCell (by exact Nat.le_refl _) _))

end Go.Proofs.Ytkejhhflpnfepaa
