/-
  Proved here: the cursor's fees.
  Conditions: the cursor lies in one block; counts are small.
-/
import Derived.Test.YtkejhhflpnfepaaBx
import Derived.Test.YtkejhhflpnfepaaFeePl
import Derived.Deep.DeepCutAuto
import Derived.Deep.CutBlock
namespace Go.Proofs.Ytkejhhflpnfepaa
open Go.RowKit

def Fee.val (x : Fee) : Value := .agg #[.int .i64 x.adult, .int .i64 x.child, .int .i64 x.rent, .int .i64 x.late]

/-- bounds of drawn fees -/
structure feIn (x : Fee) : Prop where
  f0 : -1 ≤ x.adult ∧ x.adult ≤ 20001
  f1 : -1 ≤ x.child ∧ x.child ≤ 20001
  f2 : -1 ≤ x.rent ∧ x.rent ≤ 20001
  f3 : -1 ≤ x.late ∧ x.late ≤ 101

set_option maxRecDepth 100000 in
set_option maxHeartbeats 4000000 in
theorem cu_fees {B n : Nat} {w : World} (h : Cu w B n) (hn : n ≤ 900000) :
    Calls Try.prog 59 #[.pointer (some ⟨B, 0, none⟩)] w fun e w' => ∃ x : Fee, e = .returned x.val ∧ feIn x ∧ Cu w' B (n + 6) ∧ Touch w w' (Span B (B + 1)) := by
  have hBl := h.lt
  have hx0 := (Ext.refl w).alloc (.cells #[.int .i64 0, .int .i64 0, .int .i64 0, .int .i64 0] 50)
  have HR0 := Lib.hid (Bx.of (w := w) (cs := #[.int .i64 0, .int .i64 0, .int .i64 0, .int .i64 0]) (T := 50))
  have HT0 := Lib.hid (Touch.of_ext (S := Span B (B + 1)) hx0)
  have HC0 := Lib.hid (h.ext hx0)
  have hne : B ≠ w.heap.size := by omega
  have hsz0 : (w.alloc (.cells #[.int .i64 0, .int .i64 0, .int .i64 0, .int .i64 0] 50)).heap.size = w.heap.size + 1 := by simp
  clear h hx0
  go_enter Try.func59, Try.ntmps59
  obtain ⟨w0, hw0⟩ : ∃ w0, w0 = w.alloc (.cells #[.int .i64 0, .int .i64 0, .int .i64 0, .int .i64 0] 50) := ⟨_, rfl⟩
  rw [← hw0] at HC0 HT0 HR0
  have HW0 := Lib.hid hw0
  have HS0 := Lib.hid hsz0
  clear hw0 hsz0
  go_upto_region 1 with fail
  rw [← HW0.out]
  have HA1 := Lib.hid (fun T => cu_lit (T := T) (cs := #[.int .i64 0, .int .i64 999, .int .i64 1500, .int .i64 20000]) [0, 999, 1500, 20000] 0 20000 HC0.out (by omega) rfl (by decide) (by decide) (by decide))
  go_wp2_with fail
  refine (HA1.out _).mono ?_
  rintro e w1 ⟨a, rfl, ha, hc, ht⟩
  have HC1 := Lib.hid hc; have HT1 := Lib.hid (HT0.out.trans ht)
  have HR1 := Lib.hid (HR0.out.curs ht hne)
  clear hc ht HC0 HT0 HA1 HR0
  have ha0 := ha.1; have ha1 := ha.2
  clear ha
  have HA2 := Lib.hid (fun T => cu_lit (T := T) (cs := #[.int .i64 0, .int .i64 333, .int .i64 500]) [0, 333, 500] 0 500 HC1.out (by omega) rfl (by decide) (by decide) (by decide))
  go_wp2_with fail
  refine (HA2.out _).mono ?_
  rintro e w2 ⟨c, rfl, hc, hc, ht⟩
  have HC2 := Lib.hid hc; have HT2 := Lib.hid (HT1.out.trans ht)
  have HR2 := Lib.hid (HR1.out.curs ht hne)
  clear hc ht HC1 HT1 HA2 HR1
  have hc0 := hc.1; have hc1 := hc.2
  clear hc
  have HA3 := Lib.hid (fun T => cu_lit (T := T) (cs := #[.int .i64 0, .int .i64 200]) [0, 200] 0 200 HC2.out (by omega) rfl (by decide) (by decide) (by decide))
  go_wp2_with fail
  refine (HA3.out _).mono ?_
  rintro e w3 ⟨d, rfl, hd, hc, ht⟩
  have HC3 := Lib.hid hc; have HT3 := Lib.hid (HT2.out.trans ht)
  have HR3 := Lib.hid (HR2.out.curs ht hne)
  clear hc ht HC2 HT2 HA3 HR2
  have hd0 := hd.1; have hd1 := hd.2
  clear hd
  have HA4 := Lib.hid (fun T => cu_lit (T := T) (cs := #[.int .i64 0, .int .i64 20, .int .i64 33, .int .i64 100]) [0, 20, 33, 100] 0 100 HC3.out (by omega) rfl (by decide) (by decide) (by decide))
  go_wp2_with fail
  refine (HA4.out _).mono ?_
  rintro e w4 ⟨p, rfl, hp, hc, ht⟩
  have HC4 := Lib.hid hc; have HT4 := Lib.hid (HT3.out.trans ht)
  have HR4 := Lib.hid (HR3.out.curs ht hne)
  clear hc ht HC3 HT3 HA4 HR3
  have hp0 := hp.1; have hp1 := hp.2
  clear hp
  have hX : w.heap.size ≤ w4.heap.size := HT4.out.size
  have hne2 : B ≠ w4.heap.size := by omega
  have hRX : w.heap.size ≠ w4.heap.size := by have := HR4.out.lt; omega
  have HC5 := Lib.hid (HC4.out.ext ((Ext.refl w4).alloc (.cells #[.int .i64 a, .int .i64 c, .int .i64 d, .int .i64 p] 50))); have HT5 := Lib.hid (HT4.out.trans (Touch.of_ext ((Ext.refl w4).alloc (.cells #[.int .i64 a, .int .i64 c, .int .i64 d, .int .i64 p] 50)))); have HR5 := Lib.hid (HR4.out.ext ((Ext.refl w4).alloc (.cells #[.int .i64 a, .int .i64 c, .int .i64 d, .int .i64 p] 50)))
  have HP5 := Lib.hid (Bx.of (w := w4) (cs := #[.int .i64 a, .int .i64 c, .int .i64 d, .int .i64 p]) (T := 50))
  clear HC4 HT4 HR4
  have HA6 := Lib.hid (cu_pick (N := 60) HC5.out (by omega) (by decide) (by decide))
  go_wp2_with fail
  refine HA6.out.mono ?_
  rintro e w6 ⟨y, rfl, hy, hc, ht⟩
  have HC6 := Lib.hid hc; have HT6 := Lib.hid (HT5.out.trans ht)
  have HR6 := Lib.hid (HR5.out.curs ht hne)
  have HP6 := Lib.hid (HP5.out.curs ht hne2)
  clear hc ht HC5 HT5 HA6 HR5 HP5
  have hy0 := hy.1; have hy1 := hy.2
  clear hy
  have HOK := Lib.hid (show feIn ⟨a, c, d, p⟩ from ⟨⟨by show (-1) ≤ a; omega, by show a ≤ 20001; omega⟩, ⟨by show (-1) ≤ c; omega, by show c ≤ 20001; omega⟩, ⟨by show (-1) ≤ d; omega, by show d ≤ 20001; omega⟩, ⟨by show (-1) ≤ p; omega, by show p ≤ 101; omega⟩⟩)
  generalize w4.heap.size = X at *
  go_upto_block 0 with fail
  go_cut [] (fun wc => ∃ x : Fee, feIn x ∧ Bx wc X [.int .i64 x.adult, .int .i64 x.child, .int .i64 x.rent, .int .i64 x.late] ∧ Bx wc w.heap.size [.int .i64 0, .int .i64 0, .int .i64 0, .int .i64 0] ∧ Cu wc B (n + 6) ∧ Touch w wc (Span B (B + 1)))
  case first =>
    by_cases h0 : y = 0
    · subst h0
      have HA := Lib.hid (fun T => cu_lit (T := T) (cs := #[.int .i64 (-1), .int .i64 20001]) [-1, 20001] (-1) 20001 HC6.out (by omega) rfl (by decide) (by decide) (by decide))
      go_wp2_with fail
      refine (HA.out _).mono ?_; rintro e w8 ⟨v, rfl, hv, hc, ht⟩
      have hP8 := HP6.out.curs ht hne2; have HR8 := Lib.hid (HR6.out.curs ht hne); have q0 := hP8.c 0 _ rfl; have f0 := hP8.fr 0
      have HP8 := Lib.hid hP8; have HC8 := Lib.hid hc; have HT8 := Lib.hid (HT6.out.trans ht); have HV := Lib.hid hv
      clear hP8 hc ht hv
      go_wp2_with fail
      go_meet
      exact ⟨⟨v, c, d, p⟩, ⟨⟨by show (-1) ≤ v; have := HV.out.1; omega, by show v ≤ 20001; have := HV.out.2; omega⟩, HOK.out.f1, HOK.out.f2, HOK.out.f3⟩, HP8.out.set (by simp) (.int .i64 v) rfl, HR8.out.other (by omega), (HC8.out.mono (by omega)).below (base := B + 1) ((Below.refl _ _).setCell (by show B + 1 ≤ X; omega) _) (Nat.lt_succ_self _), HT8.out.below ((Below.refl _ _).setCell (by show w.heap.size ≤ X; omega) _)⟩
    · skip
      by_cases h1 : y = 1
      · subst h1
        have HA := Lib.hid (fun T => cu_lit (T := T) (cs := #[.int .i64 (-1), .int .i64 20001]) [-1, 20001] (-1) 20001 HC6.out (by omega) rfl (by decide) (by decide) (by decide))
        go_wp2_with fail
        refine (HA.out _).mono ?_; rintro e w8 ⟨v, rfl, hv, hc, ht⟩
        have hP8 := HP6.out.curs ht hne2; have HR8 := Lib.hid (HR6.out.curs ht hne); have q0 := hP8.c 1 _ rfl; have f0 := hP8.fr 1
        have HP8 := Lib.hid hP8; have HC8 := Lib.hid hc; have HT8 := Lib.hid (HT6.out.trans ht); have HV := Lib.hid hv
        clear hP8 hc ht hv
        go_wp2_with fail
        go_meet
        exact ⟨⟨a, v, d, p⟩, ⟨HOK.out.f0, ⟨by show (-1) ≤ v; have := HV.out.1; omega, by show v ≤ 20001; have := HV.out.2; omega⟩, HOK.out.f2, HOK.out.f3⟩, HP8.out.set (by simp) (.int .i64 v) rfl, HR8.out.other (by omega), (HC8.out.mono (by omega)).below (base := B + 1) ((Below.refl _ _).setCell (by show B + 1 ≤ X; omega) _) (Nat.lt_succ_self _), HT8.out.below ((Below.refl _ _).setCell (by show w.heap.size ≤ X; omega) _)⟩
      · skip
        by_cases h2 : y = 2
        · subst h2
          have HA := Lib.hid (fun T => cu_lit (T := T) (cs := #[.int .i64 (-1), .int .i64 20001]) [-1, 20001] (-1) 20001 HC6.out (by omega) rfl (by decide) (by decide) (by decide))
          go_wp2_with fail
          refine (HA.out _).mono ?_; rintro e w8 ⟨v, rfl, hv, hc, ht⟩
          have hP8 := HP6.out.curs ht hne2; have HR8 := Lib.hid (HR6.out.curs ht hne); have q0 := hP8.c 2 _ rfl; have f0 := hP8.fr 2
          have HP8 := Lib.hid hP8; have HC8 := Lib.hid hc; have HT8 := Lib.hid (HT6.out.trans ht); have HV := Lib.hid hv
          clear hP8 hc ht hv
          go_wp2_with fail
          go_meet
          exact ⟨⟨a, c, v, p⟩, ⟨HOK.out.f0, HOK.out.f1, ⟨by show (-1) ≤ v; have := HV.out.1; omega, by show v ≤ 20001; have := HV.out.2; omega⟩, HOK.out.f3⟩, HP8.out.set (by simp) (.int .i64 v) rfl, HR8.out.other (by omega), (HC8.out.mono (by omega)).below (base := B + 1) ((Below.refl _ _).setCell (by show B + 1 ≤ X; omega) _) (Nat.lt_succ_self _), HT8.out.below ((Below.refl _ _).setCell (by show w.heap.size ≤ X; omega) _)⟩
        · skip
          by_cases h3 : y = 3
          · subst h3
            have HA := Lib.hid (fun T => cu_lit (T := T) (cs := #[.int .i64 (-1), .int .i64 101]) [-1, 101] (-1) 101 HC6.out (by omega) rfl (by decide) (by decide) (by decide))
            go_wp2_with fail
            refine (HA.out _).mono ?_; rintro e w8 ⟨v, rfl, hv, hc, ht⟩
            have hP8 := HP6.out.curs ht hne2; have HR8 := Lib.hid (HR6.out.curs ht hne); have q0 := hP8.c 3 _ rfl; have f0 := hP8.fr 3
            have HP8 := Lib.hid hP8; have HC8 := Lib.hid hc; have HT8 := Lib.hid (HT6.out.trans ht); have HV := Lib.hid hv
            clear hP8 hc ht hv
            go_wp2_with fail
            go_meet
            exact ⟨⟨a, c, d, v⟩, ⟨HOK.out.f0, HOK.out.f1, HOK.out.f2, ⟨by show (-1) ≤ v; have := HV.out.1; omega, by show v ≤ 101; have := HV.out.2; omega⟩⟩, HP8.out.set (by simp) (.int .i64 v) rfl, HR8.out.other (by omega), (HC8.out.mono (by omega)).below (base := B + 1) ((Below.refl _ _).setCell (by show B + 1 ≤ X; omega) _) (Nat.lt_succ_self _), HT8.out.below ((Below.refl _ _).setCell (by show w.heap.size ≤ X; omega) _)⟩
          · skip
            go_wp2_with fail
            go_meet
            exact ⟨_, HOK.out, HP6.out, HR6.out, HC6.out.mono (by omega), HT6.out⟩
  case rest =>
    obtain ⟨x, hok, hP, hR, hC, hT⟩ := hcut
    have p0 := hP.c 0 _ rfl
    have p1 := hP.c 1 _ rfl
    have p2 := hP.c 2 _ rfl
    have p3 := hP.c 3 _ rfl
    have r0 := hR.c 0 _ rfl
    have r1 := hR.c 1 _ rfl
    have r2 := hR.c 2 _ rfl
    have r3 := hR.c 3 _ rfl
    have f0 := hR.fr 0
    have f1 := hR.fr 1
    have f2 := hR.fr 2
    have f3 := hR.fr 3
    have pl := hP.lt; have rl := hR.lt
    have HC := Lib.hid hC; have HT := Lib.hid hT; have HK := Lib.hid hok
    clear hok hC hT hP hR HC6 HT6 HR6 HP6 HOK
    go_wp2
    refine bodyPost_ret (v := .agg #[.int .i64 x.adult, .int .i64 x.child, .int .i64 x.rent, .int .i64 x.late]) ?_ rfl ?_
    · simp [results, Try.results59, go_sem, cell_put, r0, r1, r2, r3]
    · refine ⟨x, rfl, HK.out, ?_, ?_⟩
      · exact HC.out.below (base := w.heap.size) ((((((Below.refl _ _).setCell (by exact Nat.le_refl _) _).setCell (by exact Nat.le_refl _) _).setCell (by exact Nat.le_refl _) _).setCell (by exact Nat.le_refl _) _)) hBl
      · exact HT.out.below ((((((Below.refl _ _).setCell (by exact Nat.le_refl _) _).setCell (by exact Nat.le_refl _) _).setCell (by exact Nat.le_refl _) _).setCell (by exact Nat.le_refl _) _))

end Go.Proofs.Ytkejhhflpnfepaa
