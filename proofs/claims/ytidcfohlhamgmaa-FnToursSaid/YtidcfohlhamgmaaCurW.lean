/-
  Proved here: the cursor's cellOf, openCell, codeOf and tour; the cursor's map; what the cursor's mapOf returns; what the cursor's site returns: a map, controls; what the cursor's scored returns: a map, controls, a rule.
  Conditions: those in each statement.
-/
import Derived.Test.YtidcfohlhamgmaaCurL
import Derived.Test.YtidcfohlhamgmaaCur5
import Derived.Test.YtidcfohlhamgmaaMap2
import Derived.Test.YtidcfohlhamgmaaCtl1
import Derived.Test.YtidcfohlhamgmaaSco5
import Derived.Test.YtidcfohlhamgmaaSearch
import Derived.Deep.DeepCutAuto
import Derived.Deep.CutBlock
import Derived.Test.YtidcfohlhamgmaaForm
import Derived.Deep.RegionWith
import Derived.Deep.RegionLaw
import Derived.Deep.RegionHeld3
import Derived.Test.YtidcfohlhamgmaaTControl
namespace Go.Proofs.Ytidcfohlhamgmaa
open Go.RowKit

theorem RowAt.curs {w w' : World} {B : Nat} {ao : Option Addr} {s n : Nat} {c : Nat → Nat → Value} (h : RowAt w ao s n c) (ht : Touch w w' (Span B (B + 1))) (hne : ∀ a, ao = some a → a.block ≠ B) : RowAt w' ao s n c := fun hn => by
  obtain ⟨b, off, e, H⟩ := h hn
  refine ⟨b, off, e, fun k hk j hj => ?_⟩
  have h0 := H k hk j hj
  exact (ht.cell (World.block_lt_of_cell? _ _ h0) (fun hs => hne _ e (by have h1 : B ≤ b := hs.1; have h2 : b < B + 1 := hs.2; show b = B; omega))).trans h0

set_option maxRecDepth 100000 in
set_option maxHeartbeats 1000000 in
theorem cu_cellOf {B n : Nat} {w : World} {m : MapD} {ao bo : Option Addr} {ac bc : Nat} (h : Cu w B n) (hn : n ≤ 900000) (hm : m.cost.length ≤ 100) :
    Calls Try.prog 120 #[.pointer (some ⟨B, 0, none⟩), m.val ao ac bo bc] w fun e w' => ∃ x : Int, e = .returned (.int .i64 x) ∧ (-1 ≤ x ∧ x ≤ 100) ∧ Cu w' B (n + 2) ∧ Touch w w' (Span B (B + 1)) := by
  have hx0 := (Ext.refl w).alloc (.cells #[.int .i64 m.wid, .int .i64 m.hei, .slice ao m.rise.length ac, .slice bo m.cost.length bc] 30)
  have p3 : (w.alloc (.cells #[.int .i64 m.wid, .int .i64 m.hei, .slice ao m.rise.length ac, .slice bo m.cost.length bc] 30)).cell? ⟨w.heap.size, 3, none⟩ = some (.slice bo m.cost.length bc) := by go_simp
  have HC0 := Lib.hid (h.ext hx0)
  have HT0 := Lib.hid (Touch.of_ext (S := Span B (B + 1)) hx0)
  have HM := Lib.hid (fun (x : World) => spec_l1Most' (a := 1) (b := (m.cost.length : Nat)) (w := x))
  obtain ⟨N, hN⟩ : ∃ N : Int, N = (if ((m.cost.length : Nat) : Int) < 1 then 1 else ((m.cost.length : Nat) : Int)) := ⟨_, rfl⟩
  rw [← hN] at HM
  have hN1 : 1 ≤ N := by rw [hN]; split <;> omega
  have hN2 : N ≤ 100 := by rw [hN]; split <;> omega
  unfold MapD.val
  clear h hx0 hN
  go_enter Try.func120, Try.ntmps120
  go_wp2_with fail
  refine (HM.out _).mono ?_; rintro e w1 ⟨rfl, rfl⟩
  have HP := Lib.hid (cu_pick (N := N + 1) HC0.out (by omega) (by omega) (by omega))
  clear HM p3
  go_wp2_with fail
  refine HP.out.mono ?_; rintro e w1 ⟨x, rfl, hx, hc, ht⟩
  have HT1 := Lib.hid (HT0.out.trans ht)
  have HP2 := Lib.hid (cu_pick (N := 9) hc (by omega) (by decide) (by decide))
  have hx0 := hx.1; have hx1 := hx.2
  clear ht hc hx HP HC0 HT0
  go_wp2_with fail
  refine HP2.out.mono ?_; rintro e w2 ⟨y, rfl, hy, hc, ht⟩
  have HC2 := Lib.hid hc
  have HT2 := Lib.hid (HT1.out.trans ht)
  have hy9 : y = 0 ∨ y = 1 ∨ y = 2 ∨ y = 3 ∨ y = 4 ∨ y = 5 ∨ y = 6 ∨ y = 7 ∨ y = 8 := by omega
  clear ht hc hy HP2 HT1
  rcases hy9 with rfl | rfl | rfl | rfl | rfl | rfl | rfl | rfl | rfl
  all_goals
    go_wp2
    go_ret
    exact ⟨_, rfl, by omega, HC2.out, HT2.out⟩

set_option maxRecDepth 100000 in
set_option maxHeartbeats 1000000 in
theorem cu_codeOf {B n : Nat} {w : World} {xs : List Ctl} {co : Option Addr} {cap : Nat} (h : Cu w B n) (hn : n ≤ 800000) (hr : RowAt w co 2 xs.length (fun k => (nth xs k).c)) (hl : xs.length ≤ 100) (hne : ∀ a, co = some a → a.block ≠ B) :
    Calls Try.prog 92 #[.pointer (some ⟨B, 0, none⟩), .slice co xs.length cap] w fun e w' => ∃ x : Int, e = .returned (.int .i64 x) ∧ Cu w' B (n + 3) ∧ Touch w w' (Span B (B + 1)) := by
  have HC := Lib.hid h
  by_cases h0 : xs.length = 0
  · have hi0 : (xs.length : Int) = 0 := by omega
    have hd0 : decide ((xs.length : Int) = 0) = true := by simp [h0]
    have HS := Lib.hid (cu_code6 h (by omega))
    have hb0 : ((xs.length : Int) == 0) = true := by simp [h0]
    clear h hr hne
    go_enter Try.func92, Try.ntmps92
    go_wp2_with fail
    refine HS.out.mono ?_; rintro e w1 ⟨x, rfl, _, hc, ht⟩
    have HC1 := Lib.hid hc; have HT1 := Lib.hid ht
    clear hc ht
    go_wp2
    go_ret
    exact ⟨x, rfl, HC1.out.mono (by omega), HT1.out⟩
  · have hi0 : ¬ (xs.length : Int) = 0 := by omega
    have hd0 : decide ((xs.length : Int) = 0) = false := by simp [h0]
    have hb0 : ((xs.length : Int) == 0) = false := by simp [h0]
    have HO := Lib.hid (cu_one (N := 10) h (by omega) (by decide) (by decide))
    have HR := Lib.hid hr; have HN := Lib.hid hne
    clear h hr hne
    go_enter Try.func92, Try.ntmps92
    go_wp2_with fail
    refine HO.out.mono ?_; rintro e w1 ⟨b, rfl, hc, ht⟩
    have HR1 := Lib.hid (HR.out.curs ht HN.out)
    cases b
    · have HP := Lib.hid (cu_pick (N := (xs.length : Int)) hc (by omega) (by omega) (by omega))
      have HT1 := Lib.hid ht
      clear hc ht HO
      go_wp2_with fail
      refine HP.out.mono ?_; rintro e w2 ⟨x, rfl, hx, hc, ht⟩
      obtain ⟨k, rfl⟩ := Int.eq_ofNat_of_zero_le hx.1
      have hk : k < xs.length := by have := hx.2; omega
      obtain ⟨b, off, rfl, H⟩ := HR1.out.curs ht HN.out (by omega)
      have d0 := H k hk 0 (by decide)
      simp only [Ctl.c, Nat.add_zero] at d0
      have HC2 := Lib.hid hc
      have HT2 := Lib.hid (HT1.out.trans ht)
      have hk0 : (0 : Int) ≤ (k : Int) := by omega
      have hk1 : (k : Int) < (xs.length : Int) := by omega
      clear hc ht hx HT1 HP H HR HN HR1 HC
      go_wp2
      go_ret
      exact ⟨_, rfl, HC2.out.mono (by omega), HT2.out⟩
    · have HS := Lib.hid (cu_code6 hc (by omega))
      have HT1 := Lib.hid ht
      clear hc ht HO
      go_wp2_with fail
      refine HS.out.mono ?_; rintro e w2 ⟨x, rfl, _, hc, ht⟩
      have HC2 := Lib.hid hc
      have HT2 := Lib.hid (HT1.out.trans ht)
      clear hc ht HT1 HS HR HN HR1
      go_wp2
      go_ret
      exact ⟨x, rfl, HC2.out.mono (by omega), HT2.out⟩

set_option maxRecDepth 100000 in
set_option maxHeartbeats 2000000 in
theorem cu_tour {B n : Nat} {w : World} {xs : List Ctl} {co : Option Addr} {cap : Nat} (h : Cu w B n) (hn : n ≤ 700000) (hr : RowAt w co 2 xs.length (fun k => (nth xs k).c)) (hl : xs.length ≤ 100) (hne : ∀ a, co = some a → a.block ≠ B) :
    Calls Try.prog 79 #[.pointer (some ⟨B, 0, none⟩), .slice co xs.length cap] w fun e w' => ∃ (go : Option Addr) (gc : Nat) (L : List Int), e = .returned (.slice go L.length gc) ∧ L.length ≤ 5 ∧ Owns w' w.heap.size 3 1 icc (.slice go L.length gc) L ∧ Cu w' B (n + 40) ∧ Touch w w' (Span B (B + 1)) := by
  obtain ⟨i0, hi, hz0, hz1, hz2⟩ := info_parts infoInt
  have HI := Lib.hid hi; have HZ0 := Lib.hid hz0; have HZ1 := Lib.hid hz1; have HZ2 := Lib.hid hz2
  have hBl := h.lt
  have hx0 := ((Ext.refl w).alloc (.cells #[] 3))
  have HP := Lib.hid (cu_pick (N := 6) (h.ext hx0) (by omega) (by decide) (by decide))
  have HST := Lib.hid (Owns.start' (e := 3) (s := 1) (cc := icc) (Nat.le_refl w.heap.size))
  have HT0 := Lib.hid (Touch.of_ext (S := Span B (B + 1)) hx0)
  have HR := Lib.hid hr; have HN := Lib.hid hne
  clear hi hz0 hz1 hz2 h hx0 hr hne
  go_enter Try.func79, Try.ntmps79
  go_wp2_with fail
  refine HP.out.mono ?_; rintro e w1 ⟨x, rfl, hx, hc, ht⟩
  obtain ⟨q, rfl⟩ := Int.eq_ofNat_of_zero_le hx.1
  have hq : q < 6 := by have := hx.2; omega
  have HO1 := Lib.hid (HST.out.cur ht hBl)
  have HT1 := Lib.hid (HT0.out.trans ht)
  have HC1 := Lib.hid hc
  clear hx hc ht HP HST HT0
  go_wp2
  go_loopw [5, 6] (fun l v wr => ∃ (L : List Int) (j : Nat) (go : Option Addr) (gc : Nat), j + L.length ≤ q ∧ v = .int .i64 j ∧ l = .slice go L.length gc ∧ Owns wr w.heap.size 3 1 icc (.slice go L.length gc) L ∧ Cu wr B (n + 1 + 4 * (q - j)) ∧ j ≤ q ∧ Touch w wr (Span B (B + 1))) (fun _ v _ => (intOf v).toNat)
  case atStart => exact ⟨[], q, _, _, by simp, rfl, rfl, HO1.out, HC1.out.mono (by omega), Nat.le_refl _, HT1.out⟩
  case round =>
    obtain ⟨L, j, go, gc, hj, rfl, rfl, hown, hc, hjq, hT⟩ := hrel
    have HO := Lib.hid hown; have HT := Lib.hid hT; have HC := Lib.hid hc
    clear hown hT hc HO1 HT1 HC1
    by_cases hj0 : 0 < j
    · have hj0' : (0 : Int) < (j : Int) := by omega
      have HCO := Lib.hid (cu_codeOf (cap := cap) HC.out (by omega) (HR.out.curs HT.out HN.out) hl HN.out)
      go_wp2_with fail
      refine HCO.out.mono ?_; rintro e w2 ⟨c, rfl, hc, ht⟩
      have HO2 := Lib.hid (HO.out.cur ht hBl)
      have HT2 := Lib.hid (HT.out.trans ht)
      have HC2 := Lib.hid hc
      obtain ⟨ao, cap2, e0, hF, _⟩ := HO2.out.fresh
      injection e0 with e1 _ e3
      subst e1 e3
      have HH := Lib.hid (spec_l1Has (cap := gc) (v := c) hF.row (by omega))
      clear hc ht HCO HO HT HC hF
      go_upto_region 6 with fail
      go_cut [25] (fun v wc => ∃ b, v = .bool b ∧ Owns wc w.heap.size 3 1 icc (.slice go L.length gc) L ∧ Cu wc B (n + 1 + 4 * (q - j) + 4) ∧ Touch w wc (Span B (B + 1)))
      case first =>
        go_wp2_with fail
        refine HH.out.mono ?_; rintro e w3 ⟨rfl, hx3⟩
        have HO3 := Lib.hid (HO2.out.ext' hx3)
        have HT3 := Lib.hid (HT2.out.trans (Touch.of_ext hx3))
        have HC3 := Lib.hid (HC2.out.ext hx3)
        clear hx3 HH HO2 HT2 HC2
        generalize hasI L L.length c = hb
        cases hb
        · go_wp2_with fail
          go_meet
          exact ⟨_, rfl, HO3.out, HC3.out.mono (by omega), HT3.out⟩
        · have HON := Lib.hid (cu_one (N := 16) HC3.out (by omega) (by decide) (by decide))
          go_wp2_with fail
          refine HON.out.mono ?_; rintro e w4 ⟨b, rfl, hc, ht⟩
          have HO4 := Lib.hid (HO3.out.cur ht hBl)
          have HT4 := Lib.hid (HT3.out.trans ht)
          have HC4 := Lib.hid hc
          clear hc ht HON HO3 HT3 HC3
          go_wp2_with fail
          go_meet
          exact ⟨_, rfl, HO4.out, HC4.out.mono (by omega), HT4.out⟩
      case rest =>
      obtain ⟨b, rfl, hO4, hC4, hT4⟩ := hcut
      rename World => w5
      have HO5 := Lib.hid hO4; have HC5 := Lib.hid hC4; have HT5 := Lib.hid hT4
      clear hO4 hC4 hT4 HH HO2 HT2 HC2
      cases b
      · go_wp2
        go_roundw
        case rel => exact ⟨L, j - 1, go, gc, by omega, by go_num, rfl, HO5.out, HC5.out.mono (by omega), by omega, HT5.out⟩
        case measure => simp [intOf] <;> omega
      · have hrow2 := fun x => row_lit (w := x) (cs := #[.int .i64 c]) (T := 3) (s := 1) (cc := icc) (x := c) (by intro j hj; obtain rfl : j = 0 := (by omega); rfl)
        go_wp2_with (at_builtin; refine wpList_append_bf rfl _ _ 22 rfl 3 i0 _ 1 8 Try.underlying22 HI.out HZ0.out HZ1.out HZ2.out rfl (by decide) icc icc_one w.heap.size (Nat.le_trans HT5.out.size (by simp)) _ L [c] (L ++ [c]) (Lib.hid rfl) rfl (HO5.out.ext' ((Ext.refl _).alloc _)) ⟨w5.heap.size, 0, none⟩ 1 1 rfl rfl (hrow2 _) (by simp; omega) (by simp; omega) ?_; intro go1 gc1 w6 ho6 hb6 _ _)
        go_wp2
        go_roundw
        case rel =>
          have k := ((Ext.refl w5).alloc (.cells #[.int .i64 c] 3))
          exact ⟨L ++ [c], j - 1, go1, gc1, by simp; omega, by go_num, by rw [List.length_append]; rfl, ho6, ((HC5.out.ext k).below hb6 hBl).mono (by omega), by omega, (HT5.out.trans (Touch.of_ext k)).below hb6⟩
        case measure => simp [intOf] <;> omega
    · obtain rfl : j = 0 := by omega
      have hj0' : ¬ (0 : Int) < ((0 : Nat) : Int) := by omega
      go_wp2
      go_ret
      exact ⟨go, gc, L, rfl, by omega, HO.out, HC.out.mono (by omega), HT.out⟩

set_option maxRecDepth 100000 in
set_option maxHeartbeats 2000000 in
theorem cu_openCell {B n : Nat} {w : World} {m : MapD} {ao bo : Option Addr} {ac bc : Nat} (h : Cu w B n) (hn : n ≤ 800000) (hr : RowAt w ao 1 m.rise.length (ic m.rise)) (ht : RowAt w bo 1 m.cost.length (ic m.cost)) (hl1 : m.rise.length ≤ 100) (hl2 : m.cost.length ≤ 100) (hne1 : ∀ a, ao = some a → a.block ≠ B) (hne2 : ∀ a, bo = some a → a.block ≠ B) :
    Calls Try.prog 91 #[.pointer (some ⟨B, 0, none⟩), m.val ao ac bo bc] w fun e w' => ∃ x : Int, e = .returned (.int .i64 x) ∧ (-1 ≤ x ∧ x ≤ 100) ∧ Cu w' B (n + 3) ∧ Touch w w' (Span B (B + 1)) := by
  have hBl := h.lt
  have hx0 := (Ext.refl w).alloc (.cells #[.int .i64 m.wid, .int .i64 m.hei, .slice ao m.rise.length ac, .slice bo m.cost.length bc] 30)
  have p0 : (w.alloc (.cells #[.int .i64 m.wid, .int .i64 m.hei, .slice ao m.rise.length ac, .slice bo m.cost.length bc] 30)).cell? ⟨w.heap.size, 0, none⟩ = some (.int .i64 m.wid) := by go_simp
  have p1 : (w.alloc (.cells #[.int .i64 m.wid, .int .i64 m.hei, .slice ao m.rise.length ac, .slice bo m.cost.length bc] 30)).cell? ⟨w.heap.size, 1, none⟩ = some (.int .i64 m.hei) := by go_simp
  have p2 : (w.alloc (.cells #[.int .i64 m.wid, .int .i64 m.hei, .slice ao m.rise.length ac, .slice bo m.cost.length bc] 30)).cell? ⟨w.heap.size, 2, none⟩ = some (.slice ao m.rise.length ac) := by go_simp
  have p3 : (w.alloc (.cells #[.int .i64 m.wid, .int .i64 m.hei, .slice ao m.rise.length ac, .slice bo m.cost.length bc] 30)).cell? ⟨w.heap.size, 3, none⟩ = some (.slice bo m.cost.length bc) := by go_simp
  have hsz : w.heap.size < (w.alloc (.cells #[.int .i64 m.wid, .int .i64 m.hei, .slice ao m.rise.length ac, .slice bo m.cost.length bc] 30)).heap.size := by simp
  have HCE := Lib.hid (cu_cellOf (ao := ao) (bo := bo) (ac := ac) (bc := bc) (h.ext hx0) (by omega) hl2)
  have HT0 := Lib.hid (Touch.of_ext (S := Span B (B + 1)) hx0)
  have HROW := Lib.hid (And.intro hr ht)
  have hnw : ¬ Span B (B + 1) w.heap.size := fun hs => by have h1 := hs.2; omega
  unfold MapD.val at *
  clear h hx0 hr ht
  go_enter Try.func91, Try.ntmps91
  go_upto_region 1 with fail
  generalize hW : w.alloc (.cells #[.int .i64 m.wid, .int .i64 m.hei, .slice ao m.rise.length ac, .slice bo m.cost.length bc] 30) = W at *
  clear hW
  go_wp2_with fail
  refine HCE.out.mono ?_; rintro e w1 ⟨x, rfl, hx, hc, ht⟩
  have HT1 := Lib.hid (HT0.out.trans ht)
  have HC1 := Lib.hid hc
  have p0 := (ht.cell hsz hnw).trans p0
  have p1 := (ht.cell hsz hnw).trans p1
  have p2 := (ht.cell hsz hnw).trans p2
  have p3 := (ht.cell hsz hnw).trans p3
  have hsz1 := Nat.lt_of_lt_of_le hsz ht.size
  have HMP := Lib.hid (spec_l2Map (ac := ac) (bc := bc) (HROW.out.1.curs HT1.out hne1) (HROW.out.2.curs HT1.out hne2) (by omega) (by omega))
  unfold MapD.val at HMP
  have hx0 := hx.1; have hx1 := hx.2
  clear hc ht hx HCE HT0
  cases hm : mapB m
  · rw [hm] at HMP
    go_wp2_with fail
    refine HMP.out.mono ?_; rintro e w2 ⟨rfl, hx2⟩
    have HC2 := Lib.hid (HC1.out.ext hx2)
    have HT2 := Lib.hid (HT1.out.trans (Touch.of_ext hx2))
    clear hx2 HMP p0 p1 p2 p3
    go_wp2
    go_ret
    exact ⟨x, rfl, by omega, HC2.out.mono (by omega), HT2.out⟩
  · rw [hm] at HMP
    have hpos : 0 < m.cost.length := (map_len hm).2.1
    go_wp2_with fail
    refine HMP.out.mono ?_; rintro e w2 ⟨rfl, hx2⟩
    have HC2 := Lib.hid (HC1.out.ext hx2)
    have HT2 := Lib.hid (HT1.out.trans (Touch.of_ext hx2))
    have p3 := hx2.cells p3
    have hsz2 := Nat.lt_of_lt_of_le hsz1 hx2.size
    have HON := Lib.hid (cu_one (N := 10) HC2.out (by omega) (by decide) (by decide))
    clear hx2 HMP p0 p1 p2 HC1 HT1 hm
    go_wp2_with fail
    refine HON.out.mono ?_; rintro e w3 ⟨b, rfl, hc, ht⟩
    have HT3 := Lib.hid (HT2.out.trans ht)
    have HC3 := Lib.hid hc
    have p3 := (ht.cell hsz2 hnw).trans p3
    have hsz3 := Nat.lt_of_lt_of_le hsz2 ht.size
    clear hc ht HON HC2 HT2
    cases b
    · go_wp2
      go_loopw [6] (fun v wr => ∃ k : Nat, k ≤ m.cost.length ∧ v = .int .i64 k ∧ Ext w3 wr) (fun v _ => m.cost.length - (intOf v).toNat)
      case atStart => exact ⟨0, Nat.zero_le _, rfl, Ext.refl _⟩
      case round =>
        obtain ⟨k, hk, rfl, hxr⟩ := hrel
        have HXR := Lib.hid hxr
        have p3 := hxr.cells p3
        clear hxr
        by_cases hlt : k < m.cost.length
        · have hki : (k : Int) < (m.cost.length : Int) := by omega
          obtain ⟨M, hM⟩ : ∃ M : Int, M = (if x < 0 then 0 else x) := ⟨_, rfl⟩
          have HM := Lib.hid (fun (y : World) => spec_l1Most' (a := 0) (b := x) (w := y))
          rw [← hM] at HM
          have hM0 : 0 ≤ M := by rw [hM]; split <;> omega
          have hM1 : M ≤ 100 := by rw [hM]; split <;> omega
          have hlz2 : ¬ (m.cost.length : Int) = 0 := by omega
          have e0 := Grow.cells p3
          clear hM
          go_wp2
          refine wp_region_ext (by kernel_rfl) (by kernel_rfl) ?_
          repeat (go_big_quiet_step ((first | (go_at_call 103; with_reducible exact Calls.ext_of_same (HM.out _)))))
          refine wpQuiet_nil ?_
          rintro _ ⟨⟨w1, hx1⟩, rfl⟩
          clear e0
          have HX1 := Lib.hid (HXR.out.trans hx1)
          have p3 := hx1.cells p3
          obtain ⟨t, ht⟩ : ∃ t : Nat, (M + (k : Int)) % (m.cost.length : Int) = (t : Int) := ⟨((M + (k : Int)) % (m.cost.length : Int)).toNat, by have := Int.emod_nonneg (M + (k : Int)) hlz2; omega⟩
          have htl : t < m.cost.length := by have := Int.emod_lt_of_pos (M + (k : Int)) (b := (m.cost.length : Int)) (by omega); omega
          rw [ht]
          obtain ⟨cb, coff, rfl, H⟩ := (HROW.out.2.curs HT3.out hne2).ext HX1.out hpos
          have d0 := H t htl 0 (by decide)
          simp only [ic, Nat.add_zero, Nat.mul_one] at d0
          have ht0 : (0 : Int) ≤ (t : Int) := by omega
          have ht1 : (t : Int) < (m.cost.length : Int) := by omega
          clear hx1 H HM ht
          by_cases hp : 0 < nth m.cost t
          · go_wp2
            go_ret
            exact ⟨_, rfl, by omega, (HC3.out.ext HX1.out).mono (by omega), HT3.out.trans (Touch.of_ext HX1.out)⟩
          · go_wp2
            go_roundw
            case rel => exact ⟨k + 1, by omega, by go_num, HX1.out⟩
            case measure => simp [intOf] <;> omega
        · obtain rfl : k = m.cost.length := by omega
          have hkn : ¬ (m.cost.length : Int) < (m.cost.length : Int) := by omega
          go_wp2
          go_ret
          exact ⟨x, rfl, by omega, (HC3.out.ext HXR.out).mono (by omega), HT3.out.trans (Touch.of_ext HXR.out)⟩
    · clear p3
      go_wp2
      go_ret
      exact ⟨x, rfl, by omega, HC3.out.mono (by omega), HT3.out⟩


theorem b4_put0 {w : World} {B : Nat} {a b c d : Value} (h : Box4 w B a b c d) (u : Value) : Box4 (w.setCell ⟨B, 0, none⟩ u) B u b c d := by
  have k : ∀ o, o ≠ 0 → (w.setCell ⟨B, 0, none⟩ u).cell? ⟨B, o, none⟩ = w.cell? ⟨B, o, none⟩ := fun o ho => World.cell?_setCell_other _ _ _ _ (fun e => ho (by injection e with _ e2; exact e2.symm))
  exact ⟨World.cell?_setCell_same _ _ _ h.c0, (k 1 (by decide)).trans h.c1, (k 2 (by decide)).trans h.c2, (k 3 (by decide)).trans h.c3⟩
theorem b4_put2 {w : World} {B : Nat} {a b c d : Value} (h : Box4 w B a b c d) (u : Value) : Box4 (w.setCell ⟨B, 2, none⟩ u) B a b u d := by
  have k : ∀ o, o ≠ 2 → (w.setCell ⟨B, 2, none⟩ u).cell? ⟨B, o, none⟩ = w.cell? ⟨B, o, none⟩ := fun o ho => World.cell?_setCell_other _ _ _ _ (fun e => ho (by injection e with _ e2; exact e2.symm))
  exact ⟨(k 0 (by decide)).trans h.c0, (k 1 (by decide)).trans h.c1, World.cell?_setCell_same _ _ _ h.c2, (k 3 (by decide)).trans h.c3⟩
theorem grown_put0 (w : World) (p : Addr) (u : Value) : w.grownBy (w.setCell p u) (some p.block) :=
  ⟨rfl, rfl, rfl, by simp [World.setCell], fun k _ hne => Below.heap_setCell _ _ _ _ (fun e => hne (by rw [e]))⟩
theorem Owns.keptR {α : Type} {w w' : World} {base : Nat} {e : TypeId} {s : Nat} {cc : α → Nat → Value} {v : Value} {xs : List α} {row : Option Nat} (h : Owns w base e s cc v xs) (hg : w.grownBy w' row) (hne : v.ownBlock ≠ row) : Owns w' base e s cc v xs := by
  have h0 : w.ownsRow base e s v xs.length (fl s cc xs) := h
  exact h0.kept hg (.inr hne)
theorem Owns.blk {α : Type} [Inhabited α] {w : World} {base : Nat} {e : TypeId} {s : Nat} {cc : α → Nat → Value} {ao : Option Addr} {cap : Nat} {xs : List α} (h : Owns w base e s cc (.slice ao xs.length cap) xs) : ∀ a, ao = some a → base ≤ a.block ∧ a.block < w.heap.size := by
  obtain ⟨ao', cap', e, hF, _⟩ := h.fresh
  injection e with e1 e2 e3
  subst e1
  exact hF.base

theorem FreshAt.offs {B0 : Nat} {w : World} {ao : Option Addr} {s n : Nat} {c : Nat → Nat → Value} (h : FreshAt B0 w ao s n c) {p : Addr} (hp : ∀ a, ao = some a → a.block ≠ p.block) (u : Value) : FreshAt B0 (w.setCell p u) ao s n c := by
  refine ⟨fun hn => ?_, fun a e => by simpa [World.setCell] using h.base a e, fun b off e j => by rw [World.frozen?_setCell]; exact h.free b off e j⟩
  obtain ⟨b, off, e, H⟩ := h.row hn
  exact ⟨b, off, e, fun k hk j hj => (World.cell?_setCell_other _ _ _ _ (fun q => hp _ e (by rw [q]))).trans (H k hk j hj)⟩
/-- the four cells of a map's result -/
structure ResM (w : World) (B : Nat) : Prop where
  c0 : w.cell? ⟨B, 0, none⟩ = some (.int .i64 0)
  c1 : w.cell? ⟨B, 1, none⟩ = some (.int .i64 0)
  c2 : w.cell? ⟨B, 2, none⟩ = some (.slice none 0 0)
  c3 : w.cell? ⟨B, 3, none⟩ = some (.slice none 0 0)
  fz : ∀ j, w.frozen? ⟨B, j, none⟩ = false
theorem ResM.lt {w : World} {B : Nat} (h : ResM w B) : B < w.heap.size := World.block_lt_of_cell? _ _ h.c0
theorem ResM.ext {w w' : World} {B : Nat} (h : ResM w B) (hx : Ext w w') : ResM w' B := ⟨hx.cells h.c0, hx.cells h.c1, hx.cells h.c2, hx.cells h.c3, fun j => (hx.frozenr _ _ h.lt).trans (h.fz j)⟩
theorem ResM.of {w w' : World} {T : TypeId} (hx : Ext (w.alloc (.cells #[.int .i64 0, .int .i64 0, .slice none 0 0, .slice none 0 0] T)) w') : ResM w' w.heap.size := by
  have h : ResM (w.alloc (.cells #[.int .i64 0, .int .i64 0, .slice none 0 0, .slice none 0 0] T)) w.heap.size := ⟨by go_simp, by go_simp, by go_simp, by go_simp, fun j => by go_simp⟩
  exact h.ext hx
theorem ResM.of_cells {w w' : World} {B : Nat} (h : ResM w B) (hc : ∀ o, w'.cell? ⟨B, o, none⟩ = w.cell? ⟨B, o, none⟩) (hf : ∀ o, w'.frozen? ⟨B, o, none⟩ = w.frozen? ⟨B, o, none⟩) : ResM w' B :=
  ⟨(hc 0).trans h.c0, (hc 1).trans h.c1, (hc 2).trans h.c2, (hc 3).trans h.c3, fun j => (hf j).trans (h.fz j)⟩
theorem ResM.below {w w' : World} {B base : Nat} (h : ResM w B) (hb : Below base w w') (hB : B < base) : ResM w' B :=
  h.of_cells (fun o => hb.cell (p := ⟨B, o, none⟩) hB) (fun o => hb.frozen (p := ⟨B, o, none⟩) hB)

/-- a map that is being drawn: its box, its rows, the cursor, the result's cells -/
structure MapIn (w0 wr : World) (B KB n : Nat) (wi he : Int) (ro : Option Addr) (rc : Nat) (rs : List Int) (qo : Option Addr) (tc : Nat) (ts : List Int) : Prop where
  box : Box4 wr KB (.int .i64 wi) (.int .i64 he) (.slice ro rs.length rc) (.slice qo ts.length tc)
  bfree : ∀ j, wr.frozen? ⟨KB, j, none⟩ = false
  own1 : Owns wr (w0.heap.size + 1) 3 1 icc (.slice ro rs.length rc) rs
  own2 : Owns wr (w0.heap.size + 1) 3 1 icc (.slice qo ts.length tc) ts
  ap1 : (Value.slice ro rs.length rc).ownBlock ≠ some KB
  ap2 : (Value.slice qo ts.length tc).ownBlock ≠ some KB
  ap : (Value.slice ro rs.length rc).ownBlock ≠ (Value.slice qo ts.length tc).ownBlock
  adr1 : ∃ b off, ro = some ⟨b, off, none⟩
  adr2 : ∃ b off, qo = some ⟨b, off, none⟩
  cur : Cu wr B n
  lo : w0.heap.size + 1 ≤ KB
  hB : B < w0.heap.size
  touch : Touch w0 wr (Span B (B + 1))
  res : ResM wr w0.heap.size

section
variable {w0 wr w' : World} {B KB n n' : Nat} {wi he : Int} {ro qo : Option Addr} {rc tc : Nat} {rs ts : List Int}
theorem MapIn.ext (h : MapIn w0 wr B KB n wi he ro rc rs qo tc ts) (hx : Ext wr w') : MapIn w0 w' B KB n wi he ro rc rs qo tc ts :=
  ⟨h.box.ext hx, fun j => (hx.frozenr _ _ h.box.lt).trans (h.bfree j), h.own1.ext' hx, h.own2.ext' hx, h.ap1, h.ap2, h.ap, h.adr1, h.adr2, h.cur.ext hx, h.lo, h.hB, h.touch.trans (Touch.of_ext hx), h.res.ext hx⟩
theorem MapIn.curs (h : MapIn w0 wr B KB n wi he ro rc rs qo tc ts) (hc : Cu w' B n') (ht : Touch wr w' (Span B (B + 1))) : MapIn w0 w' B KB n' wi he ro rc rs qo tc ts := by
  have hne : ¬ Span B (B + 1) KB := fun hs => by have h1 := hs.2; have h2 := h.lo; have h3 := h.hB; omega
  have hnr : ¬ Span B (B + 1) w0.heap.size := fun hs => by have h1 := hs.2; have h3 := h.hB; omega
  have k : ∀ o, w'.cell? ⟨KB, o, none⟩ = wr.cell? ⟨KB, o, none⟩ := fun o => ht.cell h.box.lt hne
  exact ⟨⟨(k 0).trans h.box.c0, (k 1).trans h.box.c1, (k 2).trans h.box.c2, (k 3).trans h.box.c3⟩, fun j => (ht.frozen h.box.lt hne).trans (h.bfree j), h.own1.cur ht (Nat.lt_succ_of_lt h.hB), h.own2.cur ht (Nat.lt_succ_of_lt h.hB), h.ap1, h.ap2, h.ap, h.adr1, h.adr2, hc, h.lo, h.hB, h.touch.trans ht, h.res.of_cells (fun o => ht.cell h.res.lt hnr) (fun o => ht.frozen h.res.lt hnr)⟩
theorem MapIn.mono (h : MapIn w0 wr B KB n wi he ro rc rs qo tc ts) (hn : n ≤ n') : MapIn w0 wr B KB n' wi he ro rc rs qo tc ts := ⟨h.box, h.bfree, h.own1, h.own2, h.ap1, h.ap2, h.ap, h.adr1, h.adr2, h.cur.mono hn, h.lo, h.hB, h.touch, h.res⟩
theorem own_adr {v1 : Option Addr} {n1 c1 : Nat} {b off : Nat} (e : v1 = some ⟨b, off, none⟩) : (Value.slice v1 n1 c1).ownBlock = some b := by subst e; rfl
/-- behind an append to the costs, ahead of the store -/
theorem MapIn.mid2 (h : MapIn w0 wr B KB n wi he ro rc rs qo tc ts) {w3 : World} (hg : wr.grownBy w3 (Value.slice qo ts.length tc).ownBlock) :
    w3.cell? ⟨KB, 3, none⟩ = some (.slice qo ts.length tc) ∧ w3.frozen? ⟨KB, 3, none⟩ = false ∧ KB < w3.heap.size :=
  ⟨(h.box.grown hg h.ap2).c3, (grown_frozen (b := KB) (o := 3) hg h.box.lt h.ap2).trans (h.bfree 3), (h.box.grown hg h.ap2).lt⟩
theorem MapIn.mid1 (h : MapIn w0 wr B KB n wi he ro rc rs qo tc ts) {w3 : World} (hg : wr.grownBy w3 (Value.slice ro rs.length rc).ownBlock) :
    w3.cell? ⟨KB, 2, none⟩ = some (.slice ro rs.length rc) ∧ w3.frozen? ⟨KB, 2, none⟩ = false ∧ KB < w3.heap.size :=
  ⟨(h.box.grown hg h.ap1).c2, (grown_frozen (b := KB) (o := 2) hg h.box.lt h.ap1).trans (h.bfree 2), (h.box.grown hg h.ap1).lt⟩
theorem MapIn.push2 (h : MapIn w0 wr B KB n wi he ro rc rs qo tc ts) {w3 : World} (hg : wr.grownBy w3 (Value.slice qo ts.length tc).ownBlock) (hb : Below (w0.heap.size + 1) wr w3) {L : List Int} {go1 : Option Addr} {gc1 : Nat} (hL : 0 < L.length)
    (ho : Owns w3 (w0.heap.size + 1) 3 1 icc (.slice go1 L.length gc1) L) (hv : Hid ((Value.slice go1 L.length gc1).ownBlock = (Value.slice qo ts.length tc).ownBlock ∨ (Value.slice go1 L.length gc1).ownBlock = some wr.heap.size)) :
    MapIn w0 (w3.setCell ⟨KB, 3, none⟩ (.slice go1 L.length gc1)) B KB n wi he ro rc rs go1 gc1 L := by
  have hv' : (Value.slice go1 L.length gc1).ownBlock = (Value.slice qo ts.length tc).ownBlock ∨ (Value.slice go1 L.length gc1).ownBlock = some wr.heap.size := hv
  have hKl := h.box.lt
  have hap : (Value.slice go1 L.length gc1).ownBlock ≠ some KB := fun e => by
    rcases hv' with hv' | hv'
    · rw [hv'] at e; exact h.ap2 e
    · rw [hv'] at e; injection e with e; omega
  obtain ⟨b1, o1, e1⟩ := h.adr1
  have hb1 : b1 < wr.heap.size := (h.own1.blk _ e1).2
  have hx : (Value.slice ro rs.length rc).ownBlock ≠ (Value.slice go1 L.length gc1).ownBlock := fun e => by
    rcases hv' with hv' | hv'
    · rw [hv'] at e; exact h.ap e
    · rw [hv', own_adr e1] at e; injection e with e; omega
  have hbp : Below (w0.heap.size + 1) w3 (w3.setCell ⟨KB, 3, none⟩ (.slice go1 L.length gc1)) := (Below.refl _ _).setCell h.lo _
  obtain ⟨ao, cap, e, hF, _⟩ := ho.fresh
  obtain ⟨b, off, e2, _⟩ := hF.row hL
  injection e with e3
  exact ⟨(h.box.grown hg h.ap2).put3 _, fun j => by rw [World.frozen?_setCell]; exact (grown_frozen (b := KB) (o := j) hg h.box.lt h.ap2).trans (h.bfree j), (h.own1.keptR hg h.ap).keptR (grown_put0 _ _ _) h.ap1, ho.keptR (grown_put0 _ _ _) hap, h.ap1, hap, hx, h.adr1, ⟨b, off, e3.trans e2⟩, h.cur.below (hb.trans hbp) (Nat.lt_succ_of_lt h.hB), h.lo, h.hB, h.touch.below ((hb.trans hbp).mono (Nat.le_succ _)), h.res.below (hb.trans hbp) (Nat.lt_succ_self _)⟩
theorem MapIn.push1 (h : MapIn w0 wr B KB n wi he ro rc rs qo tc ts) {w3 : World} (hg : wr.grownBy w3 (Value.slice ro rs.length rc).ownBlock) (hb : Below (w0.heap.size + 1) wr w3) {L : List Int} {go1 : Option Addr} {gc1 : Nat} (hL : 0 < L.length)
    (ho : Owns w3 (w0.heap.size + 1) 3 1 icc (.slice go1 L.length gc1) L) (hv : Hid ((Value.slice go1 L.length gc1).ownBlock = (Value.slice ro rs.length rc).ownBlock ∨ (Value.slice go1 L.length gc1).ownBlock = some wr.heap.size)) :
    MapIn w0 (w3.setCell ⟨KB, 2, none⟩ (.slice go1 L.length gc1)) B KB n wi he go1 gc1 L qo tc ts := by
  have hv' : (Value.slice go1 L.length gc1).ownBlock = (Value.slice ro rs.length rc).ownBlock ∨ (Value.slice go1 L.length gc1).ownBlock = some wr.heap.size := hv
  have hKl := h.box.lt
  have hap : (Value.slice go1 L.length gc1).ownBlock ≠ some KB := fun e => by
    rcases hv' with hv' | hv'
    · rw [hv'] at e; exact h.ap1 e
    · rw [hv'] at e; injection e with e; omega
  obtain ⟨b1, o1, e1⟩ := h.adr2
  have hb1 : b1 < wr.heap.size := (h.own2.blk _ e1).2
  have hx : (Value.slice go1 L.length gc1).ownBlock ≠ (Value.slice qo ts.length tc).ownBlock := fun e => by
    rcases hv' with hv' | hv'
    · rw [hv'] at e; exact h.ap e
    · rw [hv', own_adr e1] at e; injection e with e; omega
  have hbp : Below (w0.heap.size + 1) w3 (w3.setCell ⟨KB, 2, none⟩ (.slice go1 L.length gc1)) := (Below.refl _ _).setCell h.lo _
  obtain ⟨ao, cap, e, hF, _⟩ := ho.fresh
  obtain ⟨b, off, e2, _⟩ := hF.row hL
  injection e with e3
  exact ⟨b4_put2 (h.box.grown hg h.ap1) _, fun j => by rw [World.frozen?_setCell]; exact (grown_frozen (b := KB) (o := j) hg h.box.lt h.ap1).trans (h.bfree j), ho.keptR (grown_put0 _ _ _) hap, (h.own2.keptR hg (fun e => h.ap e.symm)).keptR (grown_put0 _ _ _) h.ap2, hap, h.ap2, hx, ⟨b, off, e3.trans e2⟩, h.adr2, h.cur.below (hb.trans hbp) (Nat.lt_succ_of_lt h.hB), h.lo, h.hB, h.touch.below ((hb.trans hbp).mono (Nat.le_succ _)), h.res.below (hb.trans hbp) (Nat.lt_succ_self _)⟩
end

/-- a map that has been drawn: the rows, whatever they hold -/
structure MapF (w0 wr : World) (B KB n : Nat) (wi he : Int) (ro : Option Addr) (rc : Nat) (rs : List Int) (qo : Option Addr) (tc : Nat) (ts : List Int) : Prop where
  box : Box4 wr KB (.int .i64 wi) (.int .i64 he) (.slice ro rs.length rc) (.slice qo ts.length tc)
  row1 : FreshAt (w0.heap.size + 1) wr ro 1 rs.length (ic rs)
  row2 : FreshAt (w0.heap.size + 1) wr qo 1 ts.length (ic ts)
  adr1 : ∃ b off, ro = some ⟨b, off, none⟩
  adr2 : ∃ b off, qo = some ⟨b, off, none⟩
  cap1 : rs.length ≤ rc ∧ rc ≤ 9223372036854775807
  cap2 : ts.length ≤ tc ∧ tc ≤ 9223372036854775807
  cur : Cu wr B n
  lo : w0.heap.size + 1 ≤ KB
  hB : B < w0.heap.size
  touch : Touch w0 wr (Span B (B + 1))
  res : ResM wr w0.heap.size
section
variable {w0 wr w' : World} {B KB n n' : Nat} {wi he : Int} {ro qo : Option Addr} {rc tc : Nat} {rs ts : List Int}
theorem MapIn.toF (h : MapIn w0 wr B KB n wi he ro rc rs qo tc ts) : MapF w0 wr B KB n wi he ro rc rs qo tc ts := by
  obtain ⟨ao, cap, e, hF, _, hl, hm⟩ := h.own1.fresh
  injection e with e1 e2 e3
  subst e1 e3
  obtain ⟨ao, cap, e, hF2, _, hl2, hm2⟩ := h.own2.fresh
  injection e with e1 e2 e3
  subst e1 e3
  exact ⟨h.box, hF, hF2, h.adr1, h.adr2, ⟨hl, by unfold maxLen at hm; omega⟩, ⟨hl2, by unfold maxLen at hm2; omega⟩, h.cur, h.lo, h.hB, h.touch, h.res⟩
theorem MapF.mono (h : MapF w0 wr B KB n wi he ro rc rs qo tc ts) (hn : n ≤ n') : MapF w0 wr B KB n' wi he ro rc rs qo tc ts := ⟨h.box, h.row1, h.row2, h.adr1, h.adr2, h.cap1, h.cap2, h.cur.mono hn, h.lo, h.hB, h.touch, h.res⟩
end


theorem nth_set0 {xs : List Int} {v : Int} (k : Nat) : nth (xs.set 0 v) k = if k = 0 ∧ 0 < xs.length then v else nth xs k := by
  cases xs with
  | nil => simp [nth]
  | cons x xs =>
    cases k with
    | zero => simp [nth]
    | succ k => simp [nth]
theorem FreshAt.put0 {B0 : Nat} {w : World} {b off : Nat} {xs : List Int} {v : Int} (h : FreshAt B0 w (some ⟨b, off, none⟩) 1 xs.length (ic xs)) (hl : 0 < xs.length) : FreshAt B0 (w.setCell ⟨b, off, none⟩ (.int .i64 v)) (some ⟨b, off, none⟩) 1 (xs.set 0 v).length (ic (xs.set 0 v)) := by
  rw [List.length_set]
  refine ⟨fun hn => ⟨b, off, rfl, fun k hk j hj => ?_⟩, fun a e => by simpa [World.setCell] using h.base a e, fun b' off' e j => by rw [World.frozen?_setCell]; exact h.free b' off' e j⟩
  obtain ⟨b', off', e, H⟩ := h.row hn
  injection e with e
  injection e with e1 e2
  subst e1 e2
  have hj0 : j = 0 := by omega
  subst hj0
  have h0 := H k hk 0 (by decide)
  show _ = some (Value.int .i64 (nth (xs.set 0 v) k))
  rw [nth_set0]
  by_cases hk0 : k = 0
  · subst hk0
    rw [if_pos ⟨rfl, hl⟩]
    simp only [Nat.zero_mul, Nat.add_zero] at h0 ⊢
    exact World.cell?_setCell_same _ _ _ h0
  · rw [if_neg (fun h => hk0 h.1)]
    exact (World.cell?_setCell_other _ _ _ _ (fun e => by injection e with _ e2; omega)).trans h0

section
variable {w0 wr w' : World} {B KB n n' : Nat} {wi he : Int} {ro qo : Option Addr} {rc tc : Nat} {rs ts : List Int}
theorem MapF.curs (h : MapF w0 wr B KB n wi he ro rc rs qo tc ts) (hc : Cu w' B n') (ht : Touch wr w' (Span B (B + 1))) : MapF w0 w' B KB n' wi he ro rc rs qo tc ts := by
  have hne : ¬ Span B (B + 1) KB := fun hs => by have h1 := hs.2; have h2 := h.lo; have h3 := h.hB; omega
  have hnr : ¬ Span B (B + 1) w0.heap.size := fun hs => by have h1 := hs.2; have h3 := h.hB; omega
  have k : ∀ o, w'.cell? ⟨KB, o, none⟩ = wr.cell? ⟨KB, o, none⟩ := fun o => ht.cell h.box.lt hne
  have hB := h.hB
  exact ⟨⟨(k 0).trans h.box.c0, (k 1).trans h.box.c1, (k 2).trans h.box.c2, (k 3).trans h.box.c3⟩, h.row1.touch ht (fun a e hs => by have h1 := (h.row1.base a e).1; have h2 := hs.2; omega), h.row2.touch ht (fun a e hs => by have h1 := (h.row2.base a e).1; have h2 := hs.2; omega), h.adr1, h.adr2, h.cap1, h.cap2, hc, h.lo, h.hB, h.touch.trans ht, h.res.of_cells (fun o => ht.cell h.res.lt hnr) (fun o => ht.frozen h.res.lt hnr)⟩
theorem MapIn.put0 (h : MapIn w0 wr B KB n wi he ro rc rs qo tc ts) (u : Int) : MapIn w0 (wr.setCell ⟨KB, 0, none⟩ (.int .i64 u)) B KB n u he ro rc rs qo tc ts := by
  have hbp : Below (w0.heap.size + 1) wr (wr.setCell ⟨KB, 0, none⟩ (.int .i64 u)) := (Below.refl _ _).setCell h.lo _
  exact ⟨b4_put0 h.box _, fun j => by rw [World.frozen?_setCell]; exact h.bfree j, h.own1.keptR (grown_put0 _ _ _) h.ap1, h.own2.keptR (grown_put0 _ _ _) h.ap2, h.ap1, h.ap2, h.ap, h.adr1, h.adr2, h.cur.below hbp (Nat.lt_succ_of_lt h.hB), h.lo, h.hB, h.touch.below (hbp.mono (Nat.le_succ _)), h.res.below hbp (Nat.lt_succ_self _)⟩
/-- a store into the first cost -/
theorem MapIn.cost0 {b off : Nat} (h : MapIn w0 wr B KB n wi he ro rc rs (some ⟨b, off, none⟩) tc ts) (hl : 0 < ts.length) (v : Int) : MapF w0 (wr.setCell ⟨b, off, none⟩ (.int .i64 v)) B KB n wi he ro rc rs (some ⟨b, off, none⟩) tc (ts.set 0 v) := by
  have hf := h.toF
  have hbb := (hf.row2.base _ rfl).1
  have hKB : KB ≠ b := fun e => h.ap2 (by rw [e]; rfl)
  have hbp : Below (w0.heap.size + 1) wr (wr.setCell ⟨b, off, none⟩ (.int .i64 v)) := (Below.refl _ _).setCell hbb _
  have k : ∀ o, (wr.setCell ⟨b, off, none⟩ (.int .i64 v)).cell? ⟨KB, o, none⟩ = wr.cell? ⟨KB, o, none⟩ := fun o => World.cell?_setCell_other _ _ _ _ (fun e => hKB (by injection e with e; exact e.symm))
  refine ⟨⟨(k 0).trans h.box.c0, (k 1).trans h.box.c1, (k 2).trans h.box.c2, ?_⟩, hf.row1.offs (p := ⟨b, off, none⟩) (fun a e q => h.ap (by rw [e]; show some a.block = some b; rw [q])) _, hf.row2.put0 hl, h.adr1, h.adr2, hf.cap1, by rw [List.length_set]; exact hf.cap2, h.cur.below hbp (Nat.lt_succ_of_lt h.hB), h.lo, h.hB, h.touch.below (hbp.mono (Nat.le_succ _)), h.res.below hbp (Nat.lt_succ_self _)⟩
  rw [List.length_set]; exact (k 3).trans h.box.c3
/-- a store into the first rise -/
theorem MapIn.rise0 {b off : Nat} (h : MapIn w0 wr B KB n wi he (some ⟨b, off, none⟩) rc rs qo tc ts) (hl : 0 < rs.length) (v : Int) : MapF w0 (wr.setCell ⟨b, off, none⟩ (.int .i64 v)) B KB n wi he (some ⟨b, off, none⟩) rc (rs.set 0 v) qo tc ts := by
  have hf := h.toF
  have hbb := (hf.row1.base _ rfl).1
  have hKB : KB ≠ b := fun e => h.ap1 (by rw [e]; rfl)
  have hbp : Below (w0.heap.size + 1) wr (wr.setCell ⟨b, off, none⟩ (.int .i64 v)) := (Below.refl _ _).setCell hbb _
  have k : ∀ o, (wr.setCell ⟨b, off, none⟩ (.int .i64 v)).cell? ⟨KB, o, none⟩ = wr.cell? ⟨KB, o, none⟩ := fun o => World.cell?_setCell_other _ _ _ _ (fun e => hKB (by injection e with e; exact e.symm))
  refine ⟨⟨(k 0).trans h.box.c0, (k 1).trans h.box.c1, ?_, (k 3).trans h.box.c3⟩, hf.row1.put0 hl, hf.row2.offs (p := ⟨b, off, none⟩) (fun a e q => h.ap (by rw [e]; show some b = some a.block; rw [q])) _, h.adr1, h.adr2, by rw [List.length_set]; exact hf.cap1, hf.cap2, h.cur.below hbp (Nat.lt_succ_of_lt h.hB), h.lo, h.hB, h.touch.below (hbp.mono (Nat.le_succ _)), h.res.below hbp (Nat.lt_succ_self _)⟩
  rw [List.length_set]; exact (k 2).trans h.box.c2
/-- the map is handed back -/
theorem MapF.fin (h : MapF w0 wr B KB n wi he ro rc rs qo tc ts) (u0 u1 u2 u3 : Value) :
    FreshAt w0.heap.size ((((wr.setCell ⟨w0.heap.size, 0, none⟩ u0).setCell ⟨w0.heap.size, 1, none⟩ u1).setCell ⟨w0.heap.size, 2, none⟩ u2).setCell ⟨w0.heap.size, 3, none⟩ u3) ro 1 rs.length (ic rs) ∧
    FreshAt w0.heap.size ((((wr.setCell ⟨w0.heap.size, 0, none⟩ u0).setCell ⟨w0.heap.size, 1, none⟩ u1).setCell ⟨w0.heap.size, 2, none⟩ u2).setCell ⟨w0.heap.size, 3, none⟩ u3) qo 1 ts.length (ic ts) ∧
    Cu ((((wr.setCell ⟨w0.heap.size, 0, none⟩ u0).setCell ⟨w0.heap.size, 1, none⟩ u1).setCell ⟨w0.heap.size, 2, none⟩ u2).setCell ⟨w0.heap.size, 3, none⟩ u3) B n ∧
    Touch w0 ((((wr.setCell ⟨w0.heap.size, 0, none⟩ u0).setCell ⟨w0.heap.size, 1, none⟩ u1).setCell ⟨w0.heap.size, 2, none⟩ u2).setCell ⟨w0.heap.size, 3, none⟩ u3) (Span B (B + 1)) := by
  have hb : Below w0.heap.size wr ((((wr.setCell ⟨w0.heap.size, 0, none⟩ u0).setCell ⟨w0.heap.size, 1, none⟩ u1).setCell ⟨w0.heap.size, 2, none⟩ u2).setCell ⟨w0.heap.size, 3, none⟩ u3) :=
    Below.setCell (p := ⟨w0.heap.size, 3, none⟩) (Below.setCell (p := ⟨w0.heap.size, 2, none⟩) (Below.setCell (p := ⟨w0.heap.size, 1, none⟩) (Below.setCell (p := ⟨w0.heap.size, 0, none⟩) (Below.refl _ _) (Nat.le_refl _) u0) (Nat.le_refl _) u1) (Nat.le_refl _) u2) (Nat.le_refl _) u3
  have hp : ∀ j, (⟨w0.heap.size, j, none⟩ : Addr).block < w0.heap.size + 1 := fun j => Nat.lt_succ_self _
  exact ⟨((((h.row1.setCell (hp 0) u0).setCell (hp 1) u1).setCell (hp 2) u2).setCell (hp 3) u3).mono (Nat.le_succ _), ((((h.row2.setCell (hp 0) u0).setCell (hp 1) u1).setCell (hp 2) u2).setCell (hp 3) u3).mono (Nat.le_succ _), h.cur.below hb h.hB, h.touch.below hb⟩
end

theorem cell00 {B0 : Nat} {w : World} {b off : Nat} {xs : List Int} (h : FreshAt B0 w (some ⟨b, off, none⟩) 1 xs.length (ic xs)) (hl : 0 < xs.length) : w.cell? ⟨b, off, none⟩ = some (.int .i64 (nth xs 0)) := by
  obtain ⟨b', off', e, H⟩ := h.row hl
  injection e with e
  injection e with e1 e2
  subst e1 e2
  have h0 := H 0 hl 0 (by decide)
  simp only [Nat.zero_mul, Nat.add_zero] at h0
  exact h0

set_option maxRecDepth 100000 in
set_option maxHeartbeats 4000000 in
theorem cu_mapOf {B n : Nat} {w : World} (h : Cu w B n) (hn : n ≤ 600000) :
    Calls Try.prog 123 #[.pointer (some ⟨B, 0, none⟩)] w fun e w' => ∃ (m : MapD) (ro : Option Addr) (rc : Nat) (qo : Option Addr) (tc : Nat), e = .returned (m.val ro rc qo tc) ∧ m.rise.length ≤ 21 ∧ m.cost.length ≤ 20 ∧ (m.rise.length ≤ rc ∧ rc ≤ 9223372036854775807) ∧ (m.cost.length ≤ tc ∧ tc ≤ 9223372036854775807) ∧
      FreshAt w.heap.size w' ro 1 m.rise.length (ic m.rise) ∧ FreshAt w.heap.size w' qo 1 m.cost.length (ic m.cost) ∧ Cu w' B (n + 70) ∧ Touch w w' (Span B (B + 1)) := by
  obtain ⟨i0, hi, hz0, hz1, hz2⟩ := info_parts infoInt
  have HI := Lib.hid hi; have HZ0 := Lib.hid hz0; have HZ1 := Lib.hid hz1; have HZ2 := Lib.hid hz2
  have hBl := h.lt
  have hx0 := ((Ext.refl w).alloc (.cells #[.int .i64 0, .int .i64 0, .slice none 0 0, .slice none 0 0] 30))
  have HP := Lib.hid (cu_pick (N := 4) (h.ext hx0) (by omega) (by decide) (by decide))
  have HR0 := Lib.hid (ResM.of (w := w) (T := 30) (Ext.refl _))
  have HT0 := Lib.hid (Touch.of_ext (S := Span B (B + 1)) hx0)
  have hnr : ¬ Span B (B + 1) w.heap.size := fun hs => by have h4 : w.heap.size < B + 1 := hs.2; omega
  clear hi hz0 hz1 hz2 h hx0
  go_enter Try.func123, Try.ntmps123
  go_wp2_with fail
  refine HP.out.mono ?_; rintro e w1 ⟨x, rfl, hx, hc, ht⟩
  have HR1 := Lib.hid (HR0.out.of_cells (fun o => ht.cell HR0.out.lt hnr) (fun o => ht.frozen HR0.out.lt hnr))
  have HT1 := Lib.hid (HT0.out.trans ht)
  have HP2 := Lib.hid (cu_pick (N := 4) hc (by omega) (by decide) (by decide))
  have hx0 := hx.1; have hx1 := hx.2
  clear hc ht hx HP HR0 HT0
  go_wp2_with fail
  refine HP2.out.mono ?_; rintro e w2 ⟨y, rfl, hy, hc, ht⟩
  have HR2 := Lib.hid (HR1.out.of_cells (fun o => ht.cell HR1.out.lt hnr) (fun o => ht.frozen HR1.out.lt hnr))
  have HT2 := Lib.hid (HT1.out.trans ht)
  have HC2 := Lib.hid hc
  have hy0 := hy.1; have hy1 := hy.2
  clear hc ht hy HP2 HR1 HT1
  obtain ⟨wi, hwi⟩ : ∃ wi : Int, wi = 2 + x := ⟨_, rfl⟩
  obtain ⟨he, hhe⟩ : ∃ he : Int, he = 1 + y := ⟨_, rfl⟩
  have hwr : w.heap.size < w2.heap.size := HR2.out.lt
  have hxx : Ext w2 (((w2.alloc (.cells #[] 3)).alloc (.cells #[] 3)).alloc (.cells #[.int .i64 wi, .int .i64 he, .slice (some ⟨w2.heap.size, 0, none⟩) 0 0, .slice (some ⟨w2.heap.size + 1, 0, none⟩) 0 0] 30)) := (((Ext.refl _).alloc _).alloc _).alloc _
  have hM : MapIn w (((w2.alloc (.cells #[] 3)).alloc (.cells #[] 3)).alloc (.cells #[.int .i64 wi, .int .i64 he, .slice (some ⟨w2.heap.size, 0, none⟩) 0 0, .slice (some ⟨w2.heap.size + 1, 0, none⟩) 0 0] 30)) B (w2.heap.size + 1 + 1) (n + 2) wi he (some ⟨w2.heap.size, 0, none⟩) 0 [] (some ⟨w2.heap.size + 1, 0, none⟩) 0 [] := by
    have o1 : Owns (((w2.alloc (.cells #[] 3)).alloc (.cells #[] 3)).alloc (.cells #[.int .i64 wi, .int .i64 he, .slice (some ⟨w2.heap.size, 0, none⟩) 0 0, .slice (some ⟨w2.heap.size + 1, 0, none⟩) 0 0] 30)) (w.heap.size + 1) 3 1 icc (.slice (some ⟨w2.heap.size, 0, none⟩) 0 0) [] := ((Owns.start' (e := 3) (s := 1) (cc := icc) hwr).ext' ((Ext.refl _).alloc _)).ext' ((Ext.refl _).alloc _)
    have o2 := (Owns.start' (w := w2.alloc (.cells #[] 3)) (base := w.heap.size + 1) (e := 3) (s := 1) (cc := icc) (by rw [World.size_alloc]; omega)).ext' ((Ext.refl _).alloc (.cells #[.int .i64 wi, .int .i64 he, .slice (some ⟨w2.heap.size, 0, none⟩) 0 0, .slice (some ⟨w2.heap.size + 1, 0, none⟩) 0 0] 30))
    rw [World.size_alloc] at o2
    refine ⟨?_, fun j => by go_simp, o1, o2, fun e => ?_, fun e => ?_, fun e => ?_, ⟨_, _, rfl⟩, ⟨_, _, rfl⟩, HC2.out.ext hxx, by omega, hBl, HT2.out.trans (Touch.of_ext hxx), HR2.out.ext hxx⟩
    · have := Box4.of (Ext.refl (((w2.alloc (.cells #[] 3)).alloc (.cells #[] 3)).alloc (.cells #[.int .i64 wi, .int .i64 he, .slice (some ⟨w2.heap.size, 0, none⟩) 0 0, .slice (some ⟨w2.heap.size + 1, 0, none⟩) 0 0] 30)))
      rw [World.size_alloc, World.size_alloc] at this
      exact this
    · have e : some w2.heap.size = some (w2.heap.size + 1 + 1) := e
      injection e with e; omega
    · have e : some (w2.heap.size + 1) = some (w2.heap.size + 1 + 1) := e
      injection e with e; omega
    · have e : some w2.heap.size = some (w2.heap.size + 1) := e
      injection e with e; omega
  have HM := Lib.hid hM
  have hP1 : 0 < wi * he := Int.mul_pos (by omega) (by omega)
  have hP2 : wi * he ≤ 20 := by
    have h1 := Int.mul_le_mul (show wi ≤ 5 by omega) (show he ≤ 4 by omega) (by omega) (by omega)
    exact h1
  clear hM hxx
  go_upto_region 2 with fail
  rw [← hwi, ← hhe]
  generalize (((w2.alloc (.cells #[] 3)).alloc (.cells #[] 3)).alloc (.cells #[.int .i64 wi, .int .i64 he, .slice (some ⟨w2.heap.size, 0, none⟩) 0 0, .slice (some ⟨w2.heap.size + 1, 0, none⟩) 0 0] 30)) = w3 at *
  obtain ⟨KB, hKB⟩ : ∃ KB, KB = w2.heap.size + 1 + 1 := ⟨_, rfl⟩
  obtain ⟨ra, hra⟩ : ∃ ra : Option Addr, ra = some ⟨w2.heap.size, 0, none⟩ := ⟨_, rfl⟩
  obtain ⟨ta, hta⟩ : ∃ ta : Option Addr, ta = some ⟨w2.heap.size + 1, 0, none⟩ := ⟨_, rfl⟩
  rw [← hKB, ← hra, ← hta] at HM
  rw [← hKB]
  clear hKB hra hta HC2 HT2 HR2 hwr
  go_wp2
  have hw2 : wi ≤ 5 := by omega
  have hw1 : 2 ≤ wi := by omega
  have hh1 : he ≤ 4 := by omega
  have hh0 : 1 ≤ he := by omega
  clear hwi hhe hx0 hx1 hy0 hy1
  go_loopw [4] (fun i wr => ∃ (k : Nat) (rs ts : List Int) (ro : Option Addr) (rc : Nat) (qo : Option Addr) (tc : Nat), (k : Int) ≤ wi * he ∧ i = .int .i64 k ∧ Hid (rs.length = k ∧ ts.length = k) ∧ MapIn w wr B KB (n + 2 + 3 * k) wi he ro rc rs qo tc ts) (fun i _ => 20 - (intOf i).toNat)
  case atStart => exact ⟨0, [], [], _, _, _, _, by omega, rfl, Lib.hid ⟨rfl, rfl⟩, HM.out⟩
  case round =>
    obtain ⟨k, rs, ts, ro, rc, qo, tc, hk, rfl, HKL, hC⟩ := hrel
    have HC := Lib.hid hC
    have b0 := hC.box.c0
    have b1 := hC.box.c1
    have bl := hC.box.lt
    clear HM
    by_cases hlt : (k : Int) < wi * he
    · have HA := Lib.hid (fun T => cu_lit (T := T) (cs := #[.int .i64 1, .int .i64 1, .int .i64 1, .int .i64 2, .int .i64 3, .int .i64 0, .int .i64 1, .int .i64 2]) [1, 1, 1, 2, 3, 0, 1, 2] 0 3 hC.cur (by omega) rfl (by decide) (by decide) (by decide))
      clear hC
      go_wp2_with fail
      refine (HA.out _).mono ?_; rintro e w4 ⟨c, rfl, hc0, hc, ht⟩
      have HC4 := Lib.hid (HC.out.curs hc ht)
      have HA2 := Lib.hid (fun T => cu_lit (T := T) (cs := #[.int .i64 0, .int .i64 0, .int .i64 1, .int .i64 2, .int .i64 2, .int .i64 5]) [0, 0, 1, 2, 2, 5] 0 5 hc (by omega) rfl (by decide) (by decide) (by decide))
      clear hc ht HA HC hc0 b0 b1 bl
      go_wp2_with fail
      refine (HA2.out _).mono ?_; rintro e w5 ⟨d, rfl, hd0, hc, ht⟩
      have HC5 := Lib.hid (HC4.out.curs hc ht)
      clear hc ht HA2 HC4 hd0
      go_upto_region 7 with fail
      go_cut [37] (fun v wc => ∃ b, v = .bool b ∧ MapIn w wc B KB (n + 2 + 3 * k + 3) wi he ro rc rs qo tc ts)
      case first =>
        by_cases hz : c = 0
        · subst hz
          have HON := Lib.hid (cu_one (N := 6) HC5.out.cur (by omega) (by decide) (by decide))
          go_wp2_with fail
          refine HON.out.mono ?_; rintro e w6 ⟨b, rfl, hc, ht⟩
          have HC6 := Lib.hid (HC5.out.curs hc ht)
          clear hc ht HON
          go_wp2_with fail
          go_meet
          exact ⟨_, rfl, HC6.out.mono (by omega)⟩
        · have hzb : decide (c = 0) = false := decide_eq_false hz
          go_wp2_with fail
          go_meet
          exact ⟨_, rfl, HC5.out.mono (by omega)⟩
      case rest =>
      obtain ⟨b, rfl, hC6⟩ := hcut
      have HC6 := Lib.hid hC6
      clear hC6 HC5
      go_upto_if 37 with fail
      rename World => w6
      go_cut [6] (fun v wc => ∃ d : Int, v = .int .i64 d ∧ MapIn w wc B KB (n + 2 + 3 * k + 3) wi he ro rc rs qo tc ts)
      case first =>
        cases b
        · go_wp2_with fail
          go_meet
          exact ⟨_, rfl, HC6.out⟩
        · go_wp2_with fail
          go_meet
          exact ⟨_, rfl, HC6.out⟩
      case rest =>
      obtain ⟨d', rfl, hC7⟩ := hcut
      clear HC6
      have HC7 := Lib.hid hC7
      have m3 := hC7.box.c3
      have ml := hC7.box.lt
      have mr := hC7.res.lt
      clear hC7
      rename World => w7
      obtain ⟨L1, hL1⟩ : ∃ L, L = ts ++ [c] := ⟨_, rfl⟩
      have hk20 : ts.length ≤ 20 := by have := HKL.out.2; omega
      have HLL1 : Hid (L1.length = k + 1) := Lib.hid (by rw [hL1, List.length_append, HKL.out.2]; rfl)
      have HL1 := Lib.hid hL1
      clear hL1
      have hrow1 := fun x => row_lit (w := x) (cs := #[.int .i64 c]) (T := 3) (s := 1) (cc := icc) (x := c) (by intro j hj; obtain rfl : j = 0 := (by omega); rfl)
      have HX7 := Lib.hid (HC7.out.ext ((Ext.refl _).alloc (.cells #[.int .i64 c] 3)))
      go_upto_region 10 with (at_builtin; refine wpList_append_bf rfl _ _ 22 rfl 3 i0 _ 1 8 Try.underlying22 HI.out HZ0.out HZ1.out HZ2.out rfl (by decide) icc icc_one (w.heap.size + 1) (by simp; omega) (.slice qo ts.length tc) ts [c] L1 HL1 rfl HX7.out.own2 ⟨w7.heap.size, 0, none⟩ 1 1 rfl rfl (hrow1 _) (by simp; omega) (by simp; omega) ?_; intro go1 gc1 w8 ho1 hb1 hg1 hv1; have m4 := (HX7.out.mid2 hg1).1; have m5 := (HX7.out.mid2 hg1).2.1; have m6 := (HX7.out.mid2 hg1).2.2; have HC8 := Lib.hid (HX7.out.push2 hg1 hb1 (by have := HLL1.out; omega) ho1 hv1); clear ho1 hb1 hg1 hv1 HX7 hrow1 HC7 m3 ml)
      have n2 := HC8.out.box.c2
      have n3 := HC8.out.box.c3
      have nl := HC8.out.box.lt
      have nr := HC8.out.res.lt
      generalize w8.setCell ⟨KB, 3, none⟩ (.slice go1 L1.length gc1) = w9 at *
      clear m4 m5 m6
      obtain ⟨L2, hL2⟩ : ∃ L, L = rs ++ [d'] := ⟨_, rfl⟩
      have hk21 : rs.length ≤ 20 := by have := HKL.out.1; omega
      have HLL2 : Hid (L2.length = k + 1) := Lib.hid (by rw [hL2, List.length_append, HKL.out.1]; rfl)
      have HL2 := Lib.hid hL2
      clear hL2
      have hrow2 := fun x => row_lit (w := x) (cs := #[.int .i64 d']) (T := 3) (s := 1) (cc := icc) (x := d') (by intro j hj; obtain rfl : j = 0 := (by omega); rfl)
      have HX9 := Lib.hid (HC8.out.ext ((Ext.refl _).alloc (.cells #[.int .i64 d'] 3)))
      go_upto_region 4 with (at_builtin; refine wpList_append_bf rfl _ _ 22 rfl 3 i0 _ 1 8 Try.underlying22 HI.out HZ0.out HZ1.out HZ2.out rfl (by decide) icc icc_one (w.heap.size + 1) (by simp; omega) (.slice ro rs.length rc) rs [d'] L2 HL2 rfl HX9.out.own1 ⟨w9.heap.size, 0, none⟩ 1 1 rfl rfl (hrow2 _) (by simp; omega) (by simp; omega) ?_; intro go2 gc2 wa ho1 hb1 hg1 hv1; have m4 := (HX9.out.mid1 hg1).1; have m5 := (HX9.out.mid1 hg1).2.1; have m6 := (HX9.out.mid1 hg1).2.2; have HC10 := Lib.hid (HX9.out.push1 hg1 hb1 (by have := HLL2.out; omega) ho1 hv1); clear ho1 hb1 hg1 hv1 HX9 hrow2 HC8 n3 n2 nl)
      go_wp2
      go_roundw
      case rel => exact ⟨k + 1, L2, L1, go2, gc2, go1, gc1, by omega, by go_num, Lib.hid ⟨HLL2.out, HLL1.out⟩, HC10.out.mono (by omega)⟩
      case measure => simp [intOf] <;> omega
    · have HP := Lib.hid (cu_pick (N := 48) hC.cur (by omega) (by decide) (by decide))
      have hk20 : k ≤ 20 := by omega
      clear hC
      go_wp2_with fail
      refine HP.out.mono ?_; rintro e w4 ⟨x, rfl, _, hc, ht⟩
      have HC4 := Lib.hid (HC.out.curs hc ht)
      clear hc ht HP HC b0 b1 bl
      have hk1 : 0 < k := by omega
      have hr0 : 0 < rs.length := by have := HKL.out.1; omega
      have ht0 : 0 < ts.length := by have := HKL.out.2; omega
      have hr1 : rs.length ≤ 20 := by have := HKL.out.1; omega
      have ht1 : ts.length ≤ 20 := by have := HKL.out.2; omega
      have hri : (0 : Int) < (rs.length : Int) := by omega
      have hti : (0 : Int) < (ts.length : Int) := by omega
      have b0 := HC4.out.box.c0
      have b2 := HC4.out.box.c2
      have b3 := HC4.out.box.c3
      have bl := HC4.out.box.lt
      have br := HC4.out.res.lt
      have bf0 := HC4.out.bfree 0
      have bf2 := HC4.out.bfree 2
      clear hlt hk
      go_upto_block 2 with fail
      go_cut [] (fun wc => ∃ (wi' : Int) (rs' ts' : List Int) (ro' : Option Addr) (rc' : Nat) (qo' : Option Addr) (tc' : Nat), rs'.length ≤ 21 ∧ ts'.length ≤ 20 ∧ MapF w wc B KB (n + 70) wi' he ro' rc' rs' qo' tc' ts')
      case first =>
        by_cases e0 : x = 0
        · subst e0
          have HA := Lib.hid (fun T' => cu_lit (T := T') (cs := #[.int .i64 0, .int .i64 7, .int .i64 (wi + 1)]) [0, 7, wi + 1] 0 7 HC4.out.cur (by omega) rfl (fun i hi => by match i, hi with | 0, _ => simp [nth] | 1, _ => simp [nth] | 2, _ => (simp [nth]; omega)) (by simp) (by simp))
          go_wp2_with fail
          refine (HA.out _).mono ?_; rintro e w5 ⟨v, rfl, hv, hc, ht⟩
          have HC5 := Lib.hid (HC4.out.curs hc ht)
          have b0 := HC5.out.box.c0
          have bl := HC5.out.box.lt
          have bf0 := HC5.out.bfree 0
          clear hc ht HA hv
          go_wp2_with fail
          go_meet
          exact ⟨v, rs, ts, ro, rc, qo, tc, by omega, by omega, (HC5.out.put0 v).toF.mono (by omega)⟩
        · by_cases e1 : x = 1
          · subst e1
            clear e0
            obtain ⟨tb, toff, rfl⟩ := HC4.out.adr2
            have HA := Lib.hid (fun T y hx => cu_litx (T := T) (x := y) (cs := #[.int .i64 (-1), .int .i64 10, .int .i64 9]) [-1, 10, 9] (-1) 10 HC4.out.cur (by omega) rfl (by decide) (by decide) (by decide) hx)
            go_wp2
            go_region_with (go_at_call 81; with_reducible refine Calls.mono (HA.out _ _ (Ext.drew (Ext.refl _))) ?_; rintro e w5 ⟨v, rfl, hv, hc, ht⟩; have hC5 := HC4.out.curs hc ht; have b3 := hC5.box.c3; have bl := hC5.box.lt; have hF5 := hC5.toF.row2; have t0 := cell00 hF5 ht0; have t1 := hF5.free tb toff rfl toff; have t2 := (hF5.base _ rfl).2; have H5 := Lib.hid hC5; clear hC5 hc ht hF5)
            all_goals
              go_wp2_with fail
              go_meet
              exact ⟨wi, rs, ts.set 0 v, ro, rc, some ⟨tb, toff, none⟩, tc, by omega, by rw [List.length_set]; omega, (H5.out.cost0 ht0 v).mono (by omega)⟩
          · by_cases e2 : x = 2
            · subst e2
              clear e0 e1
              obtain ⟨tb, toff, rfl⟩ := HC4.out.adr1
              have HA := Lib.hid (fun T y hx => cu_litx (T := T) (x := y) (cs := #[.int .i64 (-1), .int .i64 10, .int .i64 9]) [-1, 10, 9] (-1) 10 HC4.out.cur (by omega) rfl (by decide) (by decide) (by decide) hx)
              go_wp2
              go_region_with (go_at_call 81; with_reducible refine Calls.mono (HA.out _ _ (Ext.drew (Ext.refl _))) ?_; rintro e w5 ⟨v, rfl, hv, hc, ht⟩; have hC5 := HC4.out.curs hc ht; have b2 := hC5.box.c2; have bl := hC5.box.lt; have hF5 := hC5.toF.row1; have t0 := cell00 hF5 hr0; have t1 := hF5.free tb toff rfl toff; have t2 := (hF5.base _ rfl).2; have H5 := Lib.hid hC5; clear hC5 hc ht hF5)
              all_goals
                go_wp2_with fail
                go_meet
                exact ⟨wi, rs.set 0 v, ts, some ⟨tb, toff, none⟩, rc, qo, tc, by rw [List.length_set]; omega, by omega, (H5.out.rise0 hr0 v).mono (by omega)⟩
            · by_cases e3 : x = 3
              · subst e3
                clear e0 e1 e2
                obtain ⟨L2, hL2⟩ : ∃ L, L = rs ++ [(0 : Int)] := ⟨_, rfl⟩
                have HLL2 : Hid (L2.length = rs.length + 1) := Lib.hid (by rw [hL2, List.length_append]; rfl)
                have HL2 := Lib.hid hL2
                clear hL2
                have hrow2 := fun x => row_lit (w := x) (cs := #[.int .i64 0]) (T := 3) (s := 1) (cc := icc) (x := 0) (by intro j hj; obtain rfl : j = 0 := (by omega); rfl)
                have HX9 := Lib.hid (HC4.out.ext ((Ext.refl _).alloc (.cells #[.int .i64 0] 3)))
                go_wp2_with (at_builtin; refine wpList_append_bf rfl _ _ 22 rfl 3 i0 _ 1 8 Try.underlying22 HI.out HZ0.out HZ1.out HZ2.out rfl (by decide) icc icc_one (w.heap.size + 1) (by simp; omega) (.slice ro rs.length rc) rs [(0 : Int)] L2 HL2 rfl HX9.out.own1 ⟨w4.heap.size, 0, none⟩ 1 1 rfl rfl (hrow2 _) (by simp; omega) (by simp; omega) ?_; intro go2 gc2 wa ho1 hb1 hg1 hv1; have m4 := (HX9.out.mid1 hg1).1; have m5 := (HX9.out.mid1 hg1).2.1; have m6 := (HX9.out.mid1 hg1).2.2; have HC10 := Lib.hid (HX9.out.push1 hg1 hb1 (by have := HLL2.out; omega) ho1 hv1); clear ho1 hb1 hg1 hv1 HX9 hrow2 b0 b2 b3 bl bf0 bf2)
                go_meet
                exact ⟨wi, L2, ts, go2, gc2, qo, tc, by have := HLL2.out; omega, by omega, HC10.out.toF.mono (by omega)⟩
              · go_wp2_with fail
                go_meet
                exact ⟨wi, rs, ts, ro, rc, qo, tc, by omega, by omega, HC4.out.toF.mono (by omega)⟩
      case rest =>
      obtain ⟨wi', rs', ts', ro', rc', qo', tc', hl1, hl2, hF⟩ := hcut
      have HF := Lib.hid hF
      have p0 := hF.box.c0
      have p1 := hF.box.c1
      have p2 := hF.box.c2
      have p3 := hF.box.c3
      have pl := hF.box.lt
      have r0 := hF.res.c0
      have r1 := hF.res.c1
      have r2 := hF.res.c2
      have r3 := hF.res.c3
      have rl := hF.res.lt
      have rf0 := hF.res.fz 0
      have rf1 := hF.res.fz 1
      have rf2 := hF.res.fz 2
      have rf3 := hF.res.fz 3
      have hkr : ¬ w.heap.size = KB := by have := hF.lo; omega
      have hkr' : ¬ KB = w.heap.size := by have := hF.lo; omega
      clear hF b0 b2 b3 bl bf0 bf2 br HC4
      go_wp2
      have hf := HF.out.fin (.int .i64 wi') (.int .i64 he) (.slice ro' rs'.length rc') (.slice qo' ts'.length tc')
      refine bodyPost_ret (v := .agg #[.int .i64 wi', .int .i64 he, .slice ro' rs'.length rc', .slice qo' ts'.length tc']) ?_ rfl ?_
      · simp [results, Try.results123, go_sem, cell_put, r0, r1, r2, r3]
      · exact ⟨⟨wi', he, rs', ts'⟩, ro', rc', qo', tc', rfl, hl1, hl2, HF.out.cap1, HF.out.cap2, hf.1, hf.2.1, hf.2.2.1, hf.2.2.2⟩


theorem ctl_one : ∀ (x : Ctl) (j : Nat), j < 2 → (x.c j).oneCell' = true := by
  intro x j hj
  match j, hj with
  | 0, _ => rfl
  | 1, _ => rfl
/-- the end: rows in the call's own memory are as they were behind the four stores of the result -/
theorem four_put {B0 b : Nat} {w : World} {ao : Option Addr} {s n : Nat} {c : Nat → Nat → Value} (h : FreshAt B0 w ao s n c) (hb : b < B0) (u0 u1 u2 u3 : Value) :
    FreshAt B0 ((((w.setCell ⟨b, 0, none⟩ u0).setCell ⟨b, 1, none⟩ u1).setCell ⟨b, 2, none⟩ u2).setCell ⟨b, 3, none⟩ u3) ao s n c := by
  have hp : ∀ j, ∀ a, ao = some a → a.block ≠ (⟨b, j, none⟩ : Addr).block := fun j a e q => by
    have h1 := (h.base a e).1
    have q : a.block = b := q
    omega
  exact (((h.offs (p := ⟨b, 0, none⟩) (hp 0) u0).offs (p := ⟨b, 1, none⟩) (hp 1) u1).offs (p := ⟨b, 2, none⟩) (hp 2) u2).offs (p := ⟨b, 3, none⟩) (hp 3) u3

set_option maxRecDepth 100000 in
set_option maxHeartbeats 4000000 in
theorem cu_site {B n : Nat} {w : World} (h : Cu w B n) (hn : n ≤ 500000) :
    Calls Try.prog 95 #[.pointer (some ⟨B, 0, none⟩)] w fun e w' => ∃ (m : MapD) (ro : Option Addr) (rc : Nat) (qo : Option Addr) (tc : Nat) (xs : List Ctl) (co : Option Addr) (cap : Nat), e = .returned (.tuple #[m.val ro rc qo tc, .slice co xs.length cap]) ∧ m.rise.length ≤ 21 ∧ m.cost.length ≤ 20 ∧ (m.rise.length ≤ rc ∧ rc ≤ 9223372036854775807) ∧ (m.cost.length ≤ tc ∧ tc ≤ 9223372036854775807) ∧
      FreshAt w.heap.size w' ro 1 m.rise.length (ic m.rise) ∧ FreshAt w.heap.size w' qo 1 m.cost.length (ic m.cost) ∧ xs.length ≤ 11 ∧ FreshAt w.heap.size w' co 2 xs.length (fun k => (nth xs k).c) ∧ (co = none → cap = 0) ∧ (xs.length ≤ cap ∧ cap ≤ 9223372036854775807) ∧ Cu w' B (n + 250) ∧ Touch w w' (Span B (B + 1)) := by
  obtain ⟨i0, hi, hz0, hz1, hz2⟩ := info_parts infoCtl
  have HI := Lib.hid hi; have HZ0 := Lib.hid hz0; have HZ1 := Lib.hid hz1; have HZ2 := Lib.hid hz2
  have hBl := h.lt
  have hx0 := ((Ext.refl w).alloc (.cells #[.int .i64 0, .int .i64 0, .slice none 0 0, .slice none 0 0] 30))
  have hm := cu_mapOf (h.ext hx0) (by omega)
  rw [World.size_alloc] at hm
  have HM := Lib.hid hm
  have HR0 := Lib.hid (ResM.of (w := w) (T := 30) (Ext.refl _))
  have HT0 := Lib.hid (Touch.of_ext (S := Span B (B + 1)) hx0)
  have hnr : ¬ Span B (B + 1) w.heap.size := fun hs => by have h4 : w.heap.size < B + 1 := hs.2; omega
  clear hi hz0 hz1 hz2 h hx0 hm
  go_enter Try.func95, Try.ntmps95
  go_wp2_with fail
  refine HM.out.mono ?_; rintro e w1 ⟨m, ro, rc, qo, tc, rfl, hl1, hl2, hc1, hc2, hF1, hF2, hc, ht⟩
  have HR1 := Lib.hid (HR0.out.of_cells (fun o => ht.cell HR0.out.lt hnr) (fun o => ht.frozen HR0.out.lt hnr))
  have HT1 := Lib.hid (HT0.out.trans ht)
  have HC1 := Lib.hid hc
  have HF1 := Lib.hid hF1; have HF2 := Lib.hid hF2
  have HCA := Lib.hid (And.intro hc1 hc2)
  have hwr : w.heap.size < w1.heap.size := HR1.out.lt
  clear hc ht HM HR0 HT0 hF1 hF2 hc1 hc2
  unfold MapD.val
  obtain ⟨W2, hW2⟩ : ∃ W2, W2 = ((w1.alloc (.cells #[.int .i64 m.wid, .int .i64 m.hei, .slice ro m.rise.length rc, .slice qo m.cost.length tc] 30)).alloc (.cells #[.int .i64 31, .int .i64 32, .int .i64 34, .int .i64 41, .int .i64 43, .int .i64 45, .int .i64 54, .int .i64 60, .int .i64 77, .int .i64 99] 3)) := ⟨_, rfl⟩
  have hx2 : Ext w1 W2 := by rw [hW2]; exact ((Ext.refl _).alloc _).alloc _
  have hs2 : W2.heap.size = w1.heap.size + 1 + 1 := by rw [hW2]; simp
  have p0 : W2.cell? ⟨w1.heap.size, 0, none⟩ = some (.int .i64 m.wid) := by rw [hW2]; go_simp
  have p1 : W2.cell? ⟨w1.heap.size, 1, none⟩ = some (.int .i64 m.hei) := by rw [hW2]; go_simp
  have p2 : W2.cell? ⟨w1.heap.size, 2, none⟩ = some (.slice ro m.rise.length rc) := by rw [hW2]; go_simp
  have p3 : W2.cell? ⟨w1.heap.size, 3, none⟩ = some (.slice qo m.cost.length tc) := by rw [hW2]; go_simp
  have hcr : RowAt W2 (some ⟨w1.heap.size + 1, 0, none⟩) 1 10 (ic [31, 32, 34, 41, 43, 45, 54, 60, 77, 99]) := by
    have := lit_ints (w := w1.alloc (.cells #[.int .i64 m.wid, .int .i64 m.hei, .slice ro m.rise.length rc, .slice qo m.cost.length tc] 30)) (cs := #[.int .i64 31, .int .i64 32, .int .i64 34, .int .i64 41, .int .i64 43, .int .i64 45, .int .i64 54, .int .i64 60, .int .i64 77, .int .i64 99]) (T := 3) [31, 32, 34, 41, 43, 45, 54, 60, 77, 99] rfl
    rw [World.size_alloc] at this
    rw [hW2]; exact this
  go_upto_region 3 with fail
  rw [← hW2]
  clear hW2
  have HSZ : Hid (∀ y, Touch W2 y (Span B (B + 1)) → W2.heap.size ≤ y.heap.size) := Lib.hid (fun y ht => ht.size)
  have hnb : ¬ Span B (B + 1) w1.heap.size := fun hs => by have h1 : w1.heap.size < B + 1 := hs.2; omega
  have HQ0 := Lib.hid (fun y (ht : Touch W2 y (Span B (B + 1))) => (ht.cell (b := w1.heap.size) (o := 0) (by omega) hnb).trans p0)
  have HQ1 := Lib.hid (fun y (ht : Touch W2 y (Span B (B + 1))) => (ht.cell (b := w1.heap.size) (o := 1) (by omega) hnb).trans p1)
  have HQ2 := Lib.hid (fun y (ht : Touch W2 y (Span B (B + 1))) => (ht.cell (b := w1.heap.size) (o := 2) (by omega) hnb).trans p2)
  have HQ3 := Lib.hid (fun y (ht : Touch W2 y (Span B (B + 1))) => (ht.cell (b := w1.heap.size) (o := 3) (by omega) hnb).trans p3)
  have HCR := Lib.hid (fun y (ht : Touch W2 y (Span B (B + 1))) => hcr.curs ht (fun a e => by injection e with e; subst e; show w1.heap.size + 1 ≠ B; omega))
  have hne1 : ∀ a, ro = some a → a.block ≠ B := fun a e => by have := (HF1.out.base a e).1; omega
  have hne2 : ∀ a, qo = some a → a.block ≠ B := fun a e => by have := (HF2.out.base a e).1; omega
  have HG1 := Lib.hid (fun y (ht : Touch W2 y (Span B (B + 1))) => (HF1.out.ext hx2).touch ht (fun a e hs => hne1 a e (by have h1 : B ≤ a.block := hs.1; have h2 : a.block < B + 1 := hs.2; omega)))
  have HG2 := Lib.hid (fun y (ht : Touch W2 y (Span B (B + 1))) => (HF2.out.ext hx2).touch ht (fun a e hs => hne2 a e (by have h1 : B ≤ a.block := hs.1; have h2 : a.block < B + 1 := hs.2; omega)))
  have HRR := Lib.hid (fun y (ht : Touch W2 y (Span B (B + 1))) => (HR1.out.ext hx2).of_cells (fun o => ht.cell (HR1.out.ext hx2).lt hnr) (fun o => ht.frozen (HR1.out.ext hx2).lt hnr))
  have HTW := Lib.hid (HT1.out.trans (Touch.of_ext hx2))
  have HC2 := Lib.hid (HC1.out.ext hx2)
  have HB2 : Hid (B < W2.heap.size) := Lib.hid (by omega)
  have HO2 := Lib.hid (Owns.start' (w := W2) (e := 75) (s := 2) (cc := Ctl.c) (Nat.le_refl W2.heap.size))
  have HNE := Lib.hid (And.intro hne1 hne2)
  clear p0 p1 p2 p3 hcr hx2 HR1 HT1 HC1 HF1 HF2 hne1 hne2
  have HSL := Lib.hid hs2
  clear hs2
  go_wp2
  go_loopw [6, 7] (fun l i wr => ∃ (k : Nat) (xs : List Ctl) (co : Option Addr) (cap : Nat), k ≤ 10 ∧ i = .int .i64 k ∧ l = .slice co xs.length cap ∧ xs.length ≤ k ∧ Owns wr W2.heap.size 75 2 Ctl.c (.slice co xs.length cap) xs ∧ Cu wr B (n + 71 + 10 * k) ∧ Touch W2 wr (Span B (B + 1))) (fun _ i _ => 10 - (intOf i).toNat)
  case atStart => exact ⟨0, [], _, _, by omega, rfl, rfl, Nat.le_refl _, HO2.out, (HC2.out.ext ((Ext.refl _).alloc _)).mono (by omega), Touch.of_ext ((Ext.refl _).alloc _)⟩
  case round =>
    obtain ⟨k, xs, co, cap, hk, rfl, rfl, hxl, hO, hC, hT⟩ := hrel
    have HO := Lib.hid hO; have HC := Lib.hid hC; have HT := Lib.hid hT; have HXL := Lib.hid hxl
    clear hO hC hT HO2 HC2 hxl
    by_cases hlt : k < 10
    · have hk0 : (0 : Int) ≤ (k : Int) := by omega
      have hk1 : (k : Int) < 10 := by omega
      have HON := Lib.hid (cu_one (N := 2) HC.out (by omega) (by decide) (by decide))
      go_wp2_with fail
      refine HON.out.mono ?_; rintro e w4 ⟨b, rfl, hc, ht⟩
      have HO4 := Lib.hid (HO.out.cur ht HB2.out)
      have HT4 := Lib.hid (HT.out.trans ht)
      have HC4 := Lib.hid hc
      clear hc ht HON HO HT HC
      cases b
      · have q0 := HQ0.out _ HT4.out
        have q1 := HQ1.out _ HT4.out
        have q2 := HQ2.out _ HT4.out
        have q3 := HQ3.out _ HT4.out
        have ql := World.block_lt_of_cell? _ _ q0
        have hoc := cu_openCell (m := m) (ac := rc) (bc := tc) HC4.out (by omega) (HG1.out _ HT4.out).row (HG2.out _ HT4.out).row (by omega) (by omega) HNE.out.1 HNE.out.2
        unfold MapD.val at hoc
        have HOC := Lib.hid hoc
        clear hoc
        go_wp2_with fail
        refine HOC.out.mono ?_; rintro e w5 ⟨x, rfl, hx, hc, ht⟩
        have HO5 := Lib.hid (HO4.out.cur ht HB2.out)
        have HT5 := Lib.hid (HT4.out.trans ht)
        have HC5 := Lib.hid hc
        clear hc ht HOC HO4 HT4 HC4 q0 q1 q2 q3 ql hx
        obtain ⟨ao, cap2, e0, hF5, _, hcl, hcm⟩ := HO5.out.fresh
        injection e0 with e1 _ e3
        subst e1 e3
        have HF5 := Lib.hid hF5
        have hx20 : xs.length ≤ 20 := by have := HXL.out; omega
        clear hF5 hcl hcm
        go_upto_block 2 with fail
        go_cut [9] (fun t wc => ∃ b, t = .bool b ∧ Ext w5 wc)
        case first =>
          go_wp2
          go_loopw [9, 10] (fun t j wr => ∃ (b : Bool) (q : Nat), q ≤ xs.length ∧ j = .int .i64 q ∧ t = .bool b ∧ Ext w5 wr) (fun _ j _ => xs.length - (intOf j).toNat)
          case atStart => exact ⟨false, 0, Nat.zero_le _, rfl, rfl, Ext.refl _⟩
          case round =>
            obtain ⟨b, q, hq, rfl, rfl, hxr⟩ := hrel
            have HXR := Lib.hid hxr
            clear hxr
            by_cases hql : q < xs.length
            · obtain ⟨lb, loff, rfl, H⟩ := HF5.out.row.ext HXR.out (by omega)
              have d1 := H q hql 1 (by decide)
              simp only [Ctl.c] at d1
              have hq0 : (0 : Int) ≤ (q : Int) := by omega
              have hq1 : (q : Int) < (xs.length : Int) := by omega
              clear H
              cases b
              · go_wp2
                go_roundw
                case rel => exact ⟨_, q + 1, by omega, by go_num, rfl, HXR.out⟩
                case measure => simp [intOf] <;> omega
              · go_wp2
                go_roundw
                case rel => exact ⟨_, q + 1, by omega, by go_num, rfl, HXR.out⟩
                case measure => simp [intOf] <;> omega
            · obtain rfl : q = xs.length := by omega
              have hqn : ¬ (xs.length : Int) < (xs.length : Int) := by omega
              go_wp2_with fail
              go_meet
              exact ⟨b, rfl, HXR.out⟩
        case rest =>
        obtain ⟨b, rfl, hx6⟩ := hcut
        rename World => w6
        have HO6 := Lib.hid (HO5.out.ext' hx6)
        have HT6 := Lib.hid (HT5.out.trans (Touch.of_ext hx6))
        have HC6 := Lib.hid (HC5.out.ext hx6)
        clear hx6 HO5 HT5 HC5 HF5
        go_upto_region 14 with fail
        go_cut [47] (fun v wc => ∃ b, v = .bool b ∧ Owns wc W2.heap.size 75 2 Ctl.c (.slice co xs.length cap) xs ∧ Cu wc B (n + 71 + 10 * k + 5) ∧ Touch W2 wc (Span B (B + 1)))
        case first =>
          cases b
          · go_wp2_with fail
            go_meet
            exact ⟨_, rfl, HO6.out, HC6.out.mono (by omega), HT6.out⟩
          · have HON := Lib.hid (cu_one (N := 40) HC6.out (by omega) (by decide) (by decide))
            go_wp2_with fail
            refine HON.out.mono ?_; rintro e w7 ⟨b, rfl, hc, ht⟩
            have HO7 := Lib.hid (HO6.out.cur ht HB2.out)
            have HT7 := Lib.hid (HT6.out.trans ht)
            have HC7 := Lib.hid hc
            clear hc ht HON HO6 HT6 HC6
            go_wp2_with fail
            go_meet
            exact ⟨_, rfl, HO7.out, HC7.out.mono (by omega), HT7.out⟩
        case rest =>
        obtain ⟨b, rfl, hO7, hC7, hT7⟩ := hcut
        clear HO6 HC6 HT6
        rename World => w7
        have HO7 := Lib.hid hO7; have HC7 := Lib.hid hC7; have HT7 := Lib.hid hT7
        have hs7 := hT7.size
        obtain ⟨cb, coff, ec, H⟩ := HCR.out _ hT7 (by decide)
        injection ec with ec
        injection ec with ec1 ec2
        subst ec1 ec2
        have d0 := H k hlt 0 (by decide)
        simp only [ic, Nat.mul_one, Nat.zero_add, Nat.add_zero] at d0
        generalize nth ([31, 32, 34, 41, 43, 45, 54, 60, 77, 99] : List Int) k = cd at *
        clear hO7 hC7 hT7 H
        cases b
        · go_wp2
          go_roundw
          case rel => exact ⟨k + 1, xs, co, cap, by omega, by go_num, rfl, by have := HXL.out; omega, HO7.out, HC7.out.mono (by omega), HT7.out⟩
          case measure => simp [intOf] <;> omega
        · have hrow2 := fun y => row_lit (w := y) (cs := #[.int .i64 cd, .int .i64 x]) (T := 75) (s := 2) (cc := Ctl.c) (x := ⟨cd, x⟩) (by intro j hj; match j, hj with | 0, _ => rfl | 1, _ => rfl)
          go_wp2_with (at_builtin; refine wpList_append_bf rfl _ _ 32 rfl 75 i0 _ 2 16 Try.underlying32 HI.out HZ0.out HZ1.out HZ2.out rfl (by decide) Ctl.c ctl_one W2.heap.size (Nat.le_trans hs7 (by simp)) _ xs [⟨cd, x⟩] (xs ++ [⟨cd, x⟩]) (Lib.hid rfl) rfl (HO7.out.ext' ((Ext.refl _).alloc _)) ⟨w7.heap.size, 0, none⟩ 1 1 rfl rfl (hrow2 _) (by simp; omega) (by simp; omega) ?_; intro go1 gc1 w8 ho8 hb8 _ _)
          go_wp2
          go_roundw
          case rel =>
            have kx := ((Ext.refl w7).alloc (.cells #[.int .i64 cd, .int .i64 x] 75))
            exact ⟨k + 1, xs ++ [⟨cd, x⟩], go1, gc1, by omega, by go_num, by rw [List.length_append]; rfl, by have := HXL.out; rw [List.length_append, List.length_singleton]; omega, ho8, ((HC7.out.ext kx).below hb8 HB2.out).mono (by omega), (HT7.out.trans (Touch.of_ext kx)).below hb8⟩
          case measure => simp [intOf] <;> omega
      · go_wp2
        go_roundw
        case rel => exact ⟨k + 1, xs, co, cap, by omega, by go_num, rfl, by have := HXL.out; omega, HO4.out, HC4.out.mono (by omega), HT4.out⟩
        case measure => simp [intOf] <;> omega
    · obtain rfl : k = 10 := by omega
      have hkn : ¬ ((10 : Nat) : Int) < 10 := by omega
      have HON := Lib.hid (cu_one (N := 32) HC.out (by omega) (by decide) (by decide))
      clear hlt
      go_wp2_with fail
      refine HON.out.mono ?_; rintro e w4 ⟨b, rfl, hc, ht⟩
      have HO4 := Lib.hid (HO.out.cur ht HB2.out)
      have HTK := Lib.hid (HT.out.trans ht)
      have HC4 := Lib.hid hc
      clear hc ht HON HO HT HC
      go_upto_if 58 with fail
      go_cut [6] (fun l wc => ∃ (xs : List Ctl) (co : Option Addr) (cap : Nat), l = .slice co xs.length cap ∧ xs.length ≤ 11 ∧ Owns wc W2.heap.size 75 2 Ctl.c (.slice co xs.length cap) xs ∧ Cu wc B (n + 200) ∧ Touch W2 wc (Span B (B + 1)))
      case first =>
        cases b
        · go_wp2_with fail
          go_meet
          exact ⟨xs, co, cap, rfl, by have := HXL.out; omega, HO4.out, HC4.out.mono (by omega), HTK.out⟩
        · have g0 := fun z (hz : Hid (Touch W2 z (Span B (B + 1)))) => HQ0.out z hz.out
          have g1 := fun z (hz : Hid (Touch W2 z (Span B (B + 1)))) => HQ1.out z hz.out
          have g2 := fun z (hz : Hid (Touch W2 z (Span B (B + 1)))) => HQ2.out z hz.out
          have g3 := fun z (hz : Hid (Touch W2 z (Span B (B + 1)))) => HQ3.out z hz.out
          have HS6 := Lib.hid (fun y (hy : Ext w4 y) => cu_code6 (HC4.out.ext hy) (by omega))
          have hce := fun y n' (hy : Cu y B n') (hn' : n' ≤ 900000) => cu_cellOf (w := y) (m := m) (ao := ro) (ac := rc) (bo := qo) (bc := tc) hy hn' (by omega)
          unfold MapD.val at hce
          have HCE := Lib.hid hce
          have hs4 := HTK.out.size
          have hx11 : xs.length ≤ 10 := HXL.out
          clear hce
          go_wp2
          go_region_held3 (fun z => Hid (Touch W2 z (Span B (B + 1)))) (first | exact HTK | exact Lib.hid (HTK.out.trans (Touch.of_ext (by repeat (first | (with_reducible exact Ext.refl _) | (with_reducible assumption) | with_reducible refine Ext.drew ?_ | with_reducible refine Ext.alloc ?_ _ | with_reducible refine Ext.setCell ?_ (by first | (simp; done) | (simp; omega) | omega) _ | with_reducible refine Ext.trans ?_ (by with_reducible assumption))))))
            (first
              | (go_at_call 121; (with_reducible refine Calls.mono (HS6.out _ (Ext.refl _).drew) ?_); rintro e w5 ⟨y, rfl, _, hc, ht⟩; (have HO5 := Lib.hid ((HO4.out.ext' (Ext.refl _).drew).cur ht HB2.out); have HTK := Lib.hid ((HTK.out.trans (Touch.of_ext (Ext.refl _).drew)).trans ht); have HC5 := Lib.hid hc; have hs5 := HTK.out.size; clear hc ht))
              | (go_at_call 120; (with_reducible refine Calls.mono (HCE.out _ _ HC5.out (by omega)) ?_); rintro e w6 ⟨z, rfl, _, hc, ht⟩; (have HO6 := Lib.hid (HO5.out.cur ht HB2.out); have HTK := Lib.hid (HTK.out.trans ht); have HC6 := Lib.hid hc; have hs6 := HTK.out.size; have hrow2 := fun x => row_lit (w := x) (cs := #[.int .i64 y, .int .i64 z]) (T := 75) (s := 2) (cc := Ctl.c) (x := ⟨y, z⟩) (by intro j hj; match j, hj with | 0, _ => rfl | 1, _ => rfl); clear hc ht))
              | ((refine step_append_bf (o := ⟨some 67, _, _, _, _, _⟩) rfl _ _ 32 rfl 75 i0 _ 2 16 Try.underlying32 HI.out HZ0.out HZ1.out HZ2.out rfl (by decide) Ctl.c ctl_one W2.heap.size (Nat.le_trans hs6 (by simp)) (.slice co xs.length cap) xs [⟨y, z⟩] (xs ++ [⟨y, z⟩]) (Lib.hid rfl) rfl (HO6.out.ext' ((Ext.refl _).alloc _)) ⟨w6.heap.size, 0, none⟩ 1 1 rfl rfl (hrow2 _) (by simp; omega) (by simp; omega) ?_; intro go1 gc1 w8 ho8 hb8 hg8 hv8); (have kx := ((Ext.refl w6).alloc (.cells #[.int .i64 y, .int .i64 z] 75)); have HO8 := Lib.hid ho8; have HC8 := Lib.hid ((HC6.out.ext kx).below hb8 HB2.out); have HTK := Lib.hid ((HTK.out.trans (Touch.of_ext kx)).below hb8); clear ho8 hb8 hg8 hv8 kx)))
          all_goals
            go_wp2_with fail
            go_meet
            exact ⟨xs ++ [⟨y, z⟩], go1, gc1, by rw [List.length_append]; rfl, by rw [List.length_append, List.length_singleton]; omega, HO8.out, HC8.out.mono (by omega), HTK.out⟩
      case rest =>
      obtain ⟨ys, yo, ycap, rfl, hyl, hO5, hC5, hT5⟩ := hcut
      rename World => w5
      have q0 := HQ0.out _ hT5
      have q1 := HQ1.out _ hT5
      have q2 := HQ2.out _ hT5
      have q3 := HQ3.out _ hT5
      have ql := World.block_lt_of_cell? _ _ q0
      have hR := HRR.out _ hT5
      have r0 := hR.c0
      have r1 := hR.c1
      have r2 := hR.c2
      have r3 := hR.c3
      have rl := hR.lt
      have rf0 := hR.fz 0
      have rf1 := hR.fz 1
      have rf2 := hR.fz 2
      have rf3 := hR.fz 3
      have hkr : ¬ w.heap.size = w1.heap.size := by omega
      have hkr' : ¬ w1.heap.size = w.heap.size := by omega
      have HO5 := Lib.hid hO5; have HC5 := Lib.hid hC5; have HT5 := Lib.hid hT5
      obtain ⟨ao5, cap5, e5, hF5, hnil5, hcl5, hcm5⟩ := hO5.fresh
      injection e5 with e1 _ e3
      subst e1 e3
      have HF5 := Lib.hid hF5
      have HW2 : Hid (w.heap.size < W2.heap.size) := Lib.hid (Nat.lt_of_lt_of_le hwr (by have := HB2.out; have := HTW.out.size; have := HSL.out; omega))
      clear hO5 hC5 hT5 hR hF5 HO4 HTK HC4
      go_wp2
      have hb : Below w.heap.size w5 ((((w5.setCell ⟨w.heap.size, 0, none⟩ (.int .i64 m.wid)).setCell ⟨w.heap.size, 1, none⟩ (.int .i64 m.hei)).setCell ⟨w.heap.size, 2, none⟩ (.slice ro m.rise.length rc)).setCell ⟨w.heap.size, 3, none⟩ (.slice qo m.cost.length tc)) :=
        Below.setCell (p := ⟨w.heap.size, 3, none⟩) (Below.setCell (p := ⟨w.heap.size, 2, none⟩) (Below.setCell (p := ⟨w.heap.size, 1, none⟩) (Below.setCell (p := ⟨w.heap.size, 0, none⟩) (Below.refl _ _) (Nat.le_refl _) _) (Nat.le_refl _) _) (Nat.le_refl _) _) (Nat.le_refl _) _
      refine bodyPost_ret (v := .tuple #[.agg #[.int .i64 m.wid, .int .i64 m.hei, .slice ro m.rise.length rc, .slice qo m.cost.length tc], .slice yo ys.length ycap]) ?_ rfl ?_
      · simp [results, Try.results95, go_sem, cell_put, r0, r1, r2, r3]
      · exact ⟨m, ro, rc, qo, tc, ys, yo, ycap, rfl, hl1, hl2, HCA.out.1, HCA.out.2, (four_put (HG1.out _ HT5.out) (Nat.lt_succ_self _) _ _ _ _).mono (Nat.le_succ _), (four_put (HG2.out _ HT5.out) (Nat.lt_succ_self _) _ _ _ _).mono (Nat.le_succ _), hyl, (four_put HF5.out HW2.out _ _ _ _).mono (Nat.le_of_lt HW2.out), hnil5, ⟨hcl5, by unfold maxLen at hcm5; omega⟩, (HC5.out.below hb hBl).mono (by omega), (HTW.out.trans HT5.out).below hb⟩


/-- the three cells of a rule's result -/
structure ResR (w : World) (B : Nat) : Prop where
  c0 : w.cell? ⟨B, 0, none⟩ = some (.slice none 0 0)
  c1 : w.cell? ⟨B, 1, none⟩ = some (.int .i64 0)
  c2 : w.cell? ⟨B, 2, none⟩ = some (.int .i64 0)
  fz : ∀ j, w.frozen? ⟨B, j, none⟩ = false
theorem ResR.lt {w : World} {B : Nat} (h : ResR w B) : B < w.heap.size := World.block_lt_of_cell? _ _ h.c0
theorem ResR.ext {w w' : World} {B : Nat} (h : ResR w B) (hx : Ext w w') : ResR w' B := ⟨hx.cells h.c0, hx.cells h.c1, hx.cells h.c2, fun j => (hx.frozenr _ _ h.lt).trans (h.fz j)⟩
theorem ResR.of {w w' : World} {T : TypeId} (hx : Ext (w.alloc (.cells #[.slice none 0 0, .int .i64 0, .int .i64 0] T)) w') : ResR w' w.heap.size := by
  have h : ResR (w.alloc (.cells #[.slice none 0 0, .int .i64 0, .int .i64 0] T)) w.heap.size := ⟨by go_simp, by go_simp, by go_simp, fun j => by go_simp⟩
  exact h.ext hx
theorem ResR.touch {w w' : World} {b B : Nat} (h : ResR w b) (ht : Touch w w' (Span B (B + 1))) (hne : b ≠ B) : ResR w' b := by
  have hn : ¬ Span B (B + 1) b := fun hs => by have h1 := hs.1; have h2 := hs.2; omega
  exact ⟨(ht.cell h.lt hn).trans h.c0, (ht.cell h.lt hn).trans h.c1, (ht.cell h.lt hn).trans h.c2, fun j => (ht.frozen h.lt hn).trans (h.fz j)⟩
theorem ResM.touch {w w' : World} {b B : Nat} (h : ResM w b) (ht : Touch w w' (Span B (B + 1))) (hne : b ≠ B) : ResM w' b := by
  have hn : ¬ Span B (B + 1) b := fun hs => by have h1 := hs.1; have h2 := hs.2; omega
  exact h.of_cells (fun o => ht.cell h.lt hn) (fun o => ht.frozen h.lt hn)
theorem FreshAt.curs {w w' : World} {B0 B : Nat} {ao : Option Addr} {s n : Nat} {c : Nat → Nat → Value} (h : FreshAt B0 w ao s n c) (ht : Touch w w' (Span B (B + 1))) (hB : B < B0) : FreshAt B0 w' ao s n c :=
  h.touch ht (fun a e hs => by have h1 := (h.base a e).1; have h2 := hs.2; omega)
theorem FreshAt.take {w : World} {B0 q : Nat} {ao : Option Addr} {xs : List Ctl} (h : FreshAt B0 w ao 2 xs.length (fun k => (nth xs k).c)) (hq : q ≤ xs.length) : FreshAt B0 w ao 2 (xs.take q).length (fun k => (nth (xs.take q) k).c) := by
  have hl : (xs.take q).length = q := by rw [List.length_take]; omega
  refine ⟨fun hn => ?_, h.base, h.free⟩
  rw [hl] at hn ⊢
  obtain ⟨b, off, e, H⟩ := h.row (by omega)
  refine ⟨b, off, e, fun k hk j hj => ?_⟩
  have e2 : nth (xs.take q) k = nth xs k := by simp [nth, hk]
  show _ = some ((nth (xs.take q) k).c j)
  rw [e2]
  exact H k (by omega) j hj

/-- a rule that is being drawn -/
structure RuleIn (w0 wr : World) (B RB n : Nat) (lim pen : Int) (po : Option Addr) (pc : Nat) (ps : List Int) : Prop where
  c0 : wr.cell? ⟨RB, 0, none⟩ = some (.slice po ps.length pc)
  c1 : wr.cell? ⟨RB, 1, none⟩ = some (.int .i64 lim)
  c2 : wr.cell? ⟨RB, 2, none⟩ = some (.int .i64 pen)
  fz : ∀ j, wr.frozen? ⟨RB, j, none⟩ = false
  own : Owns wr w0.heap.size 3 1 icc (.slice po ps.length pc) ps
  ap : (Value.slice po ps.length pc).ownBlock ≠ some RB
  cur : Cu wr B n
  lo : w0.heap.size ≤ RB
  hB : B < w0.heap.size
  touch : Touch w0 wr (Span B (B + 1))
section
variable {w0 wr w' : World} {B RB n n' : Nat} {lim pen : Int} {po : Option Addr} {pc : Nat} {ps : List Int}
theorem RuleIn.lt (h : RuleIn w0 wr B RB n lim pen po pc ps) : RB < wr.heap.size := World.block_lt_of_cell? _ _ h.c0
theorem RuleIn.ext (h : RuleIn w0 wr B RB n lim pen po pc ps) (hx : Ext wr w') : RuleIn w0 w' B RB n lim pen po pc ps :=
  ⟨hx.cells h.c0, hx.cells h.c1, hx.cells h.c2, fun j => (hx.frozenr _ _ h.lt).trans (h.fz j), h.own.ext' hx, h.ap, h.cur.ext hx, h.lo, h.hB, h.touch.trans (Touch.of_ext hx)⟩
theorem RuleIn.curs (h : RuleIn w0 wr B RB n lim pen po pc ps) (hc : Cu w' B n') (ht : Touch wr w' (Span B (B + 1))) : RuleIn w0 w' B RB n' lim pen po pc ps := by
  have hne : ¬ Span B (B + 1) RB := fun hs => by have h1 := hs.2; have h2 := h.lo; have h3 := h.hB; omega
  exact ⟨(ht.cell h.lt hne).trans h.c0, (ht.cell h.lt hne).trans h.c1, (ht.cell h.lt hne).trans h.c2, fun j => (ht.frozen h.lt hne).trans (h.fz j), h.own.cur ht h.hB, h.ap, hc, h.lo, h.hB, h.touch.trans ht⟩
theorem RuleIn.mono (h : RuleIn w0 wr B RB n lim pen po pc ps) (hn : n ≤ n') : RuleIn w0 wr B RB n' lim pen po pc ps := ⟨h.c0, h.c1, h.c2, h.fz, h.own, h.ap, h.cur.mono hn, h.lo, h.hB, h.touch⟩
theorem RuleIn.mid (h : RuleIn w0 wr B RB n lim pen po pc ps) {w3 : World} (hg : wr.grownBy w3 (Value.slice po ps.length pc).ownBlock) :
    w3.cell? ⟨RB, 0, none⟩ = some (.slice po ps.length pc) ∧ w3.frozen? ⟨RB, 0, none⟩ = false ∧ RB < w3.heap.size :=
  ⟨(grown_cell hg h.lt (fun e => h.ap e)).trans h.c0, (grown_frozen (b := RB) (o := 0) hg h.lt (fun e => h.ap e)).trans (h.fz 0), Nat.lt_of_lt_of_le h.lt (grown_size hg)⟩
theorem RuleIn.push (h : RuleIn w0 wr B RB n lim pen po pc ps) {w3 : World} (hg : wr.grownBy w3 (Value.slice po ps.length pc).ownBlock) (hb : Below w0.heap.size wr w3) {L : List Int} {go1 : Option Addr} {gc1 : Nat}
    (ho : Owns w3 w0.heap.size 3 1 icc (.slice go1 L.length gc1) L) (hv : Hid ((Value.slice go1 L.length gc1).ownBlock = (Value.slice po ps.length pc).ownBlock ∨ (Value.slice go1 L.length gc1).ownBlock = some wr.heap.size)) :
    RuleIn w0 (w3.setCell ⟨RB, 0, none⟩ (.slice go1 L.length gc1)) B RB n lim pen go1 gc1 L := by
  have hv' : (Value.slice go1 L.length gc1).ownBlock = (Value.slice po ps.length pc).ownBlock ∨ (Value.slice go1 L.length gc1).ownBlock = some wr.heap.size := hv
  have hKl := h.lt
  have hap : (Value.slice go1 L.length gc1).ownBlock ≠ some RB := fun e => by
    rcases hv' with hv' | hv'
    · rw [hv'] at e; exact h.ap e
    · rw [hv'] at e; injection e with e; omega
  have k : ∀ o, w3.cell? ⟨RB, o, none⟩ = wr.cell? ⟨RB, o, none⟩ := fun o => grown_cell hg h.lt (fun e => h.ap e)
  have hbp : Below w0.heap.size w3 (w3.setCell ⟨RB, 0, none⟩ (.slice go1 L.length gc1)) := (Below.refl _ _).setCell h.lo _
  exact ⟨World.cell?_setCell_same _ _ _ ((k 0).trans h.c0), (World.cell?_setCell_other _ _ _ _ (fun e => by cases e)).trans ((k 1).trans h.c1), (World.cell?_setCell_other _ _ _ _ (fun e => by cases e)).trans ((k 2).trans h.c2), fun j => by rw [World.frozen?_setCell]; exact (grown_frozen (b := RB) (o := j) hg h.lt (fun e => h.ap e)).trans (h.fz j), ho.keptR (grown_put0 _ _ _) hap, hap, h.cur.below (hb.trans hbp) h.hB, h.lo, h.hB, h.touch.below (hb.trans hbp)⟩
theorem RuleIn.put1 (h : RuleIn w0 wr B RB n lim pen po pc ps) (u : Int) : RuleIn w0 (wr.setCell ⟨RB, 1, none⟩ (.int .i64 u)) B RB n u pen po pc ps := by
  have hbp : Below w0.heap.size wr (wr.setCell ⟨RB, 1, none⟩ (.int .i64 u)) := (Below.refl _ _).setCell h.lo _
  exact ⟨(World.cell?_setCell_other _ _ _ _ (fun e => by cases e)).trans h.c0, World.cell?_setCell_same _ _ _ h.c1, (World.cell?_setCell_other _ _ _ _ (fun e => by cases e)).trans h.c2, fun j => by rw [World.frozen?_setCell]; exact h.fz j, h.own.keptR (grown_put0 _ _ _) h.ap, h.ap, h.cur.below hbp h.hB, h.lo, h.hB, h.touch.below hbp⟩
theorem RuleIn.put2 (h : RuleIn w0 wr B RB n lim pen po pc ps) (u : Int) : RuleIn w0 (wr.setCell ⟨RB, 2, none⟩ (.int .i64 u)) B RB n lim u po pc ps := by
  have hbp : Below w0.heap.size wr (wr.setCell ⟨RB, 2, none⟩ (.int .i64 u)) := (Below.refl _ _).setCell h.lo _
  exact ⟨(World.cell?_setCell_other _ _ _ _ (fun e => by cases e)).trans h.c0, (World.cell?_setCell_other _ _ _ _ (fun e => by cases e)).trans h.c1, World.cell?_setCell_same _ _ _ h.c2, fun j => by rw [World.frozen?_setCell]; exact h.fz j, h.own.keptR (grown_put0 _ _ _) h.ap, h.ap, h.cur.below hbp h.hB, h.lo, h.hB, h.touch.below hbp⟩
end

/-- seven stores of results: four cells, three cells -/
theorem put7_fresh {B0 X Y : Nat} {w : World} {ao : Option Addr} {s n : Nat} {c : Nat → Nat → Value} (h : FreshAt B0 w ao s n c) (hX : X < B0) (hY : Y < B0) (u0 u1 u2 u3 t0 t1 t2 : Value) :
    FreshAt B0 (((((((w.setCell ⟨X, 0, none⟩ u0).setCell ⟨X, 1, none⟩ u1).setCell ⟨X, 2, none⟩ u2).setCell ⟨X, 3, none⟩ u3).setCell ⟨Y, 0, none⟩ t0).setCell ⟨Y, 1, none⟩ t1).setCell ⟨Y, 2, none⟩ t2).drew ao s n c := by
  have hp : ∀ j, ∀ a, ao = some a → a.block ≠ (⟨Y, j, none⟩ : Addr).block := fun j a e q => by
    have h1 := (h.base a e).1
    have q : a.block = Y := q
    omega
  exact ((((four_put h hX u0 u1 u2 u3).offs (p := ⟨Y, 0, none⟩) (hp 0) t0).offs (p := ⟨Y, 1, none⟩) (hp 1) t1).offs (p := ⟨Y, 2, none⟩) (hp 2) t2).ext (Ext.refl _).drew
theorem put7_below {base X Y : Nat} {w : World} (hX : base ≤ X) (hY : base ≤ Y) (u0 u1 u2 u3 t0 t1 t2 : Value) :
    Below base w (((((((w.setCell ⟨X, 0, none⟩ u0).setCell ⟨X, 1, none⟩ u1).setCell ⟨X, 2, none⟩ u2).setCell ⟨X, 3, none⟩ u3).setCell ⟨Y, 0, none⟩ t0).setCell ⟨Y, 1, none⟩ t1).setCell ⟨Y, 2, none⟩ t2).drew :=
  Below.drew (Below.setCell (p := ⟨Y, 2, none⟩) (Below.setCell (p := ⟨Y, 1, none⟩) (Below.setCell (p := ⟨Y, 0, none⟩) (Below.setCell (p := ⟨X, 3, none⟩) (Below.setCell (p := ⟨X, 2, none⟩) (Below.setCell (p := ⟨X, 1, none⟩) (Below.setCell (p := ⟨X, 0, none⟩) (Below.refl _ _) hX u0) hX u1) hX u2) hX u3) hY t0) hY t1) hY t2)

/-- what has been drawn, in the call's own memory -/
structure Drawn (w w' : World) (m : MapD) (ro : Option Addr) (rc : Nat) (qo : Option Addr) (tc : Nat) (xs : List Ctl) (co : Option Addr) (cap : Nat) : Prop where
  l1 : m.rise.length ≤ 21
  l2 : m.cost.length ≤ 20
  c1 : m.rise.length ≤ rc ∧ rc ≤ 9223372036854775807
  c2 : m.cost.length ≤ tc ∧ tc ≤ 9223372036854775807
  f1 : FreshAt w.heap.size w' ro 1 m.rise.length (ic m.rise)
  f2 : FreshAt w.heap.size w' qo 1 m.cost.length (ic m.cost)
  l3 : xs.length ≤ 11
  f3 : FreshAt w.heap.size w' co 2 xs.length (fun k => (nth xs k).c)
  nil3 : co = none → cap = 0
  c3 : xs.length ≤ cap ∧ cap ≤ 9223372036854775807

set_option maxRecDepth 100000 in
set_option maxHeartbeats 4000000 in
theorem cu_scored {B n most : Nat} {w : World} (h : Cu w B n) (hn : n ≤ 400000) (hmo : most ≤ 10) :
    Calls Try.prog 78 #[.pointer (some ⟨B, 0, none⟩), .int .i64 (most : Nat)] w fun e w' => ∃ (m : MapD) (ro : Option Addr) (rc : Nat) (qo : Option Addr) (tc : Nat) (xs : List Ctl) (co : Option Addr) (cap : Nat) (r : RuleD) (po : Option Addr) (pc : Nat), e = .returned (.tuple #[m.val ro rc qo tc, .slice co xs.length cap, r.val po pc]) ∧ Drawn w w' m ro rc qo tc xs co cap ∧
      r.pts.length ≤ 12 ∧ FreshAt w.heap.size w' po 1 r.pts.length (ic r.pts) ∧ (r.pts.length ≤ pc ∧ pc ≤ 9223372036854775807) ∧ Cu w' B (n + 400) ∧ Touch w w' (Span B (B + 1)) := by
  obtain ⟨i0, hi, hz0, hz1, hz2⟩ := info_parts infoInt
  have HI := Lib.hid hi; have HZ0 := Lib.hid hz0; have HZ1 := Lib.hid hz1; have HZ2 := Lib.hid hz2
  have hBl := h.lt
  have hxa := ((Ext.refl w).alloc (.cells #[.int .i64 0, .int .i64 0, .slice none 0 0, .slice none 0 0] 30))
  have hxb := ((Ext.refl (w.alloc (.cells #[.int .i64 0, .int .i64 0, .slice none 0 0, .slice none 0 0] 30))).alloc (.cells #[.slice none 0 0, .int .i64 0, .int .i64 0] 43))
  have hx0 := hxa.trans hxb
  have hm := cu_site (h.ext hx0) (by omega)
  rw [World.size_alloc, World.size_alloc] at hm
  have HM := Lib.hid hm
  have HR0 := Lib.hid ((ResM.of (w := w) (T := 30) (Ext.refl _)).ext hxb)
  have hq0 := ResR.of (w := (w.alloc (.cells #[.int .i64 0, .int .i64 0, .slice none 0 0, .slice none 0 0] 30))) (T := 43) (Ext.refl _)
  rw [World.size_alloc] at hq0
  have HQ0 := Lib.hid hq0
  have HT0 := Lib.hid (Touch.of_ext (S := Span B (B + 1)) hx0)
  clear hi hz0 hz1 hz2 h hx0 hm hxa hxb hq0
  go_enter Try.func78, Try.ntmps78
  go_wp2_with fail
  refine HM.out.mono ?_; rintro e w1 ⟨m, ro, rc, qo, tc, xs, co, cap, rfl, hl1, hl2, hc1, hc2, hF1, hF2, hl3, hF3, hnil3, hc3, hc, ht⟩
  have HD1 : Hid (FreshAt (w.heap.size + 1 + 1) w1 ro 1 m.rise.length (ic m.rise) ∧ FreshAt (w.heap.size + 1 + 1) w1 qo 1 m.cost.length (ic m.cost) ∧ FreshAt (w.heap.size + 1 + 1) w1 co 2 xs.length (fun k => (nth xs k).c)) := Lib.hid ⟨hF1, hF2, hF3⟩
  have HCA := Lib.hid (And.intro hc1 (And.intro hc2 (And.intro hnil3 hc3)))
  have HR1 := Lib.hid (HR0.out.touch ht (by omega))
  have HQ1 := Lib.hid (HQ0.out.touch ht (by omega))
  have HT1 := Lib.hid (HT0.out.trans ht)
  have HC1 := Lib.hid hc
  have hwq : w.heap.size + 1 < w1.heap.size := HQ1.out.lt
  clear hc ht HM HR0 HQ0 HT0 hF1 hF2 hF3 hc1 hc2 hc3 hnil3
  unfold MapD.val
  have p0 : ∀ T, (w1.alloc (.cells #[.int .i64 m.wid, .int .i64 m.hei, .slice ro m.rise.length rc, .slice qo m.cost.length tc] T)).cell? ⟨w1.heap.size, 0, none⟩ = some (.int .i64 m.wid) := fun T => by go_simp
  have p1 : ∀ T, (w1.alloc (.cells #[.int .i64 m.wid, .int .i64 m.hei, .slice ro m.rise.length rc, .slice qo m.cost.length tc] T)).cell? ⟨w1.heap.size, 1, none⟩ = some (.int .i64 m.hei) := fun T => by go_simp
  have p2 : ∀ T, (w1.alloc (.cells #[.int .i64 m.wid, .int .i64 m.hei, .slice ro m.rise.length rc, .slice qo m.cost.length tc] T)).cell? ⟨w1.heap.size, 2, none⟩ = some (.slice ro m.rise.length rc) := fun T => by go_simp
  have p3 : ∀ T, (w1.alloc (.cells #[.int .i64 m.wid, .int .i64 m.hei, .slice ro m.rise.length rc, .slice qo m.cost.length tc] T)).cell? ⟨w1.heap.size, 3, none⟩ = some (.slice qo m.cost.length tc) := fun T => by go_simp
  have hx2 : ∀ T, Ext w1 (w1.alloc (.cells #[.int .i64 m.wid, .int .i64 m.hei, .slice ro m.rise.length rc, .slice qo m.cost.length tc] T)) := fun T => (Ext.refl _).alloc _
  have hs2 : ∀ T, w1.heap.size < (w1.alloc (.cells #[.int .i64 m.wid, .int .i64 m.hei, .slice ro m.rise.length rc, .slice qo m.cost.length tc] T)).heap.size := fun T => by simp
  have p0 := p0 30; have p1 := p1 30; have p2 := p2 30; have p3 := p3 30; have hx2 := hx2 30; have hs2 := hs2 30
  go_upto_region 2 with fail
  generalize (w1.alloc (.cells #[.int .i64 m.wid, .int .i64 m.hei, .slice ro m.rise.length rc, .slice qo m.cost.length tc] 30)) = w2 at *
  have hnb : ¬ Span B (B + 1) w1.heap.size := fun hs => by have h1 : w1.heap.size < B + 1 := hs.2; omega
  have HP := Lib.hid (fun y (ht : Touch w2 y (Span B (B + 1))) => (show _ ∧ _ ∧ _ ∧ _ from ⟨(ht.cell (b := w1.heap.size) (o := 0) hs2 hnb).trans p0, (ht.cell (b := w1.heap.size) (o := 1) hs2 hnb).trans p1, (ht.cell (b := w1.heap.size) (o := 2) hs2 hnb).trans p2, (ht.cell (b := w1.heap.size) (o := 3) hs2 hnb).trans p3⟩))
  have hB2 : B < w.heap.size + 1 + 1 := by omega
  have HD := Lib.hid (fun y (ht : Touch w2 y (Span B (B + 1))) => (show _ ∧ _ ∧ _ from ⟨(HD1.out.1.ext hx2).curs ht hB2, (HD1.out.2.1.ext hx2).curs ht hB2, (HD1.out.2.2.ext hx2).curs ht hB2⟩))
  have HRR := Lib.hid (fun y (ht : Touch w2 y (Span B (B + 1))) => And.intro ((HR1.out.ext hx2).touch ht (by omega)) ((HQ1.out.ext hx2).touch ht (by omega)))
  have HTW := Lib.hid (HT1.out.trans (Touch.of_ext hx2))
  have HC2 := Lib.hid (HC1.out.ext hx2)
  have hB3 : B < w2.heap.size := by omega
  clear p0 p1 p2 p3 hx2 HR1 HQ1 HT1 HC1 HD1
  go_cut [24] (fun v wc => ∃ b, v = .bool b ∧ (b = true → most < xs.length) ∧ Cu wc B (n + 251) ∧ Touch w2 wc (Span B (B + 1)))
  case first =>
    by_cases hgt : most < xs.length
    · have hgi : (most : Int) < (xs.length : Int) := by omega
      have HON := Lib.hid (cu_one (N := 16) HC2.out (by omega) (by decide) (by decide))
      go_wp2_with fail
      refine HON.out.mono ?_; rintro e w3 ⟨b, rfl, hc, ht⟩
      have HC3 := Lib.hid hc; have HT3 := Lib.hid ht
      clear hc ht HON
      go_wp2_with fail
      go_meet
      exact ⟨_, rfl, fun _ => hgt, HC3.out, HT3.out⟩
    · have hgi : ¬ (most : Int) < (xs.length : Int) := by omega
      go_wp2_with fail
      go_meet
      exact ⟨_, rfl, fun e => (by cases e), HC2.out.mono (by omega), Touch.refl _ _⟩
  case rest =>
  obtain ⟨b, rfl, hbm, hC3, hT3⟩ := hcut
  rename World => w3
  have HC3 := Lib.hid hC3; have HT3 := Lib.hid hT3; have HBM := Lib.hid hbm
  clear hC3 hT3 HC2 hbm
  go_upto_if 24 with fail
  go_cut [8] (fun v wc => ∃ (ys : List Ctl) (yo : Option Addr) (yc : Nat), v = .slice yo ys.length yc ∧ ys.length ≤ 11 ∧ FreshAt (w.heap.size + 1 + 1) w3 yo 2 ys.length (fun k => (nth ys k).c) ∧ (yo = none → yc = 0) ∧ (ys.length ≤ yc ∧ yc ≤ 9223372036854775807) ∧ wc = w3)
  case first =>
    cases b
    · go_wp2_with fail
      go_meet
      exact ⟨xs, co, cap, rfl, hl3, (HD.out _ HT3.out).2.2, HCA.out.2.2.1, HCA.out.2.2.2, rfl⟩
    · have hlt := HBM.out rfl
      have hF := (HD.out _ HT3.out).2.2
      obtain ⟨cb, coff, rfl, _⟩ := hF.row (by omega)
      have HFT := Lib.hid (hF.take (Nat.le_of_lt hlt))
      have hcc := HCA.out.2.2.2
      have hm0 : (0 : Int) ≤ (most : Int) := by omega
      have hm1 : (most : Int) ≤ (cap : Int) := by omega
      have hm2 : most ≤ cap := by omega
      have HTL : Hid ((xs.take most).length = most) := Lib.hid (by rw [List.length_take]; omega)
      clear hF
      go_wp2_with fail
      go_meet
      exact ⟨xs.take most, some ⟨cb, coff, none⟩, cap, by rw [HTL.out], by rw [HTL.out]; omega, HFT.out, (fun e => by cases e), ⟨by rw [HTL.out]; exact hm2, hcc.2⟩, rfl⟩
  case rest =>
  obtain ⟨ys, yo, yc, rfl, hyl, hYF, hyn, hyc, hwe⟩ := hcut
  rw [hwe]
  have HYF := Lib.hid hYF; have HYN := Lib.hid (And.intro hyn hyc)
  clear hwe hYF hyn hyc HBM
  have hB3 : B < w3.heap.size := by have := HT3.out.size; omega
  have hwl : w.heap.size + 1 + 1 ≤ w3.heap.size := by have := HT3.out.size; omega
  have hxl := (Ext.refl w3).alloc (.cells #[] 3)
  have HO0 := Lib.hid (Owns.start' (w := w3) (e := 3) (s := 1) (cc := icc) (Nat.le_refl w3.heap.size))
  have ha1 := fun T => cu_lit (T := T) (cs := #[.int .i64 1, .int .i64 5, .int .i64 10, .int .i64 20, .int .i64 40, .int .i64 200]) [1, 5, 10, 20, 40, 200] 1 200 (HC3.out.ext hxl) (by omega) rfl (by decide) (by decide) (by decide)
  simp only [World.size_alloc, List.length_cons, List.length_nil] at ha1
  have HA1 := Lib.hid ha1
  have HTL0 := Lib.hid (Touch.of_ext (S := Span B (B + 1)) hxl)
  clear ha1 hxl HC3
  go_wp2_with fail
  refine (HA1.out _).mono ?_; rintro e w4 ⟨lim, rfl, _, hc, ht⟩
  have HO4 := Lib.hid (HO0.out.cur ht hB3)
  have HT4 := Lib.hid (HTL0.out.trans ht)
  have HA2 := Lib.hid (fun T => cu_lit (T := T) (cs := #[.int .i64 0, .int .i64 1, .int .i64 2, .int .i64 5, .int .i64 10, .int .i64 50]) [0, 1, 2, 5, 10, 50] 0 50 hc (by omega) rfl (by decide) (by decide) (by decide))
  clear hc ht HA1 HO0 HTL0
  go_wp2_with fail
  refine (HA2.out _).mono ?_; rintro e w5 ⟨pen, rfl, _, hc, ht⟩
  have HO5 := Lib.hid (HO4.out.cur ht hB3)
  have HT5 := Lib.hid (HT4.out.trans ht)
  have HC5 := Lib.hid hc
  have hs5 := HT5.out.size
  clear hc ht HA2 HO4 HT4
  have hxr := (Ext.refl w5).alloc (.cells #[.slice (some ⟨w3.heap.size, 0, none⟩) 0 0, .int .i64 lim, .int .i64 pen] 43)
  have hri : RuleIn w3 (w5.alloc (.cells #[.slice (some ⟨w3.heap.size, 0, none⟩) 0 0, .int .i64 lim, .int .i64 pen] 43)) B w5.heap.size (n + 253) lim pen (some ⟨w3.heap.size, 0, none⟩) 0 [] := by
    have hb5 := (HO5.out.blk _ rfl).2
    refine ⟨by go_simp, by go_simp, by go_simp, fun j => by go_simp, HO5.out.ext' hxr, fun e => ?_, (HC5.out.ext hxr).mono (by omega), hs5, hB3, HT5.out.trans (Touch.of_ext hxr)⟩
    have e : some w3.heap.size = some w5.heap.size := e
    injection e with e
    simp only at hb5
    omega
  have HRI := Lib.hid hri
  clear hri hxr HO5 HC5
  go_upto_region 5 with fail
  generalize (w5.alloc (.cells #[.slice (some ⟨w3.heap.size, 0, none⟩) 0 0, .int .i64 lim, .int .i64 pen] 43)) = w6 at *
  obtain ⟨RB, hRB⟩ : ∃ RB, RB = w5.heap.size := ⟨_, rfl⟩
  obtain ⟨pa, hpa⟩ : ∃ pa : Option Addr, pa = some ⟨w3.heap.size, 0, none⟩ := ⟨_, rfl⟩
  rw [← hRB, ← hpa] at HRI
  rw [← hRB]
  have HRB : Hid (w3.heap.size ≤ RB) := Lib.hid (by omega)
  clear hRB hpa HT5 hs5
  go_wp2
  go_loopw [10] (fun i wr => ∃ (k : Nat) (ps : List Int) (po : Option Addr) (pc : Nat), k ≤ ys.length ∧ i = .int .i64 k ∧ Hid (ps.length = k) ∧ RuleIn w3 wr B RB (n + 253 + 2 * k) lim pen po pc ps) (fun i _ => ys.length - (intOf i).toNat)
  case atStart => exact ⟨0, [], _, _, Nat.zero_le _, rfl, Lib.hid rfl, HRI.out⟩
  case round =>
    obtain ⟨k, ps, po, pc, hk, rfl, HKL, hR⟩ := hrel
    have b0 := hR.c0
    have bl := hR.lt
    have HR := Lib.hid hR
    have hs3 : w3.heap.size ≤ wr.heap.size := hR.touch.size
    clear HRI
    by_cases hlt : k < ys.length
    · have hki : (k : Int) < (ys.length : Int) := by omega
      have hpl : ps.length ≤ 12 := by have := HKL.out; omega
      have b0a : ∀ o, (wr.alloc o).cell? ⟨RB, 0, none⟩ = some (.slice po ps.length pc) := fun o => ((Ext.refl wr).alloc o).cells b0
      have HA := Lib.hid (fun T x hx => cu_litx (x := x) (T := T) (cs := #[.int .i64 0, .int .i64 3, .int .i64 5, .int .i64 10, .int .i64 20, .int .i64 100]) [0, 3, 5, 10, 20, 100] 0 100 hR.cur (by omega) rfl (by decide) (by decide) (by decide) hx)
      clear hR
      go_wp2
      go_region_law (first
        | (refine step_append_bf (o := ⟨some 48, _, _, _, _, _⟩) (by rfl) _ _ 22 (by rfl) 3 i0 _ 1 8 Try.underlying22 HI.out HZ0.out HZ1.out HZ2.out rfl (by decide) icc icc_one w3.heap.size (by simp; omega) (.slice po ps.length pc) ps [y] L HL (by rfl) HXC.out.own ⟨w7.heap.size, 0, none⟩ 1 1 (by rfl) (by rfl) HROW.out (by simp; omega) (by simp; omega) ?_; intro go1 gc1 w8 ho1 hb1 hg1 hv1; have m3 := (HXC.out.mid hg1).1; have m4 := (HXC.out.mid hg1).2.1; have m5 := (HXC.out.mid hg1).2.2)
        | (go_simp; go_at_call 81; refine (HA.out _ _ (Ext.refl _).drew).mono ?_; rintro e w7 ⟨y, rfl, _, hc, ht⟩; have hR7 := HR.out.curs hc ht; have b0c := hR7.c0; have b0d : ∀ o, (w7.alloc o).cell? ⟨RB, 0, none⟩ = some (.slice po ps.length pc) := fun o => ((Ext.refl w7).alloc o).cells b0c; have hs7 : w3.heap.size ≤ w7.heap.size := hR7.touch.size; obtain ⟨L, hL⟩ : ∃ L, L = ps ++ [y] := ⟨_, rfl⟩; have HLl : Hid (L.length = k + 1) := Lib.hid (by rw [hL, List.length_append, HKL.out]; rfl); have HL := Lib.hid hL; clear hL; have HXC := Lib.hid (hR7.ext ((Ext.refl w7).alloc (.cells #[.int .i64 y] 3))); have HROW := Lib.hid (row_lit (w := w7) (cs := #[.int .i64 y]) (T := 3) (s := 1) (cc := icc) (x := y) (by intro j hj; obtain rfl : j = 0 := (by omega); rfl)); clear hR7 hc ht))
      all_goals
        have HR9 := Lib.hid (HXC.out.push hg1 hb1 ho1 hv1)
        clear ho1 hb1 hg1 hv1 m3 m4 m5 b0 bl b0a HXC HROW b0c b0d
        go_wp2
        go_roundw
        case rel => exact ⟨k + 1, L, go1, gc1, by omega, by go_num, Lib.hid HLl.out, HR9.out.mono (by omega)⟩
        case measure => simp [intOf] <;> omega
    · obtain rfl : k = ys.length := by omega
      have hkn : ¬ (ys.length : Int) < (ys.length : Int) := by omega
      have HP := Lib.hid (cu_pick (N := 32) hR.cur (by omega) (by decide) (by decide))
      have hpl : ps.length ≤ 11 := by have := HKL.out; omega
      clear hR hlt
      go_wp2_with fail
      refine HP.out.mono ?_; rintro e w7 ⟨x, rfl, _, hc, ht⟩
      have HR7 := Lib.hid (HR.out.curs hc ht)
      have b0 := HR7.out.c0
      have bl := HR7.out.lt
      have bf0 := HR7.out.fz 0
      have hs3 : w3.heap.size ≤ w7.heap.size := HR7.out.touch.size
      clear hc ht HP HR
      go_upto_block 2 with fail
      go_cut [] (fun wc => ∃ (lim' pen' : Int) (po' : Option Addr) (pc' : Nat) (ps' : List Int), ps'.length ≤ 12 ∧ RuleIn w3 wc B RB (n + 300) lim' pen' po' pc' ps')
      case first =>
        by_cases e0 : x = 0
        · subst e0
          obtain ⟨L, hL⟩ : ∃ L, L = ps ++ [(5 : Int)] := ⟨_, rfl⟩
          have HLl : Hid (L.length = ps.length + 1) := Lib.hid (by rw [hL, List.length_append]; rfl)
          have HL := Lib.hid hL; clear hL
          have hrow2 := fun x => row_lit (w := x) (cs := #[.int .i64 5]) (T := 3) (s := 1) (cc := icc) (x := 5) (by intro j hj; obtain rfl : j = 0 := (by omega); rfl)
          have HXC := Lib.hid (HR7.out.ext ((Ext.refl _).alloc (.cells #[.int .i64 5] 3)))
          go_wp2_with (at_builtin; refine wpList_append_bf rfl _ _ 22 rfl 3 i0 _ 1 8 Try.underlying22 HI.out HZ0.out HZ1.out HZ2.out rfl (by decide) icc icc_one w3.heap.size (by simp; omega) (.slice po ps.length pc) ps [(5 : Int)] L HL rfl HXC.out.own ⟨w7.heap.size, 0, none⟩ 1 1 rfl rfl (hrow2 _) (by simp; omega) (by simp; omega) ?_; intro go2 gc2 wa ho1 hb1 hg1 hv1; have m4 := (HXC.out.mid hg1).1; have m5 := (HXC.out.mid hg1).2.1; have m6 := (HXC.out.mid hg1).2.2; have HR9 := Lib.hid (HXC.out.push hg1 hb1 ho1 hv1); clear ho1 hb1 hg1 hv1 HXC hrow2 b0 bl bf0)
          go_meet
          exact ⟨lim, pen, go2, gc2, L, by have := HLl.out; omega, HR9.out.mono (by omega)⟩
        · by_cases e1 : x = 1
          · subst e1
            clear e0
            have HA := Lib.hid (fun T => cu_lit (T := T) (cs := #[.int .i64 0, .int .i64 201]) [0, 201] 0 201 HR7.out.cur (by omega) rfl (by decide) (by decide) (by decide))
            go_wp2_with fail
            refine (HA.out _).mono ?_; rintro e w8 ⟨v, rfl, _, hc, ht⟩
            have HR8 := Lib.hid (HR7.out.curs hc ht)
            have b1 := HR8.out.c1
            have bl := HR8.out.lt
            have bf1 := HR8.out.fz 1
            clear hc ht HA b0 bf0
            go_wp2_with fail
            go_meet
            exact ⟨v, pen, po, pc, ps, by omega, (HR8.out.put1 v).mono (by omega)⟩
          · by_cases e2 : x = 2
            · subst e2
              clear e0 e1
              have HA := Lib.hid (fun T => cu_lit (T := T) (cs := #[.int .i64 (-1), .int .i64 51]) [-1, 51] (-1) 51 HR7.out.cur (by omega) rfl (by decide) (by decide) (by decide))
              go_wp2_with fail
              refine (HA.out _).mono ?_; rintro e w8 ⟨v, rfl, _, hc, ht⟩
              have HR8 := Lib.hid (HR7.out.curs hc ht)
              have b2 := HR8.out.c2
              have bl := HR8.out.lt
              have bf2 := HR8.out.fz 2
              clear hc ht HA b0 bf0
              go_wp2_with fail
              go_meet
              exact ⟨lim, v, po, pc, ps, by omega, (HR8.out.put2 v).mono (by omega)⟩
            · go_wp2_with fail
              go_meet
              exact ⟨lim, pen, po, pc, ps, by omega, HR7.out.mono (by omega)⟩
      case rest =>
      obtain ⟨lim', pen', po', pc', ps', hpl', hR8⟩ := hcut
      clear HR7 b0 bl bf0 HKL hpl
      rename World => w8
      have hT8 := HT3.out.trans hR8.touch
      obtain ⟨q0, q1, q2, q3⟩ := HP.out _ hT8
      have ql := World.block_lt_of_cell? _ _ q0
      obtain ⟨hRM, hRR⟩ := HRR.out _ hT8
      have r0 := hRM.c0; have r1 := hRM.c1; have r2 := hRM.c2; have r3 := hRM.c3; have rl := hRM.lt
      have rf0 := hRM.fz 0; have rf1 := hRM.fz 1; have rf2 := hRM.fz 2; have rf3 := hRM.fz 3
      have t0 := hRR.c0; have t1 := hRR.c1; have t2 := hRR.c2; have tl := hRR.lt
      have tf0 := hRR.fz 0; have tf1 := hRR.fz 1; have tf2 := hRR.fz 2
      have b0 := hR8.c0; have b1 := hR8.c1; have b2 := hR8.c2; have bl := hR8.lt
      have hRBl := HRB.out
      have hn1 : ¬ w.heap.size = w1.heap.size := by omega
      have hn2 : ¬ w.heap.size + 1 = w1.heap.size := by omega
      have hn3 : ¬ w.heap.size = RB := by omega
      have hn4 : ¬ w.heap.size + 1 = RB := by omega
      have hn5 : ¬ w1.heap.size = w.heap.size := by omega
      have hn6 : ¬ w1.heap.size = w.heap.size + 1 := by omega
      have hn7 : ¬ RB = w.heap.size := by omega
      have hn8 : ¬ RB = w.heap.size + 1 := by omega
      have HR8 := Lib.hid hR8
      have HT8 := Lib.hid (HTW.out.trans hT8)
      have HDD := Lib.hid (HD.out _ hT8)
      have HYT := Lib.hid (HYF.out.curs hR8.touch hB2)
      clear hR8 hT8 hRM hRR
      go_wp2
      have HPO : Hid (FreshAt w3.heap.size w8 po' 1 ps'.length (ic ps') ∧ (ps'.length ≤ pc' ∧ pc' ≤ 9223372036854775807)) := Lib.hid (by
        obtain ⟨ao, cap2, e0, hF, _, hcl, hcm⟩ := HR8.out.own.fresh
        injection e0 with e1 _ e3
        subst e1 e3
        exact ⟨hF, hcl, by unfold maxLen at hcm; omega⟩)
      go_region_held3 (fun z => z.cell? ⟨w1.heap.size, 0, none⟩ = some (.int .i64 m.wid) ∧ z.cell? ⟨w1.heap.size, 1, none⟩ = some (.int .i64 m.hei) ∧ z.cell? ⟨w1.heap.size, 2, none⟩ = some (.slice ro m.rise.length rc) ∧ z.cell? ⟨w1.heap.size, 3, none⟩ = some (.slice qo m.cost.length tc) ∧ z.cell? ⟨RB, 0, none⟩ = some (.slice po' ps'.length pc') ∧ z.cell? ⟨RB, 1, none⟩ = some (.int .i64 lim') ∧ z.cell? ⟨RB, 2, none⟩ = some (.int .i64 pen')) (go_keep) (fail)
      all_goals
        go_wp2
        refine bodyPost_ret (v := .tuple #[.agg #[.int .i64 m.wid, .int .i64 m.hei, .slice ro m.rise.length rc, .slice qo m.cost.length tc], .slice yo ys.length yc, .agg #[.slice po' ps'.length pc', .int .i64 lim', .int .i64 pen']]) ?_ rfl ?_
        · simp [results, Try.results78, go_sem, cell_put, r0, r1, r2, r3, t0, t1, t2]
        · refine ⟨m, ro, rc, qo, tc, ys, yo, yc, ⟨ps', lim', pen'⟩, po', pc', rfl, ⟨hl1, hl2, HCA.out.1, HCA.out.2.1, ?_, ?_, hyl, ?_, HYN.out.1, HYN.out.2⟩, hpl', ?_, HPO.out.2, ?_, ?_⟩
          · exact FreshAt.mono (B0 := w.heap.size + 1 + 1) (put7_fresh HDD.out.1 (by omega) (by omega) _ _ _ _ _ _ _) (by omega)
          · exact FreshAt.mono (B0 := w.heap.size + 1 + 1) (put7_fresh HDD.out.2.1 (by omega) (by omega) _ _ _ _ _ _ _) (by omega)
          · exact FreshAt.mono (B0 := w.heap.size + 1 + 1) (put7_fresh HYT.out (by omega) (by omega) _ _ _ _ _ _ _) (by omega)
          · exact FreshAt.mono (B0 := w3.heap.size) (put7_fresh HPO.out.1 (by omega) (by omega) _ _ _ _ _ _ _) (by omega)
          · exact (HR8.out.cur.below (base := w.heap.size) (put7_below (Nat.le_refl _) (Nat.le_succ _) _ _ _ _ _ _ _) hBl).mono (by omega)
          · exact HT8.out.below (put7_below (Nat.le_refl _) (Nat.le_succ _) _ _ _ _ _ _ _)


end Go.Proofs.Ytidcfohlhamgmaa
