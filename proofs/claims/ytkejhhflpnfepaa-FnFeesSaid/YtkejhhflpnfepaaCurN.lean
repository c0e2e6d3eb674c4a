/-
  Proved here: the cursor's runners.
  Conditions: the cursor lies in one block; counts are small.
-/
import Derived.Test.YtkejhhflpnfepaaRun2
import Derived.Test.YtkejhhflpnfepaaCurR
import Derived.Deep.DeepCutAuto
import Derived.Deep.CutBlock
namespace Go.Proofs.Ytkejhhflpnfepaa
open Go.RowKit

theorem own_at' {α : Type} [Inhabited α] {w : World} {base s n gc E H : Nat} {e : TypeId} {cc : α → Nat → Value} {go : Option Addr} {xs : List α} (ho : Owns w base e s cc (.slice go n gc) xs) (hv : (Value.slice go n gc).ownBlock = some E ∨ (Value.slice go n gc).ownBlock = some H) :
    ∃ g, go = some ⟨g, 0, none⟩ ∧ (g = E ∨ g = H) := by
  have h0 : w.ownsRow base e s (.slice go n gc) xs.length (fl s cc xs) := ho
  rcases h0.2 with ⟨e1, _⟩ | ⟨g, cap', cur, e1, _⟩
  · injection e1 with e1 e2 e3
    subst e1
    simp [Value.ownBlock] at hv
  · injection e1 with e1 e2 e3
    subst e1
    refine ⟨g, rfl, ?_⟩
    rcases hv with hv | hv
    · exact .inl (by simpa [Value.ownBlock] using hv)
    · exact .inr (by simpa [Value.ownBlock] using hv)
theorem rnIn.str {x : Rnr} (h : rnIn x) : strOk x := ⟨by have := h.f1; omega, by have := h.f2; omega⟩

def rnIns (xs : List Rnr) : Prop := ∀ k, k < xs.length → rnIn (nth xs k)
theorem rnIns.snoc {ms : List Rnr} {m : Rnr} (h : rnIns ms) (hm : rnIn m) : rnIns (ms ++ [m]) := by
  intro k hk
  by_cases e : k < ms.length
  · have : nth (ms ++ [m]) k = nth ms k := by simp only [nth, List.getD]; rw [List.getElem?_append_left e]
    rw [this]; exact h k e
  · have hk' : k = ms.length := by simp at hk; omega
    subst hk'
    have : nth (ms ++ [m]) ms.length = m := by simp [nth]
    rw [this]; exact hm
/-- drawn values, in new memory -/
structure DrawnR (B0 : Nat) (w' : World) (xs : List Rnr) (b off cap : Nat) : Prop where
  len : xs.length ≤ 12
  ok : rnIns xs
  caps : xs.length ≤ cap ∧ cap ≤ 9223372036854775807
  fresh : FreshAt B0 w' (some ⟨b, off, none⟩) 6 xs.length (fun k => (nth xs k).c)
theorem DrawnR.of {B0 : Nat} {w : World} {xs : List Rnr} {b off gc : Nat} (h : Owns w B0 88 6 Rnr.c (.slice (some ⟨b, off, none⟩) xs.length gc) xs) (hl : xs.length ≤ 12) (hok : rnIns xs) : DrawnR B0 w xs b off gc := by
  obtain ⟨go2, gc2, e2, hF, _, h1, h2⟩ := h.fresh
  injection e2 with e2 e3 e4
  subst e2 e4
  exact ⟨hl, hok, ⟨h1, by unfold maxLen at h2; omega⟩, hF⟩
theorem DrawnR.mono {B0 B1 : Nat} {w : World} {xs : List Rnr} {b off cap : Nat} (h : DrawnR B0 w xs b off cap) (hB : B1 ≤ B0) : DrawnR B1 w xs b off cap := ⟨h.len, h.ok, h.caps, h.fresh.mono hB⟩
theorem DrawnR.ext {B0 : Nat} {w w' : World} {xs : List Rnr} {b off cap : Nat} (h : DrawnR B0 w xs b off cap) (hx : Ext w w') : DrawnR B0 w' xs b off cap := ⟨h.len, h.ok, h.caps, h.fresh.ext hx⟩
theorem DrawnR.curs {B0 B : Nat} {w w' : World} {xs : List Rnr} {b off cap : Nat} (h : DrawnR B0 w xs b off cap) (ht : Touch w w' (Span B (B + 1))) (hB : B < B0) : DrawnR B0 w' xs b off cap :=
  ⟨h.len, h.ok, h.caps, h.fresh.touch ht (fun a e hs => by have h1 := (h.fresh.base a e).1; have h2 := hs.2; omega)⟩

theorem rnIns_an {xs : List Rnr} {x : Rnr} (h : rnIns xs) (hx : rnIn x) (hb : anB xs x = true) : rnIns (anL xs x) ∧ (anL xs x).length = xs.length + 1 := by
  have e : anL xs x = rnL xs x := by unfold anL; rw [hb]; rfl
  rw [e]
  refine ⟨fun k hk => ?_, rnL_len xs x⟩
  unfold rnL at hk ⊢
  rcases mem_insL (insAtG_le _ _ _) hk with e2 | ⟨j, hj, e2⟩
  · rw [e2]; exact hx
  · rw [e2]; exact h j hj

set_option maxRecDepth 100000 in
set_option maxHeartbeats 8000000 in
theorem cu_runners {B n : Nat} {w : World} (h : Cu w B n) (hn : n ≤ 800000) :
    Calls Try.prog 39 #[.pointer (some ⟨B, 0, none⟩)] w fun e w' => ∃ (b off cap : Nat) (xs : List Rnr), e = .returned (.slice (some ⟨b, off, none⟩) xs.length cap) ∧ DrawnR w.heap.size w' xs b off cap ∧ Cu w' B (n + 100) ∧ Touch w w' (Span B (B + 1)) := by
  obtain ⟨i0, hi, hz0, hz1, hz2⟩ := info_parts infoRnr
  have hBl := h.lt
  have hx0 := ((Ext.refl w).alloc (.cells #[] 88))
  have HA := Lib.hid (cu_pick (N := 8) (h.ext hx0) (by omega) (by decide) (by decide))
  have hstart := Lib.hid (Owns.start' (e := 88) (s := 6) (cc := Rnr.c) (Nat.le_refl w.heap.size))
  have HX0 := Lib.hid hx0
  clear h hx0
  go_enter Try.func39, Try.ntmps39
  go_wp2_with fail
  refine HA.out.mono ?_; rintro e w1 ⟨x, rfl, hx, hc, ht⟩
  obtain ⟨q, rfl⟩ := Int.eq_ofNat_of_zero_le hx.1
  have hq : q < 8 := by have := hx.2; omega
  have HO1 := Lib.hid (hstart.out.cur ht hBl)
  have HT1 := Lib.hid ((Touch.of_ext HX0.out).trans ht)
  have HC1 := Lib.hid hc
  clear hc ht hstart HX0 HA hx
  go_wp2
  go_loopw [3, 4, 5] (fun l u v wr => ∃ (xs : List Rnr) (j b off gc : Nat) (d : Int), j ≤ 7 ∧ v = .int .i64 j ∧ u = .int .i64 d ∧ (0 ≤ d ∧ d ≤ 3 * (7 - (j : Int))) ∧ l = .slice (some ⟨b, off, none⟩) xs.length gc ∧ xs.length + j ≤ 7 ∧ (xs.length ≤ gc ∧ gc ≤ 9223372036854775807) ∧ rnIns xs ∧ Owns wr w.heap.size 88 6 Rnr.c (.slice (some ⟨b, off, none⟩) xs.length gc) xs ∧ Cu wr B (n + 1 + 9 * (7 - j)) ∧ Touch w wr (Span B (B + 1))) (fun _ _ v _ => (intOf v).toNat)
  case atStart => exact ⟨[], q, w.heap.size, 0, 0, 0, by omega, rfl, rfl, ⟨by omega, by omega⟩, rfl, by simp; omega, ⟨by simp, by omega⟩, fun k hk => by simp at hk, HO1.out, HC1.out.mono (by omega), HT1.out⟩
  case round =>
    obtain ⟨xs, j, b, off, gc, d, hj, rfl, rfl, hd, rfl, hxl, hgc, hok, hown, hc, hT⟩ := hrel
    have HO := Lib.hid hown; have HC := Lib.hid hc; have HT := Lib.hid hT; have HK := Lib.hid hok; have HGC := Lib.hid hgc
    have hd0 := hd.1; have hd1 := hd.2
    clear hown hc hT hok HO1 HC1 HT1 hd hgc
    by_cases hj0 : 0 < j
    · have hj0' : (0 : Int) < (j : Int) := by omega
      have HP := Lib.hid (cu_pick (N := 3) HC.out (by omega) (by decide) (by decide))
      go_wp2_with fail
      refine HP.out.mono ?_; rintro e w2 ⟨y, rfl, hy, hc, ht⟩
      have HO2 := Lib.hid (HO.out.cur ht hBl); have HT2 := Lib.hid (HT.out.trans ht); have HC2 := Lib.hid hc
      have hy0 := hy.1; have hy1 := hy.2
      clear hc ht HP HO HT HC hy
      have HP := Lib.hid (fun (r : Int) (hr : 0 ≤ r ∧ r ≤ 1000) => cu_runner HC2.out (by omega) hr)
      have hs1 : d + 1 + y ≤ 1000 := by omega
      go_wp2_with fail
      refine (HP.out _ ⟨by omega, by omega⟩).mono ?_; rintro e w3 ⟨⟨r0, r1, r2, r3, r4, r5⟩, rfl, hro, hc, ht⟩
      have HO3 := Lib.hid (HO2.out.cur ht hBl); have HT3 := Lib.hid (HT2.out.trans ht); have HC3 := Lib.hid hc; have HRO := Lib.hid hro
      clear hc ht HP HO2 HT2 HC2 hro
      obtain ⟨go9, gc9, e9, hF9, _⟩ := HO3.out.fresh
      injection e9 with e9 e10 e11
      subst e9 e11
      have HADD := Lib.hid (spec_AddRunner (cap := gc) (s := r0) (t1 := r1) (t2 := r2) (c1 := r3) (c3 := r4) (r := r5) hF9.row (by omega) (fun k hk => (HK.out k hk).str) HRO.out.str HGC.out)
      have HAN := Lib.hid (rnIns_an HK.out HRO.out)
      clear hF9
      unfold Rnr.val
      dsimp only
      generalize anB xs ⟨r0, r1, r2, r3, r4, r5⟩ = N at HADD HAN
      generalize anL xs ⟨r0, r1, r2, r3, r4, r5⟩ = L at HADD HAN
      go_wp2_with fail
      refine HADD.out.mono ?_; rintro e w4 ⟨bo, bc, rfl, hx4, ⟨b', off', rfl⟩, hbc, hO4⟩
      have HO4 := Lib.hid (hO4.down HT3.out.size); have HO3' := Lib.hid (HO3.out.ext' hx4); have HT4 := Lib.hid (HT3.out.trans (Touch.of_ext hx4)); have HC4 := Lib.hid (HC3.out.ext hx4); have HBC := Lib.hid hbc
      clear hx4 hbc hO4 HADD HO3 HT3 HC3
      cases N
      · go_wp2
        go_roundw
        case rel => exact ⟨xs, j - 1, b, off, gc, d + 1 + y, by omega, by go_num, rfl, ⟨by omega, by omega⟩, rfl, by omega, HGC.out, HK.out, HO3'.out, HC4.out.mono (by omega), HT4.out⟩
        case measure => simp [intOf] <;> omega
      · obtain ⟨hL1, hL2⟩ := HAN.out rfl
        have HL1 := Lib.hid hL1; have HL2 := Lib.hid hL2
        clear hL1 hL2 HAN
        go_wp2
        go_roundw
        case rel => exact ⟨L, j - 1, b', off', bc, d + 1 + y, by omega, by go_num, rfl, ⟨by omega, by omega⟩, rfl, by rw [HL2.out]; omega, HBC.out, HL1.out, HO4.out, HC4.out.mono (by omega), HT4.out⟩
        case measure => simp [intOf] <;> omega
    · obtain rfl : j = 0 := by omega
      have HP := Lib.hid (cu_pick (N := 30) HC.out (by omega) (by decide) (by decide))
      go_wp2_with fail
      refine HP.out.mono ?_; rintro e w2 ⟨y, rfl, hy, hc2, ht2⟩
      have HO2 := Lib.hid (HO.out.cur ht2 hBl); have HC2 := Lib.hid hc2; have HT2 := Lib.hid (HT.out.trans ht2)
      have hy0 := hy.1; have hy1 := hy.2
      clear hc2 ht2 HO HC HT HP hy
      by_cases e0 : y = 0
      · subst e0
        have HP := Lib.hid (cu_pick (N := 12) HC2.out (by omega) (by decide) (by decide))
        go_wp2_with fail
        refine HP.out.mono ?_; rintro e w3 ⟨p, rfl, hp, hc, ht⟩
        have HO3 := Lib.hid (HO2.out.cur ht hBl); have HT3 := Lib.hid (HT2.out.trans ht); have HC3 := Lib.hid hc
        have hp0 := hp.1; have hp1 := hp.2
        clear hc ht HP HO2 HT2 HC2 hp
        have HP := Lib.hid (fun (r : Int) (hr : 0 ≤ r ∧ r ≤ 1000) => cu_runner HC3.out (by omega) hr)
        go_wp2_with fail
        refine (HP.out _ ⟨by omega, by omega⟩).mono ?_; rintro e w4 ⟨⟨r0, r1, r2, r3, r4, r5⟩, rfl, hro, hc, ht⟩
        have HO := Lib.hid (HO3.out.cur ht hBl); have HT := Lib.hid (HT3.out.trans ht); have HC := Lib.hid hc; have HRO := Lib.hid hro
        clear hc ht HP HO3 HT3 HC3 hro
        unfold Rnr.val
        dsimp only
        have hrow2 := fun y => row_lit (w := y) (cs := #[.int .i64 r0, .string r1, .string r2, .int .i64 r3, .bool r4, .int .i64 r5]) (T := 88) (s := 6) (cc := Rnr.c) (x := (⟨r0, r1, r2, r3, r4, r5⟩ : Rnr)) (by intro j hj; match j, hj with | 0, _ => rfl | 1, _ => rfl | 2, _ => rfl | 3, _ => rfl | 4, _ => rfl | 5, _ => rfl)
        go_wp2_with (at_builtin; refine wpList_append_bf rfl _ _ 51 rfl 88 i0 _ 6 64 Try.underlying51 hi hz0 hz1 hz2 rfl (by decide) Rnr.c rn_cells w.heap.size (Nat.le_trans HT.out.size (by simp)) _ xs [(⟨r0, r1, r2, r3, r4, r5⟩ : Rnr)] (xs ++ [(⟨r0, r1, r2, r3, r4, r5⟩ : Rnr)]) (Lib.hid rfl) rfl (HO.out.ext' ((Ext.refl _).alloc _)) ⟨w4.heap.size, 0, none⟩ 1 1 rfl rfl (hrow2 _) (by simp; omega) (by simp; omega) ?_; intro go1 gc1 w9 ho4 hb4 _ hv4; obtain ⟨g1, rfl, _⟩ := own_at' ho4 hv4.out; have HO9 := Lib.hid ho4; have HC9 := Lib.hid ((HC.out.ext ((Ext.refl w4).alloc (.cells #[.int .i64 r0, .string r1, .string r2, .int .i64 r3, .bool r4, .int .i64 r5] 88))).below hb4 hBl); have HT9 := Lib.hid ((HT.out.trans (Touch.of_ext ((Ext.refl w4).alloc (.cells #[.int .i64 r0, .string r1, .string r2, .int .i64 r3, .bool r4, .int .i64 r5] 88)))).below hb4); clear ho4 hb4 hv4 HO HC HT hrow2)
        all_goals
          have HL := Lib.hid (show (xs ++ [(⟨r0, r1, r2, r3, r4, r5⟩ : Rnr)]).length = xs.length + 1 from by simp)
          have HKS := Lib.hid (HK.out.snoc HRO.out)
          have HD := Lib.hid (DrawnR.of HO9.out (by rw [HL.out]; omega) HKS.out)
          go_wp2
          go_ret
          exact ⟨g1, 0, gc1, _, by rw [HL.out]; rfl, HD.out, HC9.out.mono (by omega), HT9.out⟩
      · by_cases e1 : y = 1
        · subst e1
          have HOS := Lib.hid (Owns.start' (α := Rnr) (e := 88) (s := 6) (cc := Rnr.c) (w := w2) HT2.out.size)
          have HXS := Lib.hid ((Ext.refl w2).alloc (.cells #[] 88))
          have HCS := Lib.hid (HC2.out.ext HXS.out); have HTS := Lib.hid (HT2.out.trans (Touch.of_ext HXS.out))
          clear HO2 HC2 HT2 HXS hy0 hy1 e0
          go_wp2
          go_loopw [3, 8] (fun l v wr => ∃ (xs : List Rnr) (k b off gc : Nat), xs.length = k ∧ v = .int .i64 k ∧ l = .slice (some ⟨b, off, none⟩) xs.length gc ∧ k ≤ 12 ∧ rnIns xs ∧ Owns wr w.heap.size 88 6 Rnr.c (.slice (some ⟨b, off, none⟩) xs.length gc) xs ∧ Cu wr B (n + 65 + k) ∧ Touch w wr (Span B (B + 1))) (fun _ v _ => 13 - (intOf v).toNat)
          case atStart => exact ⟨[], 0, w2.heap.size, 0, 0, rfl, rfl, rfl, by omega, fun k hk => by simp at hk, HOS.out, HCS.out.mono (by omega), HTS.out⟩
          case round =>
            clear HK HOS HCS HTS hxl HGC
            obtain ⟨xs, k, b, off, gc, hxk, rfl, rfl, hk12, hok, hown, hc, hT⟩ := hrel
            have HO := Lib.hid hown; have HC := Lib.hid hc; have HT := Lib.hid hT; have HK := Lib.hid hok; have HXK := Lib.hid hxk
            have hxl : xs.length ≤ 12 := by omega
            clear hown hc hT hok hxk
            have HP := Lib.hid (cu_pick (N := 2) HC.out (by omega) (by decide) (by decide))
            go_wp2_with fail
            refine HP.out.mono ?_; rintro e w4 ⟨p, rfl, hp, hc, ht⟩
            have hp0 := hp.1; have hp1 := hp.2
            have HO := Lib.hid (HO.out.cur ht hBl)
            have HT := Lib.hid (HT.out.trans ht)
            have HC := Lib.hid hc
            clear hc ht HP hp
            by_cases hlt : (k : Int) < 10 + p
            · have hk11 : k ≤ 10 := by omega
              have hrow2 := fun y => row_lit (w := y) (cs := #[.int .i64 ((k : Int) + 1), .string ⟨#[120]⟩, .string ⟨#[121]⟩, .int .i64 (1950 + (k : Int)), .bool false, .int .i64 0]) (T := 88) (s := 6) (cc := Rnr.c) (x := (⟨(k : Int) + 1, ⟨#[120]⟩, ⟨#[121]⟩, 1950 + (k : Int), false, 0⟩ : Rnr)) (by intro j hj; match j, hj with | 0, _ => rfl | 1, _ => rfl | 2, _ => rfl | 3, _ => rfl | 4, _ => rfl | 5, _ => rfl)
              go_wp2_with (at_builtin; refine wpList_append_bf rfl _ _ 51 rfl 88 i0 _ 6 64 Try.underlying51 hi hz0 hz1 hz2 rfl (by decide) Rnr.c rn_cells w.heap.size (Nat.le_trans HT.out.size (by simp)) _ xs [(⟨(k : Int) + 1, ⟨#[120]⟩, ⟨#[121]⟩, 1950 + (k : Int), false, 0⟩ : Rnr)] (xs ++ [(⟨(k : Int) + 1, ⟨#[120]⟩, ⟨#[121]⟩, 1950 + (k : Int), false, 0⟩ : Rnr)]) (Lib.hid rfl) rfl (HO.out.ext' ((Ext.refl _).alloc _)) ⟨w4.heap.size, 0, none⟩ 1 1 rfl rfl (hrow2 _) (by simp; omega) (by simp; omega) ?_; intro go1 gc1 w9 ho4 hb4 _ hv4; obtain ⟨g1, rfl, _⟩ := own_at' ho4 hv4.out; have HO9 := Lib.hid ho4; have HC9 := Lib.hid ((HC.out.ext ((Ext.refl w4).alloc (.cells #[.int .i64 ((k : Int) + 1), .string ⟨#[120]⟩, .string ⟨#[121]⟩, .int .i64 (1950 + (k : Int)), .bool false, .int .i64 0] 88))).below hb4 hBl); have HT9 := Lib.hid ((HT.out.trans (Touch.of_ext ((Ext.refl w4).alloc (.cells #[.int .i64 ((k : Int) + 1), .string ⟨#[120]⟩, .string ⟨#[121]⟩, .int .i64 (1950 + (k : Int)), .bool false, .int .i64 0] 88)))).below hb4); clear ho4 hb4 hv4 HO HC HT hrow2)
              have HL := Lib.hid (show (xs ++ [(⟨(k : Int) + 1, ⟨#[120]⟩, ⟨#[121]⟩, 1950 + (k : Int), false, 0⟩ : Rnr)]).length = k + 1 from by rw [List.length_append, HXK.out]; rfl)
              have HKS := Lib.hid (HK.out.snoc (show rnIn (⟨(k : Int) + 1, ⟨#[120]⟩, ⟨#[121]⟩, 1950 + (k : Int), false, 0⟩ : Rnr) from ⟨⟨by show 0 ≤ (k : Int) + 1; omega, by show (k : Int) + 1 ≤ 1000; omega⟩, by show 1 ≤ 11; omega, by show 1 ≤ 11; omega, ⟨by show 1919 ≤ 1950 + (k : Int); omega, by show 1950 + (k : Int) ≤ 2021; omega⟩, ⟨by show (-1 : Int) ≤ 0; omega, by show (0 : Int) ≤ 10000; omega⟩⟩))
              go_wp2
              go_roundw
              case rel => exact ⟨_, k + 1, g1, 0, gc1, HL.out, by go_num, by rw [List.length_append]; rfl, by omega, HKS.out, HO9.out, HC9.out.mono (by omega), HT9.out⟩
              case measure => simp [intOf] <;> omega
            · have HD := Lib.hid (DrawnR.of HO.out hxl HK.out)
              go_wp2
              go_ret
              exact ⟨b, off, gc, xs, rfl, HD.out, HC.out.mono (by omega), HT.out⟩
        · have HD := Lib.hid (DrawnR.of HO2.out (by omega) HK.out)
          go_wp2
          go_ret
          exact ⟨b, off, gc, xs, rfl, HD.out, HC2.out.mono (by omega), HT2.out⟩

end Go.Proofs.Ytkejhhflpnfepaa
