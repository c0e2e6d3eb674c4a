/-
  Proved here: the cursor's codes12.
  Conditions: the cursor lies in one block; counts are small.
-/
import Derived.Test.YtckgjpaccgpdpaaGreatDoorCur1
import Derived.Test.YtckgjpaccgpdpaaGreatDoorForm
namespace Go.Proofs.YtckgjpaccgpdpaaGreatDoor
open Go.RowKit

theorem Touch.grown {w w' : World} {B : Nat} (h : Touch w w' (Span B (B + 1))) : w.grownBy w' (some B) :=
  ⟨h.os, h.tape, h.output, h.size, fun k hk hne => h.block k hk (fun hs => hne (by have h1 := hs.1; have h2 := hs.2; obtain rfl : k = B := (by omega); rfl))⟩
theorem Touch.below {a b c : World} {S : Nat → Prop} (h : Touch a b S) (hb : Below a.heap.size b c) : Touch a c S :=
  ⟨hb.os.trans h.os, hb.tape.trans h.tape, hb.output.trans h.output, Nat.le_trans h.size hb.size, fun k hk hn => (hb.block k hk).trans (h.block k hk hn)⟩
theorem Owns.cur {α : Type} {w w' : World} {base B : Nat} {e : TypeId} {s : Nat} {cc : α → Nat → Value} {v : Value} {xs : List α} (h : Owns w base e s cc v xs) (ht : Touch w w' (Span B (B + 1))) (hB : B < base) : Owns w' base e s cc v xs := by
  have h0 : w.ownsRow base e s v xs.length (fl s cc xs) := h
  refine h0.kept ht.grown ?_
  cases e : v.ownBlock with
  | none => exact .inl rfl
  | some k =>
    have := (h0.lt k e).1
    refine .inr ?_
    intro e2
    injection e2 with e2
    omega
theorem Cu.keep {w w' : World} {B n : Nat} (h : Cu w B n) (hs : w.heap.size ≤ w'.heap.size) (hb : ∀ k, k ≤ B → w'.heap[k]? = w.heap[k]?) : Cu w' B n := by
  obtain ⟨co, m, cc, bs, h1, h2, h3, h4, h5⟩ := h
  have hc : ∀ j, w'.cell? ⟨B, j, none⟩ = w.cell? ⟨B, j, none⟩ := fun j => World.cell?_of_block (a := ⟨B, j, none⟩) (hb B (Nat.le_refl _))
  refine ⟨co, m, cc, bs, ⟨Nat.lt_of_lt_of_le h1.lt hs, (hc 0).trans h1.code, ?_, ?_, fun j => (World.frozen?_of_block (a := ⟨B, j, none⟩) (hb B (Nat.le_refl _))).trans (h1.free j)⟩, fun hm => ?_, h3, h4, h5⟩
  · obtain ⟨a, ha, e⟩ := h1.pos
    exact ⟨a, ha, (hc 1).trans e⟩
  · obtain ⟨s, hs, e⟩ := h1.seed
    exact ⟨s, hs, (hc 2).trans e⟩
  · obtain ⟨b', off, e, H⟩ := h2 hm
    have hlt : b' < B := h3 hm _ e
    exact ⟨b', off, e, fun k hk j hj => (World.cell?_of_block (a := ⟨b', _, none⟩) (hb b' (Nat.le_of_lt hlt))).trans (H k hk j hj)⟩
theorem Cu.below {w w' : World} {B n base : Nat} (h : Cu w B n) (hb : Below base w w') (hB : B < base) : Cu w' B n := h.keep hb.size (fun k hk => hb.block k (by omega))
theorem lit_ints {w : World} {cs : Array Value} {T : TypeId} (vs : List Int) (h : cs.toList = vs.map (Value.int .i64)) : RowAt (w.alloc (.cells cs T)) (some ⟨w.heap.size, 0, none⟩) 1 vs.length (ic vs) := fun _ => ⟨w.heap.size, 0, rfl, fun k hk j hj => by
  obtain rfl : j = 0 := by omega
  rw [World.cell?_alloc_new]
  have e : cs[k]? = some (.int .i64 (nth vs k)) := by
    rw [← Array.getElem?_toList, h, List.getElem?_map]
    simp [nth, hk]
  simpa [ic] using e⟩
def slLen : Value → Nat | .slice _ n _ => n | _ => 0

set_option maxRecDepth 100000 in
set_option maxHeartbeats 2000000 in
theorem cu_codes12 {B n : Nat} {w : World} (h : Cu w B n) (hn : n ≤ 900000) :
    Calls Tryz.prog 24 #[.pointer (some ⟨B, 0, none⟩)] w fun e w' => ∃ (ao : Option Addr) (cap : Nat) (xs : List Int), e = .returned (.slice ao xs.length cap) ∧ xs.length ≤ 14 ∧ FreshAt w.heap.size w' ao 1 xs.length (ic xs) ∧ (xs.length ≤ cap ∧ cap ≤ 9223372036854775807) ∧ Cu w' B (n + 40) ∧ Touch w w' (Span B (B + 1)) := by
  obtain ⟨i0, hi, hz0, hz1, hz2⟩ := info_parts infoInt
  have hBl := h.lt
  have HP := Lib.hid (cu_pick (N := 7) (h.ext ((Ext.refl w).alloc (.cells #[] 3))) (by omega) (by decide) (by decide))
  have hstart := Lib.hid (Owns.start' (e := 3) (s := 1) (cc := icc) (Nat.le_refl w.heap.size))
  clear h
  go_enter Tryz.func24, Tryz.ntmps24
  go_wp2_with fail
  refine HP.out.mono ?_; rintro e w1 ⟨x, rfl, hx, hc, ht⟩
  obtain ⟨q, rfl⟩ := Int.eq_ofNat_of_zero_le hx.1
  have hq : q < 7 := by have := hx.2; omega
  have hown := Lib.hid (hstart.out.cur ht hBl)
  have hT := Lib.hid ((Touch.of_ext ((Ext.refl w).alloc (.cells #[] 3))).trans ht)
  have HC := Lib.hid hc
  clear hx hc ht hstart HP
  go_wp2
  go_loopw [3, 4] (fun l v wr => ∃ (xs : List Int) (j : Nat) (go : Option Addr) (gc : Nat), j + xs.length = q ∧ v = .int .i64 j ∧ l = .slice go xs.length gc ∧ Owns wr w.heap.size 3 1 icc (.slice go xs.length gc) xs ∧ Cu wr B (n + 1 + xs.length) ∧ Touch w wr (Span B (B + 1))) (fun _ v _ => (intOf v).toNat)
  case atStart => exact ⟨[], q, _, _, by simp, rfl, rfl, hown.out, HC.out, hT.out⟩
  case round =>
    obtain ⟨xs, j, go, gc, hj, rfl, rfl, hown, hc, hT⟩ := hrel
    have HO := Lib.hid hown; have HC := Lib.hid hc; have HT := Lib.hid hT
    clear hown hc hT
    by_cases hj0 : 0 < j
    · have hj0' : (0 : Int) < (j : Int) := by omega
      have hsz := HT.out.size
      have HA := Lib.hid (cu_among (n := n + 1 + xs.length) (cap := 8) (xs := [31, 32, 34, 41, 45, 77, 99, 31]) (HC.out.ext ((Ext.refl wr).alloc (.cells #[.int .i64 31, .int .i64 32, .int .i64 34, .int .i64 41, .int .i64 45, .int .i64 77, .int .i64 99, .int .i64 31] 3))) (by omega) (lit_ints _ rfl) (by decide) (by decide) (fun a e => by injection e with e; subst e; exact HC.out.lt))
      go_wp2_with fail
      refine HA.out.mono ?_; rintro e w2 ⟨i, _, rfl, hc2, ht2⟩
      generalize nth ([31, 32, 34, 41, 45, 77, 99, 31] : List Int) i = c
      have hO2 := (HO.out.ext' ((Ext.refl wr).alloc _)).cur ht2 hBl
      have hT2 := (HT.out.trans (Touch.of_ext ((Ext.refl wr).alloc _))).trans ht2
      have HC2 := Lib.hid hc2; have HT2 := Lib.hid hT2
      clear hc2 ht2 hT2 HA
      have hrow2 := fun x => row_lit (w := x) (cs := #[.int .i64 c]) (T := 3) (s := 1) (cc := icc) (x := c) (by intro j hj; obtain rfl : j = 0 := (by omega); rfl)
      go_wp2_with (at_builtin; refine wpList_append_bf rfl _ _ 27 rfl 3 i0 _ 1 8 Tryz.underlying27 hi hz0 hz1 hz2 rfl (by decide) icc icc_one w.heap.size (Nat.le_trans HT2.out.size (by simp)) _ xs [c] (xs ++ [c]) (Lib.hid rfl) rfl (hO2.ext' ((Ext.refl _).alloc _)) ⟨w2.heap.size, 0, none⟩ 1 1 rfl rfl (hrow2 _) (by simp; omega) (by simp; omega) ?_; intro go1 gc1 w3 ho3 hb3 _ _)
      go_wp2
      go_roundw
      case rel =>
        have k := ((Ext.refl w2).alloc (.cells #[.int .i64 c] 3))
        exact ⟨xs ++ [c], j - 1, go1, gc1, by simp; omega, by go_num, by rw [List.length_append]; rfl, ho3, ((HC2.out.ext k).below hb3 hBl).mono (by simp; omega), (HT2.out.trans (Touch.of_ext k)).below hb3⟩
      case measure => simp [intOf] <;> omega
    · obtain rfl : j = 0 := by omega
      have HP := Lib.hid (cu_pick (N := 32) HC.out (by omega) (by decide) (by decide))
      go_wp2_with fail
      refine HP.out.mono ?_; rintro e w2 ⟨x, rfl, hx, hc2, ht2⟩
      have hO2 := HO.out.cur ht2 hBl
      have hT2 := HT.out.trans ht2
      have HO2 := Lib.hid hO2; have HC2 := Lib.hid hc2; have HT2 := Lib.hid hT2
      clear hO2 hc2 ht2 hT2 HO HC HT HP
      have hxl : xs.length ≤ 6 := by omega
      have hx0 := hx.1
      by_cases h0 : x = 0
      · subst h0
        have HA := Lib.hid (cu_among (n := n + 1 + xs.length + 1) (cap := 2) (xs := [30, 100]) (HC2.out.ext ((Ext.refl w2).alloc (.cells #[.int .i64 30, .int .i64 100] 3))) (by omega) (lit_ints _ rfl) (by decide) (by decide) (fun a e => by injection e with e; subst e; exact HC2.out.lt))
        clear hx hx0
        go_wp2_with fail
        refine HA.out.mono ?_; rintro e w4 ⟨i, _, rfl, hc4, ht4⟩
        generalize nth ([30, 100] : List Int) i = c
        have hO4 := (HO2.out.ext' ((Ext.refl w2).alloc _)).cur ht4 hBl
        have hT4 := (HT2.out.trans (Touch.of_ext ((Ext.refl w2).alloc _))).trans ht4
        have HC4 := Lib.hid hc4; have HT4 := Lib.hid hT4
        clear hc4 ht4 hT4 HA
        have hrow2 := fun x => row_lit (w := x) (cs := #[.int .i64 c]) (T := 3) (s := 1) (cc := icc) (x := c) (by intro j hj; obtain rfl : j = 0 := (by omega); rfl)
        go_wp2_with (at_builtin; refine wpList_append_bf rfl _ _ 27 rfl 3 i0 _ 1 8 Tryz.underlying27 hi hz0 hz1 hz2 rfl (by decide) icc icc_one w.heap.size (Nat.le_trans HT4.out.size (by simp)) _ xs [c] (xs ++ [c]) (Lib.hid rfl) rfl (hO4.ext' ((Ext.refl _).alloc _)) ⟨w4.heap.size, 0, none⟩ 1 1 rfl rfl (hrow2 _) (by simp; omega) (by simp; omega) ?_; intro go1 gc1 w3 ho3 hb3 _ _)
        go_wp2
        go_ret
        have k := ((Ext.refl w4).alloc (.cells #[.int .i64 c] 3))
        obtain ⟨go2, gc2, e2, hF, _, hl1, hl2⟩ := ho3.fresh
        injection e2 with e2 e3 e4
        subst e2
        exact ⟨go1, gc1, xs ++ [c], by rw [List.length_append]; rfl, by simp; omega, hF, ⟨by rw [e4]; exact hl1, by rw [e4]; unfold maxLen at hl2; omega⟩, ((HC4.out.ext k).below hb3 hBl).mono (by omega), (HT4.out.trans (Touch.of_ext k)).below hb3⟩
      · by_cases h1 : x = 1
        · subst h1
          clear hx hx0
          go_wp2
          go_loopw [3] (fun l wr => ∃ (ys : List Int) (go : Option Addr) (gc : Nat), ys.length ≤ 14 ∧ l = .slice go ys.length gc ∧ Owns wr w.heap.size 3 1 icc (.slice go ys.length gc) ys ∧ Cu wr B (n + 10 + ys.length) ∧ Touch w wr (Span B (B + 1))) (fun l _ => 14 - slLen l)
          case atStart => exact ⟨xs, _, _, by omega, rfl, HO2.out, HC2.out.mono (by omega), HT2.out⟩
          case round =>
            obtain ⟨ys, go, gc, hy, rfl, hown, hc, hT⟩ := hrel
            have HO := Lib.hid hown; have HC := Lib.hid hc; have HT := Lib.hid hT
            clear hown hc hT HO2 HC2 HT2
            have HP := Lib.hid (cu_pick (N := 2) HC.out (by omega) (by decide) (by decide))
            go_wp2_with fail
            refine HP.out.mono ?_; rintro e w2 ⟨x, rfl, hx, hc2, ht2⟩
            have hx0 := hx.1
            have hx1 := hx.2
            have hO2 := HO.out.cur ht2 hBl
            have hT2 := HT.out.trans ht2
            have HC2 := Lib.hid hc2; have HT2 := Lib.hid hT2
            clear hc2 ht2 hT2 HO HC HT HP hx
            by_cases hlt : (ys.length : Int) < 12 + x
            · have hrow2 := fun y => row_lit (w := y) (cs := #[.int .i64 31]) (T := 3) (s := 1) (cc := icc) (x := (31 : Int)) (by intro j hj; obtain rfl : j = 0 := (by omega); rfl)
              go_wp2_with (at_builtin; refine wpList_append_bf rfl _ _ 27 rfl 3 i0 _ 1 8 Tryz.underlying27 hi hz0 hz1 hz2 rfl (by decide) icc icc_one w.heap.size (Nat.le_trans HT2.out.size (by simp)) _ ys [31] (ys ++ [31]) (Lib.hid rfl) rfl (hO2.ext' ((Ext.refl _).alloc _)) ⟨w2.heap.size, 0, none⟩ 1 1 rfl rfl (hrow2 _) (by simp; omega) (by simp; omega) ?_; intro go1 gc1 w3 ho3 hb3 _ _)
              go_wp2
              go_roundw
              case rel =>
                have k := ((Ext.refl w2).alloc (.cells #[.int .i64 31] 3))
                exact ⟨ys ++ [31], go1, gc1, by simp; omega, by rw [List.length_append]; rfl, ho3, ((HC2.out.ext k).below hb3 hBl).mono (by simp; omega), (HT2.out.trans (Touch.of_ext k)).below hb3⟩
              case measure => simp [slLen] <;> omega
            · go_wp2
              go_ret
              obtain ⟨go2, gc2, e2, hF, _, hl1, hl2⟩ := hO2.fresh
              injection e2 with e2 e3 e4
              subst e2
              exact ⟨go, gc, ys, rfl, hy, hF, ⟨by rw [e4]; exact hl1, by rw [e4]; unfold maxLen at hl2; omega⟩, HC2.out.mono (by omega), HT2.out⟩
        · clear hx
          go_wp2
          go_ret
          obtain ⟨go2, gc2, e2, hF, _, hl1, hl2⟩ := HO2.out.fresh
          injection e2 with e2 e3 e4
          subst e2
          exact ⟨go, gc, xs, rfl, by omega, hF, ⟨by rw [e4]; exact hl1, by rw [e4]; unfold maxLen at hl2; omega⟩, HC2.out.mono (by omega), HT2.out⟩

end Go.Proofs.YtckgjpaccgpdpaaGreatDoor
