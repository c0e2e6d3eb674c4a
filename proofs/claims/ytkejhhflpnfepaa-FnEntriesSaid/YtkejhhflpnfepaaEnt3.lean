/-
  Proved here: what withEntry, ChangeClass, PayEntry and their references return.
  Conditions: no more than 1048576 entries, in a block.
-/
import Derived.Test.YtkejhhflpnfepaaEnter1
import Derived.Test.YtkejhhflpnfepaaEnt2
import Derived.Test.YtkejhhflpnfepaaRowL
import Derived.Test.YtkejhhflpnfepaaCurL
namespace Go.Proofs.Ytkejhhflpnfepaa
open Go.RowKit

theorem ext_setCells {a w : World} (hx : Ext a w) {g : Nat} (hg : a.heap.size ≤ g) (o : Nat) (vs : List Value) : Ext a (w.setCells g o vs) :=
  Ext.below hx (below_setCells hg _ _ _) (Nat.le_refl _)

set_option maxRecDepth 100000 in
set_option maxHeartbeats 1000000 in
theorem impl_withEntry {b off cap i : Nat} {xs : List Ent} {s c1 c2 r : Int} {c3 : Bool} {w : World} (h : RowAt w (some ⟨b, off, none⟩) 5 xs.length (fun k => (nth xs k).c)) (hs : xs.length ≤ 1048576) (hi0 : i < xs.length) :
    Calls Try.prog 53 #[.slice (some ⟨b, off, none⟩) xs.length cap, .int .i64 i, .agg #[.int .i64 s, .int .i64 c1, .int .i64 c2, .bool c3, .int .i64 r]] w (ResE w (setL xs i ⟨s, c1, c2, c3, r⟩) (setB xs i ⟨s, c1, c2, c3, r⟩)) := by
  obtain ⟨i0, hi, hz0, hz1, hz2⟩ := info_parts infoEnt
  obtain ⟨W, hW⟩ : ∃ W, W = w.alloc (Obj.cells #[.int .i64 s, .int .i64 c1, .int .i64 c2, .bool c3, .int .i64 r] 26) := ⟨_, rfl⟩
  have hxW : Ext w W := hW ▸ (Ext.refl _).alloc _
  have hWs : W.heap.size = w.heap.size + 1 := by rw [hW]; simp
  have hWv : W.heap[w.heap.size]? = some (.cells #[.int .i64 s, .int .i64 c1, .int .i64 c2, .bool c3, .int .i64 r] 26 (0, 0)) := by rw [hW]; exact heap_alloc_new _ _
  have hW0 : W.cell? ⟨w.heap.size, 0, none⟩ = some (.int .i64 s) := by simp [World.cell?, hWv]
  have hW1 : W.cell? ⟨w.heap.size, 1, none⟩ = some (.int .i64 c1) := by simp [World.cell?, hWv]
  have hW2 : W.cell? ⟨w.heap.size, 2, none⟩ = some (.int .i64 c2) := by simp [World.cell?, hWv]
  have hW3 : W.cell? ⟨w.heap.size, 3, none⟩ = some (.bool c3) := by simp [World.cell?, hWv]
  have hW4 : W.cell? ⟨w.heap.size, 4, none⟩ = some (.int .i64 r) := by simp [World.cell?, hWv]
  have HWS := Lib.hid hWs; clear hWs hWv
  have HWL := Lib.hid (show w.heap.size ≤ W.heap.size from hxW.size)
  have HST := Lib.hid (Owns.start (α := Ent) (e := 26) (s := 5) (cc := Ent.c) (Ext.refl W))
  have HR := Lib.hid (h.ext (hxW.alloc (.cells #[] 26)))
  have HXA := Lib.hid ((Ext.refl W).alloc (.cells #[] 26))
  have HSB := Lib.hid (show setB xs i ⟨s, c1, c2, c3, r⟩ = entsB (xs.set i ⟨s, c1, c2, c3, r⟩) from rfl)
  have HSL := Lib.hid (show setL xs i ⟨s, c1, c2, c3, r⟩ = if entsB (xs.set i ⟨s, c1, c2, c3, r⟩) then xs.set i ⟨s, c1, c2, c3, r⟩ else [] from rfl)
  have hLl : (xs.set i (⟨s, c1, c2, c3, r⟩ : Ent)).length = xs.length := by rw [List.length_set]
  have HLl := Lib.hid hLl; clear hLl
  have HNIL := Lib.hid (show xs = [] ++ xs from rfl)
  have hin0 : (0 : Int) ≤ (i : Int) := by omega
  have hin1 : (i : Int) < (xs.length : Int) := by omega
  have HW := Lib.hid hW; clear hW h
  go_enter Try.func53, Try.ntmps53
  go_upto_region 1 with fail
  rw [← HW.out]
  go_upto_region 2 with (at_builtin; refine wpList_append_form rfl _ _ 24 rfl W 26 i0 _ 5 40 Try.underlying24 hi hz0 hz1 hz2 rfl (by decide) Ent.c ent_cells (.slice (some ⟨W.heap.size, 0, none⟩) 0 0) [] xs xs HNIL rfl HST.out ⟨b, off, none⟩ xs.length cap rfl rfl HR.out (by simp; omega) (by simp; omega) HXA.out ?_; intro go1 gc1 w3 ho3 hx3 hg3 hv3; have HO := Lib.hid ho3; have HX := Lib.hid hx3; have HV := Lib.hid hv3; clear ho3 hx3 hg3 hv3)
  obtain ⟨g, rfl, _⟩ := own_at HO.out HV.out
  obtain ⟨a2, cp2, e2, hf2, _, _, _⟩ := HO.out.fresh
  injection e2 with e2 _ e3
  subst e2 e3
  have hc := cells_of_row (by decide) hf2.row
  have hgb : W.heap.size ≤ g := (hf2.base _ rfl).1
  have hgl : g < w3.heap.size := (hf2.base _ rfl).2
  have d0 := HX.out.cells hW0
  have d1 := HX.out.cells hW1
  have d2 := HX.out.cells hW2
  have d3 := HX.out.cells hW3
  have d4 := HX.out.cells hW4
  have hsome : ∀ j, j < 5 → ∃ u, w3.cell? ⟨g, i * 5 + j, none⟩ = some u := fun j hj => by
    rw [hc _ (by omega), List.getElem?_eq_getElem (by rw [fl_length]; omega)]; exact ⟨_, rfl⟩
  obtain ⟨u0, e0⟩ := hsome 0 (by decide)
  obtain ⟨u1, e1⟩ := hsome 1 (by decide)
  obtain ⟨u2, e2⟩ := hsome 2 (by decide)
  obtain ⟨u3, e3⟩ := hsome 3 (by decide)
  obtain ⟨u4, e4⟩ := hsome 4 (by decide)
  simp only [Nat.add_zero] at e0
  have f0 := hf2.free g 0 rfl (i * 5)
  have f1 := hf2.free g 0 rfl (i * 5 + 1)
  have f2 := hf2.free g 0 rfl (i * 5 + 2)
  have f3 := hf2.free g 0 rfl (i * 5 + 3)
  have f4 := hf2.free g 0 rfl (i * 5 + 4)
  have HF := Lib.hid (hf2.store (by decide) hi0 (⟨s, c1, c2, c3, r⟩ : Ent) (vs := [.int .i64 s, .int .i64 c1, .int .i64 c2, .bool c3, .int .i64 r]) rfl)
  have HXS := Lib.hid (hxW.trans (ext_setCells HX.out hgb (i * 5) [.int .i64 s, .int .i64 c1, .int .i64 c2, .bool c3, .int .i64 r]))
  have hne : ¬ g = w.heap.size := by have := HWS.out; omega
  clear hsome hc hf2
  have HF2 := Lib.hid (show FreshAt W.heap.size (((((w3.setCell ⟨g, i * 5, none⟩ (.int .i64 s)).setCell ⟨g, i * 5 + 1, none⟩ (.int .i64 c1)).setCell ⟨g, i * 5 + 2, none⟩ (.int .i64 c2)).setCell ⟨g, i * 5 + 3, none⟩ (.bool c3)).setCell ⟨g, i * 5 + 4, none⟩ (.int .i64 r)) (some ⟨g, 0, none⟩) 5 (xs.set i (⟨s, c1, c2, c3, r⟩ : Ent)).length (fun k => (nth (xs.set i (⟨s, c1, c2, c3, r⟩ : Ent)) k).c) from HF.out)
  have HX2 := Lib.hid (show Ext w (((((w3.setCell ⟨g, i * 5, none⟩ (.int .i64 s)).setCell ⟨g, i * 5 + 1, none⟩ (.int .i64 c1)).setCell ⟨g, i * 5 + 2, none⟩ (.int .i64 c2)).setCell ⟨g, i * 5 + 3, none⟩ (.bool c3)).setCell ⟨g, i * 5 + 4, none⟩ (.int .i64 r)) from HXS.out)
  clear HF HXS
  generalize xs.set i (⟨s, c1, c2, c3, r⟩ : Ent) = L at HF2 HSB HSL HLl
  cases ht : entsB L
  all_goals
    have HT := Lib.hid ht; clear ht
    go_wp2_with fail
    generalize ((((w3.setCell ⟨g, i * 5, none⟩ (.int .i64 s)).setCell ⟨g, i * 5 + 1, none⟩ (.int .i64 c1)).setCell ⟨g, i * 5 + 2, none⟩ (.int .i64 c2)).setCell ⟨g, i * 5 + 3, none⟩ (.bool c3)).setCell ⟨g, i * 5 + 4, none⟩ (.int .i64 r) = wy at HF2 HX2 ⊢
    rw [← HLl.out]
    refine (impl_AreEntries HF2.out.row (by rw [HLl.out]; omega)).mono ?_; rw [HT.out]; rintro e w5 ⟨rfl, hx5⟩
    have HX5 := Lib.hid (HX2.out.trans hx5)
    have HF5 := Lib.hid ((HF2.out.ext hx5).mono HWL.out)
    clear hx5
    go_wp2
    go_ret2
    rw [HSL.out, HSB.out, HT.out]
  · exact .mk none 0 rfl HX5.out freshE_nil
  · exact .mk _ _ rfl HX5.out HF5.out

set_option maxRecDepth 100000 in
set_option maxHeartbeats 1000000 in
theorem spec_l11With {b off cap i : Nat} {xs : List Ent} {s c1 c2 r : Int} {c3 : Bool} {w : World} (h : RowAt w (some ⟨b, off, none⟩) 5 xs.length (fun k => (nth xs k).c)) (hs : xs.length ≤ 1048576) (hi0 : i < xs.length) :
    Calls Try.prog 55 #[.slice (some ⟨b, off, none⟩) xs.length cap, .int .i64 i, .agg #[.int .i64 s, .int .i64 c1, .int .i64 c2, .bool c3, .int .i64 r]] w (ResE w (setL xs i ⟨s, c1, c2, c3, r⟩) (setB xs i ⟨s, c1, c2, c3, r⟩)) := by
  obtain ⟨i0, hi, hz0, hz1, hz2⟩ := info_parts infoEnt
  obtain ⟨W, hW⟩ : ∃ W, W = w.alloc (Obj.cells #[.int .i64 s, .int .i64 c1, .int .i64 c2, .bool c3, .int .i64 r] 26) := ⟨_, rfl⟩
  have hxW : Ext w W := hW ▸ (Ext.refl _).alloc _
  have hWs : W.heap.size = w.heap.size + 1 := by rw [hW]; simp
  have hWv : W.heap[w.heap.size]? = some (.cells #[.int .i64 s, .int .i64 c1, .int .i64 c2, .bool c3, .int .i64 r] 26 (0, 0)) := by rw [hW]; exact heap_alloc_new _ _
  have hW0 : W.cell? ⟨w.heap.size, 0, none⟩ = some (.int .i64 s) := by simp [World.cell?, hWv]
  have hW1 : W.cell? ⟨w.heap.size, 1, none⟩ = some (.int .i64 c1) := by simp [World.cell?, hWv]
  have hW2 : W.cell? ⟨w.heap.size, 2, none⟩ = some (.int .i64 c2) := by simp [World.cell?, hWv]
  have hW3 : W.cell? ⟨w.heap.size, 3, none⟩ = some (.bool c3) := by simp [World.cell?, hWv]
  have hW4 : W.cell? ⟨w.heap.size, 4, none⟩ = some (.int .i64 r) := by simp [World.cell?, hWv]
  have HWS := Lib.hid hWs; clear hWs hWv
  have HWL := Lib.hid (show w.heap.size ≤ W.heap.size from hxW.size)
  have HST := Lib.hid (Owns.start (α := Ent) (e := 26) (s := 5) (cc := Ent.c) (Ext.refl W))
  have HR := Lib.hid (h.ext (hxW.alloc (.cells #[] 26)))
  have HXA := Lib.hid ((Ext.refl W).alloc (.cells #[] 26))
  have HSB := Lib.hid (show setB xs i ⟨s, c1, c2, c3, r⟩ = entsB (xs.set i ⟨s, c1, c2, c3, r⟩) from rfl)
  have HSL := Lib.hid (show setL xs i ⟨s, c1, c2, c3, r⟩ = if entsB (xs.set i ⟨s, c1, c2, c3, r⟩) then xs.set i ⟨s, c1, c2, c3, r⟩ else [] from rfl)
  have hLl : (xs.set i (⟨s, c1, c2, c3, r⟩ : Ent)).length = xs.length := by rw [List.length_set]
  have HLl := Lib.hid hLl; clear hLl
  have HNIL := Lib.hid (show xs = [] ++ xs from rfl)
  have hin0 : (0 : Int) ≤ (i : Int) := by omega
  have hin1 : (i : Int) < (xs.length : Int) := by omega
  have HW := Lib.hid hW; clear hW h
  go_enter Try.func55, Try.ntmps55
  go_upto_region 1 with fail
  rw [← HW.out]
  go_upto_region 2 with (at_builtin; refine wpList_append_form rfl _ _ 24 rfl W 26 i0 _ 5 40 Try.underlying24 hi hz0 hz1 hz2 rfl (by decide) Ent.c ent_cells (.slice (some ⟨W.heap.size, 0, none⟩) 0 0) [] xs xs HNIL rfl HST.out ⟨b, off, none⟩ xs.length cap rfl rfl HR.out (by simp; omega) (by simp; omega) HXA.out ?_; intro go1 gc1 w3 ho3 hx3 hg3 hv3; have HO := Lib.hid ho3; have HX := Lib.hid hx3; have HV := Lib.hid hv3; clear ho3 hx3 hg3 hv3)
  obtain ⟨g, rfl, _⟩ := own_at HO.out HV.out
  obtain ⟨a2, cp2, e2, hf2, _, _, _⟩ := HO.out.fresh
  injection e2 with e2 _ e3
  subst e2 e3
  have hc := cells_of_row (by decide) hf2.row
  have hgb : W.heap.size ≤ g := (hf2.base _ rfl).1
  have hgl : g < w3.heap.size := (hf2.base _ rfl).2
  have d0 := HX.out.cells hW0
  have d1 := HX.out.cells hW1
  have d2 := HX.out.cells hW2
  have d3 := HX.out.cells hW3
  have d4 := HX.out.cells hW4
  have hsome : ∀ j, j < 5 → ∃ u, w3.cell? ⟨g, i * 5 + j, none⟩ = some u := fun j hj => by
    rw [hc _ (by omega), List.getElem?_eq_getElem (by rw [fl_length]; omega)]; exact ⟨_, rfl⟩
  obtain ⟨u0, e0⟩ := hsome 0 (by decide)
  obtain ⟨u1, e1⟩ := hsome 1 (by decide)
  obtain ⟨u2, e2⟩ := hsome 2 (by decide)
  obtain ⟨u3, e3⟩ := hsome 3 (by decide)
  obtain ⟨u4, e4⟩ := hsome 4 (by decide)
  simp only [Nat.add_zero] at e0
  have f0 := hf2.free g 0 rfl (i * 5)
  have f1 := hf2.free g 0 rfl (i * 5 + 1)
  have f2 := hf2.free g 0 rfl (i * 5 + 2)
  have f3 := hf2.free g 0 rfl (i * 5 + 3)
  have f4 := hf2.free g 0 rfl (i * 5 + 4)
  have HF := Lib.hid (hf2.store (by decide) hi0 (⟨s, c1, c2, c3, r⟩ : Ent) (vs := [.int .i64 s, .int .i64 c1, .int .i64 c2, .bool c3, .int .i64 r]) rfl)
  have HXS := Lib.hid (hxW.trans (ext_setCells HX.out hgb (i * 5) [.int .i64 s, .int .i64 c1, .int .i64 c2, .bool c3, .int .i64 r]))
  have hne : ¬ g = w.heap.size := by have := HWS.out; omega
  clear hsome hc hf2
  have HF2 := Lib.hid (show FreshAt W.heap.size (((((w3.setCell ⟨g, i * 5, none⟩ (.int .i64 s)).setCell ⟨g, i * 5 + 1, none⟩ (.int .i64 c1)).setCell ⟨g, i * 5 + 2, none⟩ (.int .i64 c2)).setCell ⟨g, i * 5 + 3, none⟩ (.bool c3)).setCell ⟨g, i * 5 + 4, none⟩ (.int .i64 r)) (some ⟨g, 0, none⟩) 5 (xs.set i (⟨s, c1, c2, c3, r⟩ : Ent)).length (fun k => (nth (xs.set i (⟨s, c1, c2, c3, r⟩ : Ent)) k).c) from HF.out)
  have HX2 := Lib.hid (show Ext w (((((w3.setCell ⟨g, i * 5, none⟩ (.int .i64 s)).setCell ⟨g, i * 5 + 1, none⟩ (.int .i64 c1)).setCell ⟨g, i * 5 + 2, none⟩ (.int .i64 c2)).setCell ⟨g, i * 5 + 3, none⟩ (.bool c3)).setCell ⟨g, i * 5 + 4, none⟩ (.int .i64 r)) from HXS.out)
  clear HF HXS
  generalize xs.set i (⟨s, c1, c2, c3, r⟩ : Ent) = L at HF2 HSB HSL HLl
  cases ht : entsB L
  all_goals
    have HT := Lib.hid ht; clear ht
    go_wp2_with fail
    generalize ((((w3.setCell ⟨g, i * 5, none⟩ (.int .i64 s)).setCell ⟨g, i * 5 + 1, none⟩ (.int .i64 c1)).setCell ⟨g, i * 5 + 2, none⟩ (.int .i64 c2)).setCell ⟨g, i * 5 + 3, none⟩ (.bool c3)).setCell ⟨g, i * 5 + 4, none⟩ (.int .i64 r) = wy at HF2 HX2 ⊢
    rw [← HLl.out]
    refine (spec_l11Good HF2.out.row (by rw [HLl.out]; omega)).mono ?_; rw [HT.out]; rintro e w5 ⟨rfl, hx5⟩
    have HX5 := Lib.hid (HX2.out.trans hx5)
    have HF5 := Lib.hid ((HF2.out.ext hx5).mono HWL.out)
    clear hx5
    go_wp2
    go_ret2
    rw [HSL.out, HSB.out, HT.out]
  · exact .mk _ 0 rfl (HX5.out.alloc _) (fresh_lit0 HX5.out.size)
  · exact .mk _ _ rfl HX5.out HF5.out

set_option maxRecDepth 100000 in
set_option maxHeartbeats 1000000 in
theorem impl_ChangeClass {b off cap : Nat} {xs : List Ent} {x c d : Int} {w : World} (h : RowAt w (some ⟨b, off, none⟩) 5 xs.length (fun k => (nth xs k).c)) (hs : xs.length ≤ 1048576) :
    Calls Try.prog 20 #[.slice (some ⟨b, off, none⟩) xs.length cap, .int .i64 x, .int .i64 c, .int .i64 d] w (ResE w (chgL xs x c d) (chgB xs x c d)) := by
  have no : chgB0 xs x d = false → chgL xs x c d = [] ∧ chgB xs x c d = false := fun e => by unfold chgL chgB; rw [e]; exact ⟨rfl, rfl⟩
  have yes : chgB0 xs x d = true → chgL xs x c d = setL xs (entIx xs x).toNat (chgE xs x c d) ∧ chgB xs x c d = setB xs (entIx xs x).toNat (chgE xs x c d) := fun e => by unfold chgL chgB; rw [e]; exact ⟨rfl, by simp⟩
  have HIX := Lib.hid (impl_entryIndex (cap := cap) (x := x) h (by omega))
  have HG := Lib.hid (fun y (hy : Ext w y) => impl_AreEntries (cap := cap) (h.ext hy) (by omega))
  have HB0 := Lib.hid (show chgB0 xs x d = (entsB xs && (decide (0 ≤ entIx xs x) && decide ((nth xs (entIx xs x).toNat).day ≤ d))) from rfl)
  have HNO := Lib.hid no; have HYES := Lib.hid yes; clear no yes
  go_enter Try.func20, Try.ntmps20
  go_wp2_with fail
  refine HIX.out.mono ?_; rintro e w1 ⟨rfl, hx1⟩
  have HX1 := Lib.hid hx1
  cases hv : entsB xs
  · have HV := Lib.hid hv; clear hv
    obtain ⟨n1, n2⟩ := HNO.out (by rw [HB0.out, HV.out]; rfl)
    have HN1 := Lib.hid n1; have HN2 := Lib.hid n2; clear n1 n2
    go_wp2_with fail
    refine (HG.out _ HX1.out).mono ?_; rw [HV.out]; rintro e w2 ⟨rfl, hx2⟩
    have HX2 := Lib.hid (HX1.out.trans hx2)
    clear hx1 hx2
    go_wp2
    go_ret2
    rw [HN1.out, HN2.out]
    exact .mk none 0 rfl HX2.out freshE_nil
  · have HV := Lib.hid hv; clear hv
    rcases entIx_cases xs x with hix | ⟨i, hil, hix⟩
    · obtain ⟨n1, n2⟩ := HNO.out (by rw [HB0.out, HV.out, hix]; rfl)
      have HN1 := Lib.hid n1; have HN2 := Lib.hid n2; clear n1 n2
      rw [hix]
      clear hix
      go_wp2_with fail
      refine (HG.out _ HX1.out).mono ?_; rw [HV.out]; rintro e w2 ⟨rfl, hx2⟩
      have HX2 := Lib.hid (HX1.out.trans hx2)
      clear hx1 hx2
      go_wp2
      go_ret2
      rw [HN1.out, HN2.out]
      exact .mk none 0 rfl HX2.out freshE_nil
    · have hn : (entIx xs x).toNat = i := by rw [hix]; simp
      have HN := Lib.hid hn; clear hn
      have HIXE := Lib.hid hix
      rw [hix]
      clear hix
      have hin0 : (0 : Int) ≤ (i : Int) := by omega
      have hin1 : (i : Int) < (xs.length : Int) := by omega
      have hok := entB_ok (entsB_at HV.out hil)
      have HOK := Lib.hid hok
      clear hok
      obtain ⟨b', off', e, hcell⟩ := h (by omega)
      injection e with e; injection e with e1 e2; subst e1 e2
      have HC := Lib.hid (hcell i hil)
      have HEQ := Lib.hid (show (nth xs i) = ⟨(nth xs i).runner, (nth xs i).cls, (nth xs i).day, (nth xs i).rent, (nth xs i).paid⟩ from rfl)
      have HSW := Lib.hid (fun y (hy : Ext w y) s c1 c2 c3 r => impl_withEntry (cap := cap) (i := i) (s := s) (c1 := c1) (c2 := c2) (c3 := c3) (r := r) (h.ext hy) hs hil)
      have HTS := Lib.hid (show chgB0 xs x d = decide ((nth xs i).day ≤ d) from by rw [HB0.out, HV.out, HIXE.out]; simp)
      clear hcell
      go_wp2_with fail
      refine (HG.out _ HX1.out).mono ?_; rw [HV.out]; rintro e w2 ⟨rfl, hx2⟩
      have HX2 := Lib.hid (HX1.out.trans hx2)
      have d0 := HX2.out.cells (HC.out 0 (by decide))
      have d1 := HX2.out.cells (HC.out 1 (by decide))
      have d2 := HX2.out.cells (HC.out 2 (by decide))
      have d3 := HX2.out.cells (HC.out 3 (by decide))
      have d4 := HX2.out.cells (HC.out 4 (by decide))
      simp only [Ent.c0, Ent.c1, Ent.c2, Ent.c3, Ent.c4, Nat.add_zero] at d0 d1 d2 d3 d4
      clear hx1 hx2
      cases ht : decide ((nth xs i).day ≤ d)
      · have HT := Lib.hid ht
        obtain ⟨n1, n2⟩ := HNO.out (by rw [HTS.out]; exact ht)
        have HN1 := Lib.hid n1; have HN2 := Lib.hid n2; clear n1 n2
        have hdd : ¬ (nth xs i).day ≤ d := by simpa using ht
        clear ht
        go_wp2
        go_ret2
        rw [HN1.out, HN2.out]
        exact .mk none 0 rfl HX2.out freshE_nil
      · obtain ⟨n1, n2⟩ := HYES.out (by rw [HTS.out]; exact ht)
        rw [HN.out] at n1 n2
        have HN1 := Lib.hid n1; have HN2 := Lib.hid n2; clear n1 n2
        have hdd : (nth xs i).day ≤ d := by simpa using ht
        clear ht
        have HE := Lib.hid (show chgE xs x c d = ⟨(nth xs i).runner, c, d, (nth xs i).rent, (nth xs i).paid⟩ from by unfold chgE; rw [HN.out])
        have HSX := Lib.hid (fun y (hy : Ext w y) => HSW.out y hy (nth xs i).runner c d (nth xs i).rent (nth xs i).paid)
        clear HSW
        rw [HE.out] at HN1 HN2
        generalize setL xs i ⟨(nth xs i).runner, c, d, (nth xs i).rent, (nth xs i).paid⟩ = L at HSX HN1
        generalize setB xs i ⟨(nth xs i).runner, c, d, (nth xs i).rent, (nth xs i).paid⟩ = B at HSX HN2
        have hsz := HX2.out.size
        go_wp2_with fail
        refine (HSX.out _ ?_).mono ?_
        · have hx2 := HX2.out
          exact (by repeat (first | (with_reducible exact Ext.refl _) | (with_reducible assumption) | with_reducible refine Ext.drew ?_ | with_reducible refine Ext.alloc ?_ _ | with_reducible refine Ext.setCell ?_ (by first | (simp; done) | (simp; omega) | omega) _ | with_reducible refine Ext.trans ?_ (by with_reducible assumption)))
        rintro e w5 ⟨bo, bc, rfl, hx5, hF5⟩
        have HX5 := Lib.hid (show Ext w w5 from by
          refine Ext.trans ?_ hx5
          have hx2 := HX2.out
          exact (by repeat (first | (with_reducible exact Ext.refl _) | (with_reducible assumption) | with_reducible refine Ext.drew ?_ | with_reducible refine Ext.alloc ?_ _ | with_reducible refine Ext.setCell ?_ (by first | (simp; done) | (simp; omega) | omega) _ | with_reducible refine Ext.trans ?_ (by with_reducible assumption))))
        have HF5 := Lib.hid (show FreshAt w.heap.size w5 bo 5 L.length (fun k => (nth L k).c) from hF5.mono (by have := HX2.out.size; simp; omega))
        clear hx5 hF5
        go_wp2
        go_ret2
        rw [HN1.out, HN2.out]
        exact .mk _ _ rfl HX5.out HF5.out

set_option maxRecDepth 100000 in
set_option maxHeartbeats 1000000 in
theorem spec_ChangeClass {b off cap : Nat} {xs : List Ent} {x c d : Int} {w : World} (h : RowAt w (some ⟨b, off, none⟩) 5 xs.length (fun k => (nth xs k).c)) (hs : xs.length ≤ 1048576) :
    Calls Try.prog 21 #[.slice (some ⟨b, off, none⟩) xs.length cap, .int .i64 x, .int .i64 c, .int .i64 d] w (ResE w (chgL xs x c d) (chgB xs x c d)) := by
  have no : chgB0 xs x d = false → chgL xs x c d = [] ∧ chgB xs x c d = false := fun e => by unfold chgL chgB; rw [e]; exact ⟨rfl, rfl⟩
  have yes : chgB0 xs x d = true → chgL xs x c d = setL xs (entIx xs x).toNat (chgE xs x c d) ∧ chgB xs x c d = setB xs (entIx xs x).toNat (chgE xs x c d) := fun e => by unfold chgL chgB; rw [e]; exact ⟨rfl, by simp⟩
  have HIX := Lib.hid (spec_l11Find (cap := cap) (x := x) h (by omega))
  have HG := Lib.hid (fun y (hy : Ext w y) => spec_l11Good (cap := cap) (h.ext hy) (by omega))
  have HB0 := Lib.hid (show chgB0 xs x d = (entsB xs && (decide (0 ≤ entIx xs x) && decide ((nth xs (entIx xs x).toNat).day ≤ d))) from rfl)
  have HNO := Lib.hid no; have HYES := Lib.hid yes; clear no yes
  go_enter Try.func21, Try.ntmps21
  go_wp2_with fail
  refine HIX.out.mono ?_; rintro e w1 ⟨rfl, hx1⟩
  have HX1 := Lib.hid hx1
  cases hv : entsB xs
  · have HV := Lib.hid hv; clear hv
    obtain ⟨n1, n2⟩ := HNO.out (by rw [HB0.out, HV.out]; rfl)
    have HN1 := Lib.hid n1; have HN2 := Lib.hid n2; clear n1 n2
    go_wp2_with fail
    refine (HG.out _ HX1.out).mono ?_; rw [HV.out]; rintro e w2 ⟨rfl, hx2⟩
    have HX2 := Lib.hid (HX1.out.trans hx2)
    clear hx1 hx2
    go_wp2
    go_ret2
    rw [HN1.out, HN2.out]
    exact .mk _ 0 rfl (HX2.out.alloc _) (fresh_lit0 HX2.out.size)
  · have HV := Lib.hid hv; clear hv
    rcases entIx_cases xs x with hix | ⟨i, hil, hix⟩
    · obtain ⟨n1, n2⟩ := HNO.out (by rw [HB0.out, HV.out, hix]; rfl)
      have HN1 := Lib.hid n1; have HN2 := Lib.hid n2; clear n1 n2
      rw [hix]
      clear hix
      go_wp2_with fail
      refine (HG.out _ HX1.out).mono ?_; rw [HV.out]; rintro e w2 ⟨rfl, hx2⟩
      have HX2 := Lib.hid (HX1.out.trans hx2)
      clear hx1 hx2
      go_wp2
      go_ret2
      rw [HN1.out, HN2.out]
      exact .mk _ 0 rfl (HX2.out.alloc _) (fresh_lit0 HX2.out.size)
    · have hn : (entIx xs x).toNat = i := by rw [hix]; simp
      have HN := Lib.hid hn; clear hn
      have HIXE := Lib.hid hix
      rw [hix]
      clear hix
      have hin0 : (0 : Int) ≤ (i : Int) := by omega
      have hin1 : (i : Int) < (xs.length : Int) := by omega
      have hok := entB_ok (entsB_at HV.out hil)
      have HOK := Lib.hid hok
      clear hok
      obtain ⟨b', off', e, hcell⟩ := h (by omega)
      injection e with e; injection e with e1 e2; subst e1 e2
      have HC := Lib.hid (hcell i hil)
      have HEQ := Lib.hid (show (nth xs i) = ⟨(nth xs i).runner, (nth xs i).cls, (nth xs i).day, (nth xs i).rent, (nth xs i).paid⟩ from rfl)
      have HSW := Lib.hid (fun y (hy : Ext w y) s c1 c2 c3 r => spec_l11With (cap := cap) (i := i) (s := s) (c1 := c1) (c2 := c2) (c3 := c3) (r := r) (h.ext hy) hs hil)
      have HTS := Lib.hid (show chgB0 xs x d = decide ((nth xs i).day ≤ d) from by rw [HB0.out, HV.out, HIXE.out]; simp)
      clear hcell
      go_wp2_with fail
      refine (HG.out _ HX1.out).mono ?_; rw [HV.out]; rintro e w2 ⟨rfl, hx2⟩
      have HX2 := Lib.hid (HX1.out.trans hx2)
      have d0 := HX2.out.cells (HC.out 0 (by decide))
      have d1 := HX2.out.cells (HC.out 1 (by decide))
      have d2 := HX2.out.cells (HC.out 2 (by decide))
      have d3 := HX2.out.cells (HC.out 3 (by decide))
      have d4 := HX2.out.cells (HC.out 4 (by decide))
      simp only [Ent.c0, Ent.c1, Ent.c2, Ent.c3, Ent.c4, Nat.add_zero] at d0 d1 d2 d3 d4
      clear hx1 hx2
      cases ht : decide ((nth xs i).day ≤ d)
      · have HT := Lib.hid ht
        obtain ⟨n1, n2⟩ := HNO.out (by rw [HTS.out]; exact ht)
        have HN1 := Lib.hid n1; have HN2 := Lib.hid n2; clear n1 n2
        have hdd : ¬ (nth xs i).day ≤ d := by simpa using ht
        clear ht
        go_wp2
        go_ret2
        rw [HN1.out, HN2.out]
        exact .mk _ 0 rfl (HX2.out.alloc _) (fresh_lit0 HX2.out.size)
      · obtain ⟨n1, n2⟩ := HYES.out (by rw [HTS.out]; exact ht)
        rw [HN.out] at n1 n2
        have HN1 := Lib.hid n1; have HN2 := Lib.hid n2; clear n1 n2
        have hdd : (nth xs i).day ≤ d := by simpa using ht
        clear ht
        have HE := Lib.hid (show chgE xs x c d = ⟨(nth xs i).runner, c, d, (nth xs i).rent, (nth xs i).paid⟩ from by unfold chgE; rw [HN.out])
        have HSX := Lib.hid (fun y (hy : Ext w y) => HSW.out y hy (nth xs i).runner c d (nth xs i).rent (nth xs i).paid)
        clear HSW
        rw [HE.out] at HN1 HN2
        generalize setL xs i ⟨(nth xs i).runner, c, d, (nth xs i).rent, (nth xs i).paid⟩ = L at HSX HN1
        generalize setB xs i ⟨(nth xs i).runner, c, d, (nth xs i).rent, (nth xs i).paid⟩ = B at HSX HN2
        have hsz := HX2.out.size
        go_wp2_with fail
        refine (HSX.out _ ?_).mono ?_
        · have hx2 := HX2.out
          exact (by repeat (first | (with_reducible exact Ext.refl _) | (with_reducible assumption) | with_reducible refine Ext.drew ?_ | with_reducible refine Ext.alloc ?_ _ | with_reducible refine Ext.setCell ?_ (by first | (simp; done) | (simp; omega) | omega) _ | with_reducible refine Ext.trans ?_ (by with_reducible assumption)))
        rintro e w5 ⟨bo, bc, rfl, hx5, hF5⟩
        have HX5 := Lib.hid (show Ext w w5 from by
          refine Ext.trans ?_ hx5
          have hx2 := HX2.out
          exact (by repeat (first | (with_reducible exact Ext.refl _) | (with_reducible assumption) | with_reducible refine Ext.drew ?_ | with_reducible refine Ext.alloc ?_ _ | with_reducible refine Ext.setCell ?_ (by first | (simp; done) | (simp; omega) | omega) _ | with_reducible refine Ext.trans ?_ (by with_reducible assumption))))
        have HF5 := Lib.hid (show FreshAt w.heap.size w5 bo 5 L.length (fun k => (nth L k).c) from hF5.mono (by have := HX2.out.size; simp; omega))
        clear hx5 hF5
        go_wp2
        go_ret2
        rw [HN1.out, HN2.out]
        exact .mk _ _ rfl HX5.out HF5.out

set_option maxRecDepth 100000 in
set_option maxHeartbeats 1000000 in
theorem impl_PayEntry {b off cap : Nat} {xs : List Ent} {x p : Int} {w : World} (h : RowAt w (some ⟨b, off, none⟩) 5 xs.length (fun k => (nth xs k).c)) (hs : xs.length ≤ 1048576) :
    Calls Try.prog 23 #[.slice (some ⟨b, off, none⟩) xs.length cap, .int .i64 x, .int .i64 p] w (ResE w (payL xs x p) (payB xs x p)) := by
  have no : payB0 xs x p = false → payL xs x p = [] ∧ payB xs x p = false := fun e => by unfold payL payB; rw [e]; exact ⟨rfl, rfl⟩
  have yes : payB0 xs x p = true → payL xs x p = setL xs (entIx xs x).toNat (payE xs x p) ∧ payB xs x p = setB xs (entIx xs x).toNat (payE xs x p) := fun e => by unfold payL payB; rw [e]; exact ⟨rfl, by simp⟩
  have HIX := Lib.hid (impl_entryIndex (cap := cap) (x := x) h (by omega))
  have HG := Lib.hid (fun y (hy : Ext w y) => impl_AreEntries (cap := cap) (h.ext hy) (by omega))
  have HB0 := Lib.hid (show payB0 xs x p = (entsB xs && (decide (0 ≤ entIx xs x) && inB p 1 100000)) from rfl)
  have HNO := Lib.hid no; have HYES := Lib.hid yes; clear no yes
  go_enter Try.func23, Try.ntmps23
  go_wp2_with fail
  refine HIX.out.mono ?_; rintro e w1 ⟨rfl, hx1⟩
  have HX1 := Lib.hid hx1
  cases hv : entsB xs
  · have HV := Lib.hid hv; clear hv
    obtain ⟨n1, n2⟩ := HNO.out (by rw [HB0.out, HV.out]; rfl)
    have HN1 := Lib.hid n1; have HN2 := Lib.hid n2; clear n1 n2
    go_wp2_with fail
    refine (HG.out _ HX1.out).mono ?_; rw [HV.out]; rintro e w2 ⟨rfl, hx2⟩
    have HX2 := Lib.hid (HX1.out.trans hx2)
    clear hx1 hx2
    go_wp2
    go_ret2
    rw [HN1.out, HN2.out]
    exact .mk none 0 rfl HX2.out freshE_nil
  · have HV := Lib.hid hv; clear hv
    rcases entIx_cases xs x with hix | ⟨i, hil, hix⟩
    · obtain ⟨n1, n2⟩ := HNO.out (by rw [HB0.out, HV.out, hix]; rfl)
      have HN1 := Lib.hid n1; have HN2 := Lib.hid n2; clear n1 n2
      rw [hix]
      clear hix
      go_wp2_with fail
      refine (HG.out _ HX1.out).mono ?_; rw [HV.out]; rintro e w2 ⟨rfl, hx2⟩
      have HX2 := Lib.hid (HX1.out.trans hx2)
      clear hx1 hx2
      go_wp2
      go_ret2
      rw [HN1.out, HN2.out]
      exact .mk none 0 rfl HX2.out freshE_nil
    · have hn : (entIx xs x).toNat = i := by rw [hix]; simp
      have HN := Lib.hid hn; clear hn
      have HIXE := Lib.hid hix
      rw [hix]
      clear hix
      have hin0 : (0 : Int) ≤ (i : Int) := by omega
      have hin1 : (i : Int) < (xs.length : Int) := by omega
      have hok := entB_ok (entsB_at HV.out hil)
      have HOK := Lib.hid hok
      clear hok
      obtain ⟨b', off', e, hcell⟩ := h (by omega)
      injection e with e; injection e with e1 e2; subst e1 e2
      have HC := Lib.hid (hcell i hil)
      have HEQ := Lib.hid (show (nth xs i) = ⟨(nth xs i).runner, (nth xs i).cls, (nth xs i).day, (nth xs i).rent, (nth xs i).paid⟩ from rfl)
      have HSW := Lib.hid (fun y (hy : Ext w y) s c1 c2 c3 r => impl_withEntry (cap := cap) (i := i) (s := s) (c1 := c1) (c2 := c2) (c3 := c3) (r := r) (h.ext hy) hs hil)
      have HTS := Lib.hid (show payB0 xs x p = inB p 1 100000 from by rw [HB0.out, HV.out, HIXE.out]; simp)
      clear hcell
      go_wp2_with fail
      refine (HG.out _ HX1.out).mono ?_; rw [HV.out]; rintro e w2 ⟨rfl, hx2⟩
      have HX2 := Lib.hid (HX1.out.trans hx2)
      have d0 := HX2.out.cells (HC.out 0 (by decide))
      have d1 := HX2.out.cells (HC.out 1 (by decide))
      have d2 := HX2.out.cells (HC.out 2 (by decide))
      have d3 := HX2.out.cells (HC.out 3 (by decide))
      have d4 := HX2.out.cells (HC.out 4 (by decide))
      simp only [Ent.c0, Ent.c1, Ent.c2, Ent.c3, Ent.c4, Nat.add_zero] at d0 d1 d2 d3 d4
      clear hx1 hx2
      cases ht : inB p 1 100000
      · have HT := Lib.hid ht
        obtain ⟨n1, n2⟩ := HNO.out (by rw [HTS.out]; exact ht)
        have HN1 := Lib.hid n1; have HN2 := Lib.hid n2; clear n1 n2
        go_wp2_with fail
        refine (impl_inside).mono ?_; rw [HT.out]; rintro e w4 ⟨rfl, rfl⟩
        go_wp2
        go_ret2
        rw [HN1.out, HN2.out]
        exact .mk none 0 rfl HX2.out freshE_nil
      · obtain ⟨n1, n2⟩ := HYES.out (by rw [HTS.out]; exact ht)
        rw [HN.out] at n1 n2
        have HN1 := Lib.hid n1; have HN2 := Lib.hid n2; clear n1 n2
        have HT := Lib.hid ht
        have hp := inB_iff.1 HT.out
        have hp0 := hp.1
        have hp1 := hp.2
        have hq0 := HOK.out.p.1
        have hq1 := HOK.out.p.2
        clear hp ht
        have HE := Lib.hid (show payE xs x p = ⟨(nth xs i).runner, (nth xs i).cls, (nth xs i).day, (nth xs i).rent, (nth xs i).paid + p⟩ from by unfold payE; rw [HN.out])
        have HSX := Lib.hid (fun y (hy : Ext w y) => HSW.out y hy (nth xs i).runner (nth xs i).cls (nth xs i).day (nth xs i).rent ((nth xs i).paid + p))
        clear HSW
        rw [HE.out] at HN1 HN2
        generalize setL xs i ⟨(nth xs i).runner, (nth xs i).cls, (nth xs i).day, (nth xs i).rent, (nth xs i).paid + p⟩ = L at HSX HN1
        generalize setB xs i ⟨(nth xs i).runner, (nth xs i).cls, (nth xs i).day, (nth xs i).rent, (nth xs i).paid + p⟩ = B at HSX HN2
        have hsz := HX2.out.size
        go_wp2_with fail
        refine (impl_inside).mono ?_; rw [HT.out]; rintro e w4 ⟨rfl, rfl⟩
        go_wp2_with fail
        refine (HSX.out _ ?_).mono ?_
        · have hx2 := HX2.out
          exact (by repeat (first | (with_reducible exact Ext.refl _) | (with_reducible assumption) | with_reducible refine Ext.drew ?_ | with_reducible refine Ext.alloc ?_ _ | with_reducible refine Ext.setCell ?_ (by first | (simp; done) | (simp; omega) | omega) _ | with_reducible refine Ext.trans ?_ (by with_reducible assumption)))
        rintro e w5 ⟨bo, bc, rfl, hx5, hF5⟩
        have HX5 := Lib.hid (show Ext w w5 from by
          refine Ext.trans ?_ hx5
          have hx2 := HX2.out
          exact (by repeat (first | (with_reducible exact Ext.refl _) | (with_reducible assumption) | with_reducible refine Ext.drew ?_ | with_reducible refine Ext.alloc ?_ _ | with_reducible refine Ext.setCell ?_ (by first | (simp; done) | (simp; omega) | omega) _ | with_reducible refine Ext.trans ?_ (by with_reducible assumption))))
        have HF5 := Lib.hid (show FreshAt w.heap.size w5 bo 5 L.length (fun k => (nth L k).c) from hF5.mono (by have := HX2.out.size; simp; omega))
        clear hx5 hF5
        go_wp2
        go_ret2
        rw [HN1.out, HN2.out]
        exact .mk _ _ rfl HX5.out HF5.out

set_option maxRecDepth 100000 in
set_option maxHeartbeats 1000000 in
theorem spec_PayEntry {b off cap : Nat} {xs : List Ent} {x p : Int} {w : World} (h : RowAt w (some ⟨b, off, none⟩) 5 xs.length (fun k => (nth xs k).c)) (hs : xs.length ≤ 1048576) :
    Calls Try.prog 24 #[.slice (some ⟨b, off, none⟩) xs.length cap, .int .i64 x, .int .i64 p] w (ResE w (payL xs x p) (payB xs x p)) := by
  have no : payB0 xs x p = false → payL xs x p = [] ∧ payB xs x p = false := fun e => by unfold payL payB; rw [e]; exact ⟨rfl, rfl⟩
  have yes : payB0 xs x p = true → payL xs x p = setL xs (entIx xs x).toNat (payE xs x p) ∧ payB xs x p = setB xs (entIx xs x).toNat (payE xs x p) := fun e => by unfold payL payB; rw [e]; exact ⟨rfl, by simp⟩
  have HIX := Lib.hid (spec_l11Find (cap := cap) (x := x) h (by omega))
  have HG := Lib.hid (fun y (hy : Ext w y) => spec_l11Good (cap := cap) (h.ext hy) (by omega))
  have HB0 := Lib.hid (show payB0 xs x p = (entsB xs && (decide (0 ≤ entIx xs x) && inB p 1 100000)) from rfl)
  have HNO := Lib.hid no; have HYES := Lib.hid yes; clear no yes
  go_enter Try.func24, Try.ntmps24
  go_wp2_with fail
  refine HIX.out.mono ?_; rintro e w1 ⟨rfl, hx1⟩
  have HX1 := Lib.hid hx1
  cases hv : entsB xs
  · have HV := Lib.hid hv; clear hv
    obtain ⟨n1, n2⟩ := HNO.out (by rw [HB0.out, HV.out]; rfl)
    have HN1 := Lib.hid n1; have HN2 := Lib.hid n2; clear n1 n2
    go_wp2_with fail
    refine (HG.out _ HX1.out).mono ?_; rw [HV.out]; rintro e w2 ⟨rfl, hx2⟩
    have HX2 := Lib.hid (HX1.out.trans hx2)
    clear hx1 hx2
    go_wp2
    go_ret2
    rw [HN1.out, HN2.out]
    exact .mk _ 0 rfl (HX2.out.alloc _) (fresh_lit0 HX2.out.size)
  · have HV := Lib.hid hv; clear hv
    rcases entIx_cases xs x with hix | ⟨i, hil, hix⟩
    · obtain ⟨n1, n2⟩ := HNO.out (by rw [HB0.out, HV.out, hix]; rfl)
      have HN1 := Lib.hid n1; have HN2 := Lib.hid n2; clear n1 n2
      rw [hix]
      clear hix
      go_wp2_with fail
      refine (HG.out _ HX1.out).mono ?_; rw [HV.out]; rintro e w2 ⟨rfl, hx2⟩
      have HX2 := Lib.hid (HX1.out.trans hx2)
      clear hx1 hx2
      go_wp2
      go_ret2
      rw [HN1.out, HN2.out]
      exact .mk _ 0 rfl (HX2.out.alloc _) (fresh_lit0 HX2.out.size)
    · have hn : (entIx xs x).toNat = i := by rw [hix]; simp
      have HN := Lib.hid hn; clear hn
      have HIXE := Lib.hid hix
      rw [hix]
      clear hix
      have hin0 : (0 : Int) ≤ (i : Int) := by omega
      have hin1 : (i : Int) < (xs.length : Int) := by omega
      have hok := entB_ok (entsB_at HV.out hil)
      have HOK := Lib.hid hok
      clear hok
      obtain ⟨b', off', e, hcell⟩ := h (by omega)
      injection e with e; injection e with e1 e2; subst e1 e2
      have HC := Lib.hid (hcell i hil)
      have HEQ := Lib.hid (show (nth xs i) = ⟨(nth xs i).runner, (nth xs i).cls, (nth xs i).day, (nth xs i).rent, (nth xs i).paid⟩ from rfl)
      have HSW := Lib.hid (fun y (hy : Ext w y) s c1 c2 c3 r => spec_l11With (cap := cap) (i := i) (s := s) (c1 := c1) (c2 := c2) (c3 := c3) (r := r) (h.ext hy) hs hil)
      have HTS := Lib.hid (show payB0 xs x p = inB p 1 100000 from by rw [HB0.out, HV.out, HIXE.out]; simp)
      clear hcell
      go_wp2_with fail
      refine (HG.out _ HX1.out).mono ?_; rw [HV.out]; rintro e w2 ⟨rfl, hx2⟩
      have HX2 := Lib.hid (HX1.out.trans hx2)
      have d0 := HX2.out.cells (HC.out 0 (by decide))
      have d1 := HX2.out.cells (HC.out 1 (by decide))
      have d2 := HX2.out.cells (HC.out 2 (by decide))
      have d3 := HX2.out.cells (HC.out 3 (by decide))
      have d4 := HX2.out.cells (HC.out 4 (by decide))
      simp only [Ent.c0, Ent.c1, Ent.c2, Ent.c3, Ent.c4, Nat.add_zero] at d0 d1 d2 d3 d4
      clear hx1 hx2
      cases ht : inB p 1 100000
      · have HT := Lib.hid ht
        obtain ⟨n1, n2⟩ := HNO.out (by rw [HTS.out]; exact ht)
        have HN1 := Lib.hid n1; have HN2 := Lib.hid n2; clear n1 n2
        go_wp2_with fail
        refine (spec_l1In).mono ?_; rw [HT.out]; rintro e w4 ⟨rfl, rfl⟩
        go_wp2
        go_ret2
        rw [HN1.out, HN2.out]
        exact .mk _ 0 rfl (HX2.out.alloc _) (fresh_lit0 HX2.out.size)
      · obtain ⟨n1, n2⟩ := HYES.out (by rw [HTS.out]; exact ht)
        rw [HN.out] at n1 n2
        have HN1 := Lib.hid n1; have HN2 := Lib.hid n2; clear n1 n2
        have HT := Lib.hid ht
        have hp := inB_iff.1 HT.out
        have hp0 := hp.1
        have hp1 := hp.2
        have hq0 := HOK.out.p.1
        have hq1 := HOK.out.p.2
        clear hp ht
        have HE := Lib.hid (show payE xs x p = ⟨(nth xs i).runner, (nth xs i).cls, (nth xs i).day, (nth xs i).rent, (nth xs i).paid + p⟩ from by unfold payE; rw [HN.out])
        have HSX := Lib.hid (fun y (hy : Ext w y) => HSW.out y hy (nth xs i).runner (nth xs i).cls (nth xs i).day (nth xs i).rent ((nth xs i).paid + p))
        clear HSW
        rw [HE.out] at HN1 HN2
        generalize setL xs i ⟨(nth xs i).runner, (nth xs i).cls, (nth xs i).day, (nth xs i).rent, (nth xs i).paid + p⟩ = L at HSX HN1
        generalize setB xs i ⟨(nth xs i).runner, (nth xs i).cls, (nth xs i).day, (nth xs i).rent, (nth xs i).paid + p⟩ = B at HSX HN2
        have hsz := HX2.out.size
        go_wp2_with fail
        refine (spec_l1In).mono ?_; rw [HT.out]; rintro e w4 ⟨rfl, rfl⟩
        go_wp2_with fail
        refine (HSX.out _ ?_).mono ?_
        · have hx2 := HX2.out
          exact (by repeat (first | (with_reducible exact Ext.refl _) | (with_reducible assumption) | with_reducible refine Ext.drew ?_ | with_reducible refine Ext.alloc ?_ _ | with_reducible refine Ext.setCell ?_ (by first | (simp; done) | (simp; omega) | omega) _ | with_reducible refine Ext.trans ?_ (by with_reducible assumption)))
        rintro e w5 ⟨bo, bc, rfl, hx5, hF5⟩
        have HX5 := Lib.hid (show Ext w w5 from by
          refine Ext.trans ?_ hx5
          have hx2 := HX2.out
          exact (by repeat (first | (with_reducible exact Ext.refl _) | (with_reducible assumption) | with_reducible refine Ext.drew ?_ | with_reducible refine Ext.alloc ?_ _ | with_reducible refine Ext.setCell ?_ (by first | (simp; done) | (simp; omega) | omega) _ | with_reducible refine Ext.trans ?_ (by with_reducible assumption))))
        have HF5 := Lib.hid (show FreshAt w.heap.size w5 bo 5 L.length (fun k => (nth L k).c) from hF5.mono (by have := HX2.out.size; simp; omega))
        clear hx5 hF5
        go_wp2
        go_ret2
        rw [HN1.out, HN2.out]
        exact .mk _ _ rfl HX5.out HF5.out


end Go.Proofs.Ytkejhhflpnfepaa
