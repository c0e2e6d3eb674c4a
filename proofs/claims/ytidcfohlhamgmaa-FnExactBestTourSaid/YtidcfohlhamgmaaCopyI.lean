/-
  Proved here: what copyInts and the reference's l1Own return.
  Conditions: the slice has an address.
-/
import Derived.Test.YtidcfohlhamgmaaForm
import Derived.Test.YtidcfohlhamgmaaOwn3
import Derived.Test.YtidcfohlhamgmaaOwn2
import Derived.Test.YtidcfohlhamgmaaInts
namespace Go.Proofs.Ytidcfohlhamgmaa
open Go.RowKit

set_option maxRecDepth 100000 in
set_option maxHeartbeats 1000000 in
theorem impl_copyInts {ad : Addr} {cap : Nat} {xs : List Int} {w : World} (h : RowAt w (some ad) 1 xs.length (ic xs)) (hs : xs.length ≤ 1048577) :
    Calls Try.prog 71 #[.slice (some ad) xs.length cap] w fun e w' => ∃ g c, e = .returned (.slice (some g) xs.length c) ∧ Ext w w' ∧ Owns w' w.heap.size 3 1 icc (.slice (some g) xs.length c) xs := by
  obtain ⟨i0, hi, hz0, hz1, hz2⟩ := info_parts infoInt
  have HST := Lib.hid (Owns.start' (e := 3) (s := 1) (cc := icc) (Nat.le_refl w.heap.size))
  have HR := Lib.hid (h.ext ((Ext.refl w).alloc (.cells #[] 3)))
  have HXA := Lib.hid ((Ext.refl w).alloc (.cells #[] 3))
  clear h
  go_enter Try.func71, Try.ntmps71
  go_wp2_with (at_builtin; refine wpList_append_bf rfl _ _ 22 rfl 3 i0 _ 1 8 Try.underlying22 hi hz0 hz1 hz2 rfl (by decide) icc icc_one w.heap.size (by simp) (.slice (some ⟨w.heap.size, 0, none⟩) 0 0) [] xs xs (Lib.hid rfl) rfl HST.out ad xs.length cap rfl rfl HR.out (by simp; omega) (by simp; omega) ?_; intro go gc w3 ho3 hb3 hg3 hv3; have HO := Lib.hid ho3; have HX := Lib.hid (Ext.below HXA.out hb3 (Nat.le_refl _)); have HSM : Hid (go ≠ none) := Lib.hid (fun e => by subst e; rcases hv3.out with q | q <;> cases q); clear ho3 hb3 hg3 hv3)
  cases go with
  | none => exact absurd rfl HSM.out
  | some g =>
    go_wp2
    go_ret
    exact ⟨g, gc, rfl, HX.out, HO.out⟩

set_option maxRecDepth 100000 in
set_option maxHeartbeats 1000000 in
theorem spec_l1Own {ad : Addr} {cap : Nat} {xs : List Int} {w : World} (h : RowAt w (some ad) 1 xs.length (ic xs)) (hs : xs.length ≤ 1048577) :
    Calls Try.prog 63 #[.slice (some ad) xs.length cap] w fun e w' => ∃ g c, e = .returned (.slice (some g) xs.length c) ∧ Ext w w' ∧ Owns w' w.heap.size 3 1 icc (.slice (some g) xs.length c) xs := by
  obtain ⟨i0, hi, hz0, hz1, hz2⟩ := info_parts infoInt
  have HST := Lib.hid (Owns.start' (e := 3) (s := 1) (cc := icc) (Nat.le_refl w.heap.size))
  have HR := Lib.hid (h.ext ((Ext.refl w).alloc (.cells #[] 3)))
  have HXA := Lib.hid ((Ext.refl w).alloc (.cells #[] 3))
  clear h
  go_enter Try.func63, Try.ntmps63
  go_wp2_with (at_builtin; refine wpList_append_bf rfl _ _ 22 rfl 3 i0 _ 1 8 Try.underlying22 hi hz0 hz1 hz2 rfl (by decide) icc icc_one w.heap.size (by simp) (.slice (some ⟨w.heap.size, 0, none⟩) 0 0) [] xs xs (Lib.hid rfl) rfl HST.out ad xs.length cap rfl rfl HR.out (by simp; omega) (by simp; omega) ?_; intro go gc w3 ho3 hb3 hg3 hv3; have HO := Lib.hid ho3; have HX := Lib.hid (Ext.below HXA.out hb3 (Nat.le_refl _)); have HSM : Hid (go ≠ none) := Lib.hid (fun e => by subst e; rcases hv3.out with q | q <;> cases q); clear ho3 hb3 hg3 hv3)
  cases go with
  | none => exact absurd rfl HSM.out
  | some g =>
    go_wp2
    go_ret
    exact ⟨g, gc, rfl, HX.out, HO.out⟩

theorem Owns.down {α : Type} {w : World} {base base' : Nat} {e : TypeId} {s : Nat} {cc : α → Nat → Value} {v : Value} {xs : List α} (h : Owns w base e s cc v xs) (hb : base' ≤ base) : Owns w base' e s cc v xs := by
  have h0 : w.ownsRow base e s v xs.length (fl s cc xs) := h
  refine ⟨h0.1, ?_⟩
  rcases h0.2 with hn | ⟨g, cap, cur, e1, e2, e3⟩
  · exact .inl hn
  · exact .inr ⟨g, cap, cur, e1, Nat.le_trans hb e2, e3⟩

end Go.Proofs.Ytidcfohlhamgmaa
