/-
  Proved here: a new cursor; DrawAreClockMarks and DrawTrueTime.
  Conditions: the bytes' length fits an int.
-/
import Derived.Test.YtemencnfackplaaCur3
namespace Go.Proofs.Ytemencnfackplaa
open Go.RowKit

theorem draw_marks {w : World} {co : Option Addr} {m cc : Nat} {bs : Nat → Nat} (hr : RowAt w co 1 m (by8 bs)) (hb : ∀ k, bs k < 256) (hm : m ≤ 9223372036854775807) :
    Calls Try.prog 40 #[.slice co m cc] w fun e w' => ∃ (ao : Option Addr) (cap : Nat) (ms : List Mark), e = .returned (.slice ao ms.length cap) ∧ ms.length ≤ 6 ∧ mksOk ms ∧ FreshAt w.heap.size w' ao 2 ms.length (fun k => (nth ms k).c) ∧ Ext w w' := by
  have H := Lib.hid (fun T => cu_marks (cu_box (cc := cc) (T := T) hr hb hm) (by omega))
  clear hr hb
  go_enter Try.func40, Try.ntmps40
  go_wp2_with fail
  refine (H.out _).mono ?_; rintro e w1 ⟨ao, cap, ms, rfl, hl, hok, hF, _, _, ht⟩
  have HE := Lib.hid (Touch.spanExt ((Ext.refl w).alloc _) ht (Nat.le_refl _))
  have HF := Lib.hid (hF.mono (by simp : w.heap.size ≤ _))
  have HK := Lib.hid hok
  clear hF ht hok H
  go_wp2
  go_ret
  exact ⟨ao, cap, ms, rfl, hl, HK.out, HF.out, HE.out⟩

theorem draw_true {w : World} {co : Option Addr} {m cc : Nat} {bs : Nat → Nat} (hr : RowAt w co 1 m (by8 bs)) (hb : ∀ k, bs k < 256) (hm : m ≤ 9223372036854775807) :
    Calls Try.prog 14 #[.slice co m cc] w fun e w' => ∃ (ao : Option Addr) (cap : Nat) (ms : List Mark) (x : Int), e = .returned (.tuple #[.slice ao ms.length cap, .int .i64 x]) ∧ ms.length ≤ 6 ∧ mksOk ms ∧ (-1 ≤ x ∧ x ≤ 36001) ∧ FreshAt w.heap.size w' ao 2 ms.length (fun k => (nth ms k).c) ∧ Ext w w' := by
  have H := Lib.hid (fun T => cu_marks (cu_box (cc := cc) (T := T) hr hb hm) (by omega))
  clear hr hb
  go_enter Try.func14, Try.ntmps14
  go_wp2_with fail
  refine (H.out _).mono ?_; rintro e w1 ⟨ao, cap, ms, rfl, hl, hok, hF, _, hc, ht⟩
  have HS := Lib.hid (cu_shown hc (by omega))
  have HT := Lib.hid ht
  have HF := Lib.hid hF
  have HK := Lib.hid hok
  clear hF ht hok H hc
  go_wp2_with fail
  refine HS.out.mono ?_; rintro e w2 ⟨x, rfl, hx, _, ht⟩
  have HE := Lib.hid (Touch.spanExt ((Ext.refl w).alloc _) (HT.out.trans ht) (Nat.le_refl _))
  have HF2 := Lib.hid ((HF.out.touch ht (fun a e hs => by have h1 := (HF.out.base a e).1; have h2 := hs.2; simp at h1; omega)).mono (by simp : w.heap.size ≤ _))
  have HX := Lib.hid hx
  clear ht HT HF HS hx
  go_wp2
  go_ret2
  exact ⟨ao, cap, ms, x, rfl, hl, HK.out, HX.out, HF2.out, HE.out⟩

end Go.Proofs.Ytemencnfackplaa
