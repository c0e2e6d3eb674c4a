/-
  Proved here: RelayOrder's closures; sorting no teams.
  Conditions: those in each statement.
-/
import Derived.Test.YtlpogglcbphilaaTmSort
import Derived.Test.YtlpogglcbphilaaRel6
namespace Go.Proofs.Ytlpogglcbphilaa
open Go.RowKit

def tkey (t : TeamD) : Int := sumU t.legs t.legs.length
/-- complete, as RelayOrder asks it -/
def doneT (legs : Int) (t : TeamD) : Bool := decide (0 < legT t (legs - 1).toNat)
def relL (ts : List TeamD) (legs : Int) : List Int := if teamsB ts legs then (insF tkey (ts.filter (doneT legs))).map TeamD.num else []

theorem cmp_isNaN {a : Int} {w : World} :
    Calls Try.prog 70 #[.int .i64 a] w fun e w' => e = .returned (.bool false) ∧ w = w' := by
  go_enter Try.func70, Try.ntmps70
  go_wp2
  go_ret
  exact ⟨ret_b (by simp), rfl⟩
theorem cmp_CompareJ {a b : Int} {w : World} :
    Calls Try.prog 55 #[.int .i64 a, .int .i64 b] w fun e w' => e = .returned (.int .i64 (cmpJ a b)) ∧ w = w' := by
  by_cases h1 : a < b
  all_goals by_cases h2 : b < a
  all_goals
    go_enter Try.func55, Try.ntmps55
    go_wp2_with fail
    refine cmp_isNaN.mono ?_; rintro e w1 ⟨rfl, rfl⟩
    go_wp2_with fail
    refine cmp_isNaN.mono ?_; rintro e w1 ⟨rfl, rfl⟩
    go_wp2
    go_ret
    exact ⟨ret_i (by unfold cmpJ; split <;> (try split) <;> omega), rfl⟩

theorem impl_RelayOrder_1 {x : TmV} {b m : Nat} {w : World} (hq : w.cell? ⟨b, 0, none⟩ = some (.int .i64 ((m : Int) + 1))) (hx : x.ok w) (hm : m ≤ 1000) :
    Calls Try.prog 51 #[x.val, .pointer (some ⟨b, 0, none⟩)] w fun e w' => e = .returned (.bool (!decide (0 < legT x.t m))) ∧ Ext w w' := by
  have hb := World.block_lt_of_cell? _ _ hq
  have hw0 : Ext w (w.alloc (Obj.cells #[.int .i64 x.t.num, .slice x.a x.t.legs.length x.ac] 51)) := (Ext.refl _).alloc _
  have hc := impl_isComplete (t := x.t) (ao := x.a) (ac := x.ac) (m := m) (hx.1.ext hw0) hx.2.2 hm
  unfold TeamD.val at hc
  unfold TmV.val
  have HC := Lib.hid hc; have HW := Lib.hid hw0
  clear hc hx hw0
  go_enter Try.func51, Try.ntmps51
  go_wp2_with fail
  refine HC.out.mono ?_; rintro e w1 ⟨rfl, hx1⟩
  have HX := Lib.hid (HW.out.trans hx1)
  clear hx1 HC
  go_wp2
  go_ret
  exact ⟨ret_b rfl, HX.out⟩

set_option maxRecDepth 100000 in
set_option maxHeartbeats 1000000 in
theorem impl_RelayOrder_2 {x y : TmV} {w : World} (hx : x.ok w) (hy : y.ok w) (sx : ∀ k, k ≤ x.t.legs.length → I64 (sumU x.t.legs k)) (sy : ∀ k, k ≤ y.t.legs.length → I64 (sumU y.t.legs k)) :
    Calls Try.prog 54 #[x.val, y.val] w fun e w' => e = .returned (.int .i64 (cmpJ (tkey x.t) (tkey y.t))) ∧ Ext w w' := by
  have hw0 : Ext w ((w.alloc (Obj.cells #[.int .i64 x.t.num, .slice x.a x.t.legs.length x.ac] 51)).alloc (Obj.cells #[.int .i64 y.t.num, .slice y.a y.t.legs.length y.ac] 51)) := ((Ext.refl _).alloc _).alloc _
  have H1 := Lib.hid (fun z : Grow _ => impl_sumN (w := z.w) (cap := x.ac) ((hx.1.ext hw0).ext z.h) hx.2.2 sx)
  have H2 := Lib.hid (fun z : Grow _ => impl_sumN (w := z.w) (cap := y.ac) ((hy.1.ext hw0).ext z.h) hy.2.2 sy)
  have H3 := Lib.hid (fun z : Grow ((w.alloc (Obj.cells #[.int .i64 x.t.num, .slice x.a x.t.legs.length x.ac] 51)).alloc (Obj.cells #[.int .i64 y.t.num, .slice y.a y.t.legs.length y.ac] 51)) => cmp_CompareJ (w := z.w) (a := tkey x.t) (b := tkey y.t))
  have g0 := Grow.cells (show ((w.alloc (Obj.cells #[.int .i64 x.t.num, .slice x.a x.t.legs.length x.ac] 51)).alloc (Obj.cells #[.int .i64 y.t.num, .slice y.a y.t.legs.length y.ac] 51)).cell? ⟨w.heap.size, 1, none⟩ = some (.slice x.a x.t.legs.length x.ac) by go_simp)
  have g1 := Grow.cells (show ((w.alloc (Obj.cells #[.int .i64 x.t.num, .slice x.a x.t.legs.length x.ac] 51)).alloc (Obj.cells #[.int .i64 y.t.num, .slice y.a y.t.legs.length y.ac] 51)).cell? ⟨w.heap.size + 1, 1, none⟩ = some (.slice y.a y.t.legs.length y.ac) by go_simp)
  have HW := Lib.hid hw0
  unfold tkey at H3 ⊢
  unfold TmV.val
  clear hx hy sx sy hw0
  go_enter Try.func54, Try.ntmps54
  go_wp2
  refine wp_region_ext (by kernel_rfl) (by kernel_rfl) ?_
  repeat (go_big_quiet_step ((first | (go_at_call 56; with_reducible exact Calls.ext_of (H1.out _)) | (go_at_call 56; with_reducible exact Calls.ext_of (H2.out _)) | (go_at_call 55; with_reducible exact Calls.ext_of_same (H3.out _)))))
  refine wpQuiet_nil ?_
  rintro _ ⟨⟨w1, hx1⟩, rfl⟩
  clear g0 g1
  have HX := Lib.hid (HW.out.trans hx1)
  clear hx1
  go_wp2
  go_ret
  exact ⟨rfl, HX.out⟩

set_option maxRecDepth 100000 in
theorem sortStable_nil_Team {F : FuncId} {w : World} :
    Calls Try.prog 53 #[.slice none 0 0, .func (.func F) #[] #[]] w fun e w' => e = .returned (.tuple #[]) ∧ Ext w w' := by
  have h1 : Calls Try.prog 71 #[.slice none 0 0, .int .i64 0, .int .i64 0, .func (.func F) #[] #[]] w fun e w' => e = .returned (.tuple #[]) ∧ Ext w w' := by
    go_enter Try.func71, Try.ntmps71
    go_wp2
    go_loopw [8] (fun i wr => i = .int .i64 1 ∧ Ext w wr) (fun _ _ => 0)
    case atStart => exact ⟨rfl, Ext.refl _⟩
    case round =>
      obtain ⟨rfl, hx⟩ := hrel
      go_wp2
      go_end0
      exact ⟨rfl, hx⟩
  have h2 : Calls Try.prog 69 #[.slice none 0 0, .int .i64 0, .func (.func F) #[] #[]] w fun e w' => e = .returned (.tuple #[]) ∧ Ext w w' := by
    go_enter Try.func69, Try.ntmps69
    go_wp2
    go_loopw [7, 8] (fun a b wr => a = .int .i64 0 ∧ b = .int .i64 20 ∧ wr = w) (fun _ _ _ => 0)
    case atStart => exact ⟨rfl, rfl, rfl⟩
    case round =>
      obtain ⟨rfl, rfl, rfl⟩ := hrel
      go_wp2_with fail
      refine h1.mono ?_; rintro e w1 ⟨rfl, hx1⟩
      have HF := Lib.hid hx1
      clear hx1 h1
      go_wp2
      go_loopw [6] (fun a wr => a = .int .i64 20 ∧ wr = w1) (fun _ _ => 0)
      case atStart => exact ⟨rfl, rfl⟩
      case round =>
        obtain ⟨rfl, rfl⟩ := hrel
        go_wp2
        go_end0
        exact ⟨rfl, HF.out⟩
  clear h1
  go_enter Try.func53, Try.ntmps53
  go_wp2_with fail
  refine h2.mono ?_; rintro e w1 ⟨rfl, hx1⟩
  go_wp2
  go_end0
  exact ⟨rfl, hx1⟩

end Go.Proofs.Ytlpogglcbphilaa
