/-
  Proved here: what StrongestFor's order returns.
  Conditions: none.
-/
import Derived.Test.YtfnjoinkfghalaaStr1
import Derived.StillTailTactics
namespace Go.Proofs.Ytfnjoinkfghalaa
open Go.RowKit

theorem cmp_still {a b : Int} {w : World} :
    Calls Try.prog 75 #[.int .i64 a, .int .i64 b] w fun e w' => e = .returned (.int .i64 (cmpI a b)) ∧ w' = w := cmp_Compare.mono fun _ _ ⟨h1, h2⟩ => ⟨h1, h2.symm⟩

set_option maxRecDepth 100000 in
set_option maxHeartbeats 1000000 in
theorem impl_StrongestFor_2 {r c k t : Int} {g : Bool} {r' c' k' t' : Int} {g' : Bool} {w : World} :
    Calls Try.prog 73 #[.agg #[.int .i64 r, .int .i64 c, .int .i64 k, .int .i64 t, .bool g], .agg #[.int .i64 r', .int .i64 c', .int .i64 k', .int .i64 t', .bool g']] w fun e w' => e = .returned (.int .i64 (ordI ⟨r, c, k, t, g⟩ ⟨r', c', k', t', g'⟩)) ∧ Ext w w' := by
  have f2 : ((w.alloc (.cells #[.int .i64 r, .int .i64 c, .int .i64 k, .int .i64 t, .bool g] 45)).alloc (.cells #[.int .i64 r', .int .i64 c', .int .i64 k', .int .i64 t', .bool g'] 45)).cell? ⟨w.heap.size, 2, none⟩ = some (.int .i64 k) := by go_simp
  have f3 : ((w.alloc (.cells #[.int .i64 r, .int .i64 c, .int .i64 k, .int .i64 t, .bool g] 45)).alloc (.cells #[.int .i64 r', .int .i64 c', .int .i64 k', .int .i64 t', .bool g'] 45)).cell? ⟨w.heap.size, 3, none⟩ = some (.int .i64 t) := by go_simp
  have g2 : ((w.alloc (.cells #[.int .i64 r, .int .i64 c, .int .i64 k, .int .i64 t, .bool g] 45)).alloc (.cells #[.int .i64 r', .int .i64 c', .int .i64 k', .int .i64 t', .bool g'] 45)).cell? ⟨w.heap.size + 1, 2, none⟩ = some (.int .i64 k') := by go_simp
  have g3 : ((w.alloc (.cells #[.int .i64 r, .int .i64 c, .int .i64 k, .int .i64 t, .bool g] 45)).alloc (.cells #[.int .i64 r', .int .i64 c', .int .i64 k', .int .i64 t', .bool g'] 45)).cell? ⟨w.heap.size + 1, 3, none⟩ = some (.int .i64 t') := by go_simp
  have hx : Ext w ((w.alloc (.cells #[.int .i64 r, .int .i64 c, .int .i64 k, .int .i64 t, .bool g] 45)).alloc (.cells #[.int .i64 r', .int .i64 c', .int .i64 k', .int .i64 t', .bool g'] 45)) := ((Ext.refl w).alloc _).alloc _
  go_enter Try.func73, Try.ntmps73
  go_wp2_with fail
  generalize hW : ((w.alloc (.cells #[.int .i64 r, .int .i64 c, .int .i64 k, .int .i64 t, .bool g] 45)).alloc (.cells #[.int .i64 r', .int .i64 c', .int .i64 k', .int .i64 t', .bool g'] 45)) = W at f2 f3 g2 g3 hx ⊢
  clear hW
  have HX := Lib.hid hx; clear hx
  go_still_tail 10, (by kernel_rfl)
  still_call cmp_still
  repeat still_step
  still_call cmp_still
  repeat still_step
  try refine wpStill_nil ?_
  clear f2 f3 g2 g3
  change wpList _ _ _ _ _ W.drew
  have HO := Lib.hid (fun x (hx : Ext (W.alloc (.cells #[.int .i64 (cmpI t' t), .int .i64 (cmpI k k')] 3)) x) => cmp_Or (w := x) (B := W.heap.size) (a := cmpI t' t) (b := cmpI k k') (hx.cells (by go_simp)) (hx.cells (by go_simp)))
  generalize hca : cmpI t' t = ca at HO ⊢
  generalize hcb : cmpI k k' = cb at HO ⊢
  have HCA := Lib.hid hca; have HCB := Lib.hid hcb; clear hca hcb
  go_wp2_with fail
  refine (HO.out _ (Ext.refl _).drew).mono ?_; rintro e w1 ⟨rfl, hx1⟩
  have HE := Lib.hid (HX.out.trans ((((Ext.refl W).alloc _).drew).trans hx1))
  clear hx1 HO HX
  go_wp2
  go_ret
  exact ⟨by rw [← HCA.out, ← HCB.out]; rfl, HE.out⟩

end Go.Proofs.Ytfnjoinkfghalaa
