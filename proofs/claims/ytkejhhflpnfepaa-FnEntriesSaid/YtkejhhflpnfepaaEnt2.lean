/-
  Proved here: at which place a runner's entry lies.
  Conditions: the number of entries fits an int.
-/
import Derived.Test.YtkejhhflpnfepaaEnt1
import Derived.Test.YtkejhhflpnfepaaIdxEnt
namespace Go.Proofs.Ytkejhhflpnfepaa
open Go.RowKit

theorem impl_entryIndex_1 {r c d p x : Int} {g : Bool} {B : Nat} {w : World} (h : w.cell? ⟨B, 0, none⟩ = some (.int .i64 x)) (hB : B < w.heap.size) :
    Calls Try.prog 78 #[.agg #[.int .i64 r, .int .i64 c, .int .i64 d, .bool g, .int .i64 p], .pointer (some ⟨B, 0, none⟩)] w fun e w' => e = .returned (.bool (r == x)) ∧ Ext w w' := by
  go_enter Try.func78, Try.ntmps78
  go_wp2
  go_ret
  exact ⟨rfl, (by repeat (first | (with_reducible exact Ext.refl _) | (with_reducible assumption) | with_reducible refine Ext.drew ?_ | with_reducible refine Ext.alloc ?_ _ | with_reducible refine Ext.setCell ?_ (by first | (simp; done) | (simp; omega) | omega) _ | with_reducible refine Ext.trans ?_ (by with_reducible assumption)))⟩

theorem impl_entryIndex {ao : Option Addr} {cap : Nat} {xs : List Ent} {x : Int} {w : World} (h : RowAt w ao 5 xs.length (fun k => (nth xs k).c)) (hn : xs.length ≤ 9223372036854775807) :
    Calls Try.prog 44 #[.slice ao xs.length cap, .int .i64 x] w fun e w' => e = .returned (.int .i64 (entIx xs x)) ∧ Ext w w' := by
  have hcl : (w.alloc (Obj.cells #[.int .i64 x] 3)).cell? ⟨w.heap.size, 0, none⟩ = some (.int .i64 x) := by go_simp
  have H := indexFunc_Ent (w := w.alloc (Obj.cells #[.int .i64 x] 3)) (cap := cap) (xs := xs) (F := 78) (caps := #[.pointer (some ⟨w.heap.size, 0, none⟩)]) (p := fun y => y.runner == x) (h.ext ((Ext.refl _).alloc _)) hn (entersF_of Try.func78 (by kernel_rfl) rfl) (fun a b c g t w' hw' => impl_entryIndex_1 (hw'.cells hcl) (Nat.lt_of_lt_of_le (by simp) hw'.size))
  clear hcl h
  go_enter Try.func44, Try.ntmps44
  go_wp2_with fail
  refine H.mono ?_; rintro e w1 ⟨rfl, hx1⟩
  go_wp2
  go_ret
  exact ⟨rfl, (by repeat (first | (with_reducible exact Ext.refl _) | (with_reducible assumption) | with_reducible refine Ext.drew ?_ | with_reducible refine Ext.alloc ?_ _ | with_reducible refine Ext.setCell ?_ (by first | (simp; done) | (simp; omega) | omega) _ | with_reducible refine Ext.trans ?_ (by with_reducible assumption)))⟩

theorem spec_l11Find {ao : Option Addr} {cap : Nat} {xs : List Ent} {x : Int} {w : World} (h : RowAt w ao 5 xs.length (fun k => (nth xs k).c)) (hn : xs.length ≤ 9223372036854775807) :
    Calls Try.prog 54 #[.slice ao xs.length cap, .int .i64 x] w fun e w' => e = .returned (.int .i64 (entIx xs x)) ∧ Ext w w' := by
  go_enter Try.func54, Try.ntmps54
  go_wp2
  go_loopw [5] (fun i wr => ∃ k : Nat, k ≤ xs.length ∧ i = .int .i64 k ∧ Ext w wr ∧ ∀ j, j < k → ((nth xs j).runner == x) = false) (fun i _ => xs.length - (intOf i).toNat)
  case atStart => exact ⟨0, Nat.zero_le _, rfl, Ext.refl _, fun j hj => by omega⟩
  case round =>
    obtain ⟨k, hk, rfl, hx, hb⟩ := hrel
    have HB := Lib.hid hb; clear hb
    by_cases hlt : k < xs.length
    · obtain ⟨b, off, rfl, hcell⟩ := h (by omega)
      have d0 := hx.cells (hcell k hlt 0 (by decide))
      simp only [Ent.c0, Nat.add_zero] at d0
      clear hcell h
      cases hpk : ((nth xs k).runner == x)
      · go_wp2
        go_roundw
        case rel => exact ⟨k + 1, by omega, by go_num, (by repeat (first | (with_reducible exact Ext.refl _) | (with_reducible assumption) | with_reducible refine Ext.drew ?_ | with_reducible refine Ext.alloc ?_ _ | with_reducible refine Ext.setCell ?_ (by first | (simp; done) | (simp; omega) | omega) _ | with_reducible refine Ext.trans ?_ (by with_reducible assumption))), fun j hj => by by_cases e : j = k; (subst e; exact hpk); exact HB.out j (by omega)⟩
        case measure => simp [intOf]; omega
      · go_wp2
        go_ret
        exact ⟨ret_i (by rw [entIx, idxU_at hlt hpk HB.out]), (by repeat (first | (with_reducible exact Ext.refl _) | (with_reducible assumption) | with_reducible refine Ext.drew ?_ | with_reducible refine Ext.alloc ?_ _ | with_reducible refine Ext.setCell ?_ (by first | (simp; done) | (simp; omega) | omega) _ | with_reducible refine Ext.trans ?_ (by with_reducible assumption)))⟩
    · have hkn : k = xs.length := by omega
      subst hkn
      go_wp2
      go_ret
      exact ⟨ret_i (by rw [entIx, idxU_none HB.out]), (by repeat (first | (with_reducible exact Ext.refl _) | (with_reducible assumption) | with_reducible refine Ext.drew ?_ | with_reducible refine Ext.alloc ?_ _ | with_reducible refine Ext.setCell ?_ (by first | (simp; done) | (simp; omega) | omega) _ | with_reducible refine Ext.trans ?_ (by with_reducible assumption)))⟩

/-- the place, seen by cases -/
theorem entIx_cases (xs : List Ent) (r : Int) : entIx xs r = -1 ∨ ∃ k, k < xs.length ∧ entIx xs r = (k : Int) := by
  rcases idxU_cases (fun k => (nth xs k).runner == r) xs.length with ⟨e, _⟩ | ⟨k, hk, e, _, _⟩
  · exact .inl e
  · exact .inr ⟨k, hk, e⟩

end Go.Proofs.Ytkejhhflpnfepaa
