/-
  Proved here: what spec.IsHeat returns; an argument that is a heat, opened.
  Conditions: the lengths fit an int; no slice is longer than its capacity.
-/
import Derived.Test.YtdbibdecnepobaaHeat2
import Derived.Test.YtdbibdecnepobaaTIntS
namespace Go.Proofs.Ytdbibdecnepobaa
open Go.ChangeShapes Go.WideShapes Go.ChangeAt Go.RowKit Go.Joins Go.Deep

theorem spec_IsHeat {h : HeatD} {ao bo : Option Addr} {ac bc : Nat} {w : World} (hr : RowAt w ao 1 h.rs.length (ic h.rs)) (ht : RowAt w bo 1 h.ts.length (ic h.ts))
    (n1 : h.rs.length ≤ 9223372036854775807) (n2 : h.ts.length ≤ 9223372036854775807) (c1 : h.rs.length ≤ ac) (c2 : h.ts.length ≤ bc) :
    Calls Try.prog 8 #[h.val ao ac bo bc] w fun e w' => e = .returned (.bool (heatB h)) ∧ Ext w w' := by
  have H := fun x hx => spec_l18One (w := x) (h := h) (hr.ext hx) (ht.ext hx) n1 n2 c1 c2
  unfold HeatD.val at H ⊢
  go_enter Try.func8, Try.ntmps8
  go_wp2_with fail
  refine (H _ (by repeat (first | (with_reducible exact Ext.refl _) | (with_reducible assumption) | with_reducible refine Ext.drew ?_ | with_reducible refine Ext.alloc ?_ _ | with_reducible refine Ext.setCell ?_ (by first | (simp; done) | (simp; omega) | omega) _ | with_reducible refine Ext.trans ?_ (by with_reducible assumption)))).mono ?_; rintro e w1 ⟨rfl, hx1⟩
  go_wp2
  go_ret
  exact ⟨rfl, (by repeat (first | (with_reducible exact Ext.refl _) | (with_reducible assumption) | with_reducible refine Ext.drew ?_ | with_reducible refine Ext.alloc ?_ _ | with_reducible refine Ext.setCell ?_ (by first | (simp; done) | (simp; omega) | omega) _ | with_reducible refine Ext.trans ?_ (by with_reducible assumption)))⟩

/-- What is known of an argument that is a heat. -/
structure HeatOk (h : HeatD) (ac bc : Nat) : Prop where
  n1 : h.rs.length ≤ 9223372036854775807
  n2 : h.ts.length ≤ 9223372036854775807
  i1 : ∀ k, k < h.rs.length → I64 (nth h.rs k)
  i2 : ∀ k, k < h.ts.length → I64 (nth h.ts k)
  c1 : h.rs.length ≤ ac
  c2 : h.ts.length ≤ bc

set_option maxRecDepth 100000 in
/-- An argument that is a heat, opened. -/
theorem open_Heat {H : Type} {enc : TypeId × Value → H} {w : World} {base : Nat} {v : Value} {d : DataW H} {p : List MemPlace} (hv : Value.okWide Try.prog w .any base 24 v) (h : DataW.Trod enc Try.prog w 0 (fun _ => true) true 24 v d p) :
    ∃ (x : HeatD) (ao : Option Addr) (ac : Nat) (bo : Option Addr) (bc : Nat), v = x.val ao ac bo bc ∧ RowAt w ao 1 x.rs.length (ic x.rs) ∧ RowAt w bo 1 x.ts.length (ic x.ts) ∧ HeatOk x ac bc ∧ True := by
  obtain ⟨v0, v1, y0, y1, n, rfl, _, _, t0, t1⟩ := open_agg2 Try.underlying24 (by kernel_rfl) (by kernel_rfl) hv h
  obtain ⟨ao, ac, rs, rfl, l0, r0, i0, c0⟩ := trod_IntS t0
  obtain ⟨bo, bc, ts, rfl, l1, r1, i1, c1⟩ := trod_IntS t1
  exact ⟨⟨rs, ts⟩, ao, ac, bo, bc, rfl, r0, r1, ⟨l0, l1, i0, i1, c0, c1⟩, trivial⟩

end Go.Proofs.Ytdbibdecnepobaa
