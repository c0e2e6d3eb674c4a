/-
  Proved here: an argument that is a slice of bytes, opened.
  Conditions: none.
-/
import Derived.Test.YtckgjpaccgpdpaaGreatDoorTIntS
import Derived.Test.YtckgjpaccgpdpaaGreatDoorCur1
namespace Go.Proofs.YtckgjpaccgpdpaaGreatDoor
open Go.ChangeShapes Go.WideShapes Go.ChangeAt Go.RowKit Go.Joins Go.Deep

theorem u8_of_wf {a : Int} (h : (Lit.int .u8 a).wf = true) : 0 ≤ a ∧ a ≤ 255 := by
  have := h
  simp [Lit.wf, IntKind.min, IntKind.max, IntKind.signed, IntKind.bits] at this
  exact this

set_option maxRecDepth 100000 in
/-- An argument that is a slice of bytes, opened. -/
theorem open_ByteS {H : Type} {enc : TypeId × Value → H} {w : World} {base : Nat} {v : Value} {d : DataW H} {p : List MemPlace} (hv : Value.okWide Tryz.prog w .any base 22 v) (h : DataW.Trod enc Tryz.prog w 0 (fun _ => true) true 22 v d p) :
    ∃ (ao : Option Addr) (cap m : Nat) (bs : Nat → Nat), v = .slice ao m cap ∧ m ≤ 9223372036854775807 ∧ RowAt w ao 1 m (by8 bs) ∧ (∀ k, bs k < 256) := by
  obtain ⟨a0, len, cap, rfl⟩ := okWide_slice Tryz.underlying22 hv
  obtain ⟨fuel, hf⟩ := h
  rcases open_ints Tryz.underlying22 Tryz.underlying5 (by kernel_rfl) hf with ⟨hcs, _⟩ | ⟨a, len, cap, zs, hcs, _, hl, hm, hzl, _, hi, hwf⟩
  · have e := List.singleton_inj.1 hcs
    rw [e]
    exact ⟨none, 0, 0, fun _ => 0, rfl, by simp, fun h => by simp at h, fun k => by simp⟩
  · have e := List.singleton_inj.1 hcs
    rw [e]
    have hz : ∀ k, k < len → 0 ≤ zs.getD k 0 ∧ zs.getD k 0 ≤ 255 := by
      intro k hk
      have hkz : k < zs.length := by rw [hzl]; split <;> omega
      refine u8_of_wf (hwf _ ?_)
      simp [List.getD, List.getElem?_eq_getElem hkz]
    refine ⟨some a, cap, len, fun k => (zs.getD k 0).toNat % 256, rfl, by unfold maxLen at hm; omega, ?_, fun k => Nat.mod_lt _ (by decide)⟩
    refine rowAt_of_add (w := w) (a := a) (n := len) (s := 1) (c := by8 (fun k => (zs.getD k 0).toNat % 256)) (by decide) (fun k hk j hj => ?_)
    obtain rfl : j = 0 := by omega
    have hkz : k < zs.length := by rw [hzl]; split <;> omega
    have h1 := hz k hk
    have h2 := hi k hkz
    have h3 : (((zs.getD k 0).toNat % 256 : Nat) : Int) = zs.getD k 0 := by omega
    show w.cell? (a.add (k * 1 + 0)) = some (.int .u8 (((zs.getD k 0).toNat % 256 : Nat) : Int))
    rw [h3]
    simpa using h2

end Go.Proofs.YtckgjpaccgpdpaaGreatDoor
