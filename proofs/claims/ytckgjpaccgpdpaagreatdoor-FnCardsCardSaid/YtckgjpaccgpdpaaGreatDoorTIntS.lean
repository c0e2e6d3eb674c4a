/-
  Proved here: an argument that is a slice of ints, opened.
  Conditions: none.
-/
import Derived.Test.YtckgjpaccgpdpaaGreatDoorInts
import Derived.Test.YtckgjpaccgpdpaaGreatDoorLaw
namespace Go.Proofs.YtckgjpaccgpdpaaGreatDoor
open Go.ChangeShapes Go.WideShapes Go.ChangeAt Go.RowKit Go.Joins Go.Deep

set_option maxRecDepth 100000 in
/-- A reading of a slice of ints, opened. -/
theorem trod_IntS {H : Type} {enc : TypeId × Value → H} {w : World} {v : Value} {fuel : Nat} {x : DataW H × List MemPlace} {base : Nat} {spare : Nat → Bool} {held : Bool} (hf : DataW.trod enc Tryz.prog w base spare held fuel 27 [v] = some x) :
    ∃ (ao : Option Addr) (cap : Nat) (xs : List Int), v = .slice ao xs.length cap ∧ xs.length ≤ 9223372036854775807 ∧ RowAt w ao 1 xs.length (ic xs) ∧ (∀ k, k < xs.length → I64 (nth xs k)) ∧ xs.length ≤ cap := by
  rcases open_ints Tryz.underlying27 Tryz.underlying3 (by kernel_rfl) hf with ⟨hcs, _⟩ | ⟨a, len, cap, zs, hcs, _, hl, hm, hzl, _, hi, hwf⟩
  · obtain rfl : v = _ := List.singleton_inj.1 hcs
    exact ⟨none, 0, [], rfl, by simp, fun h => by simp at h, fun k hk => by simp at hk, Nat.le_refl _⟩
  · obtain rfl : v = _ := List.singleton_inj.1 hcs
    have hex : ∀ k, k < len → ∃ x : Int, (∀ j, j < 1 → w.cell? (a.add (k * 1 + j)) = some (.int .i64 x)) ∧ I64 x := by
      intro k hk
      have hkz : k < zs.length := by rw [hzl]; split <;> omega
      refine ⟨zs.getD k 0, fun j hj => ?_, ?_⟩
      · obtain rfl : j = 0 := by omega
        simpa using hi k hkz
      · refine I64.of_wf (hwf _ ?_)
        simp [List.getD, List.getElem?_eq_getElem hkz]
    obtain ⟨ms, rfl, hms⟩ := exists_list hex
    refine ⟨some a, cap, ms, rfl, by unfold maxLen at hm; omega, ?_, fun k hk => (hms k hk).2, hl⟩
    have := rowAt_of_add (w := w) (a := a) (n := ms.length) (s := 1) (c := fun k _ => .int .i64 (nth ms k)) (by decide) (fun k hk => (hms k hk).1)
    exact this

set_option maxRecDepth 100000 in
/-- An argument that is a slice of ints, opened. -/
theorem open_IntS {H : Type} {enc : TypeId × Value → H} {w : World} {base : Nat} {v : Value} {d : DataW H} {p : List MemPlace} (hv : Value.okWide Tryz.prog w .any base 27 v) (h : DataW.Trod enc Tryz.prog w 0 (fun _ => true) true 27 v d p) :
    ∃ (ao : Option Addr) (cap : Nat) (xs : List Int), v = .slice ao xs.length cap ∧ xs.length ≤ 9223372036854775807 ∧ RowAt w ao 1 xs.length (ic xs) ∧ (∀ k, k < xs.length → I64 (nth xs k)) ∧ xs.length ≤ cap := by
  obtain ⟨a0, len, cap, rfl⟩ := okWide_slice Tryz.underlying27 hv
  obtain ⟨fuel, hf⟩ := h
  exact trod_IntS hf

end Go.Proofs.YtckgjpaccgpdpaaGreatDoor
