/-
  Proved here: AddMark and its reference, at a mark as one value.
  Conditions: no more than 1048576 marks, in a block.
-/
import Derived.Test.YtemencnfackplaaAddM3
import Derived.Test.YtemencnfackplaaClkPl
namespace Go.Proofs.Ytemencnfackplaa
open Go.RowKit

theorem impl_AddMark' {b : Nat} {cap : Nat} {ms : List Mark} {p : Mark} {w : World} (h : RowAt w (some ⟨b, 0, none⟩) 2 ms.length (fun k => (nth ms k).c)) (hs : ms.length ≤ 1048576) (_hc : ms.length ≤ cap ∧ cap ≤ 9223372036854775807) :
    Calls Try.prog 9 #[.slice (some ⟨b, 0, none⟩) ms.length cap, p.val] w (ResMk w (adL ms p) (adB ms p)) := by
  obtain ⟨s, r⟩ := p
  exact impl_AddMark h hs
theorem spec_AddMark' {b : Nat} {cap : Nat} {ms : List Mark} {p : Mark} {w : World} (h : RowAt w (some ⟨b, 0, none⟩) 2 ms.length (fun k => (nth ms k).c)) (hs : ms.length ≤ 1048576) (hc : ms.length ≤ cap ∧ cap ≤ 9223372036854775807) :
    Calls Try.prog 6 #[.slice (some ⟨b, 0, none⟩) ms.length cap, p.val] w (ResMk w (adL ms p) (adB ms p)) := by
  obtain ⟨s, r⟩ := p
  exact spec_AddMark h hs hc

end Go.Proofs.Ytemencnfackplaa
