/-
  No cell of these rows narrows 'for every input' (looked for: loops, veiled, ifaces, maps, wideKeys, modest, calm, conditions, laid).
  DERIVED. THE GIVEN ROWS OF THIS SEAT. 7 by the template 'for every input the law returns true; each argument reads behind the call as it read before'; 0 by the template 'total and deterministic' (their statements: YtbgihimacepfpaaTotals.lean).
  GIVEN WITH THE SEED: the statements are not yours to turn. If you find one false, say at which input.
  Laid BY PROGRAM, IN A SANDBOX (cutbox-rows.mjs): the forced cells as the released guide's own fill.sh prints them over the translation 12ec9a689f359b91… (all of the seat's roots in one cut). By AI agents, Wed Nov 11 2026. No macro, syntax, notation, axiom, sorry.
-/
import Derived.Test.YtbgihimacepfpaaChecked
import GoSem.Claim
import GoSem.ClaimJoined
import GoSem.ClaimMapViews
import Derived.JoinedTies
import Derived.KernelRfl
namespace Go.Proofs.Ytbgihimacepfpaa
/- THE CELL 'sum', in the pinned program and in every row, IS THE sha256 OF THE DUMP (.gsa) THAT YtbgihimacepfpaaProg.lean LOADS. Nothing in Lean hashes anything: it is a label: what it is worth is what the hold of that sum in a sandbox is worth. -/
noncomputable def Try.pinned : Pinned := { name := "ytbgihimacepfpaa", sum := "12ec9a689f359b9105202c066486c03815f482f40d50c6df5ae8923ba9136426", checked := Try.checked }
namespace Rows
def none {H : Type} : Left H := { results := [], args := [] }

/-- 'laws.FnExactIsProof': WHATEVER THE INPUT: true; the input reads as it did. -/
def fnExactIsProofSpec : ChangeSpec := { name := "fnExactIsProof", fn := fun _ => fun
  | [d] => { results := [.lit (.bool true)], args := [d] }
  | _ => none }
def fnExactIsProofRow : OpenClaim := { program := "ytbgihimacepfpaa", sum := "12ec9a689f359b9105202c066486c03815f482f40d50c6df5ae8923ba9136426", func := "loop.example/g00938/laws.FnExactIsProof", spec := "fnExactIsProof", apart := false }
def FnExactIsProofSaid : Prop := fnExactIsProofRow.holds Try.pinned (OpenSpec.ofChange fnExactIsProofSpec)

/-- ITS FALSE NEIGHBOUR: 'it returns false'. Refute it at one input. -/
def fnExactIsProofWrong : ChangeSpec := { name := "fnExactIsProof", fn := fun _ => fun
  | [d] => { results := [.lit (.bool false)], args := [d] }
  | _ => none }
def FnExactIsProofWrongFalsely : Prop := fnExactIsProofRow.holds Try.pinned (OpenSpec.ofChange fnExactIsProofWrong)

/-- 'laws.FnExactAreClockMarks': WHATEVER THE INPUT: true; the input reads as it did. -/
def fnExactAreClockMarksSpec : ChangeSpec := { name := "fnExactAreClockMarks", fn := fun _ => fun
  | [d] => { results := [.lit (.bool true)], args := [d] }
  | _ => none }
def fnExactAreClockMarksRow : OpenClaim := { program := "ytbgihimacepfpaa", sum := "12ec9a689f359b9105202c066486c03815f482f40d50c6df5ae8923ba9136426", func := "loop.example/g00938/laws.FnExactAreClockMarks", spec := "fnExactAreClockMarks", apart := false }
def FnExactAreClockMarksSaid : Prop := fnExactAreClockMarksRow.holds Try.pinned (OpenSpec.ofChange fnExactAreClockMarksSpec)

/-- ITS FALSE NEIGHBOUR: 'it returns false'. Refute it at one input. -/
def fnExactAreClockMarksWrong : ChangeSpec := { name := "fnExactAreClockMarks", fn := fun _ => fun
  | [d] => { results := [.lit (.bool false)], args := [d] }
  | _ => none }
def FnExactAreClockMarksWrongFalsely : Prop := fnExactAreClockMarksRow.holds Try.pinned (OpenSpec.ofChange fnExactAreClockMarksWrong)

/-- 'laws.FnExactAreProofs': WHATEVER THE INPUT: true; the input reads as it did. -/
def fnExactAreProofsSpec : ChangeSpec := { name := "fnExactAreProofs", fn := fun _ => fun
  | [d] => { results := [.lit (.bool true)], args := [d] }
  | _ => none }
def fnExactAreProofsRow : OpenClaim := { program := "ytbgihimacepfpaa", sum := "12ec9a689f359b9105202c066486c03815f482f40d50c6df5ae8923ba9136426", func := "loop.example/g00938/laws.FnExactAreProofs", spec := "fnExactAreProofs", unfollowed := true, recurses := true, apart := false }
def FnExactAreProofsSaid : Prop := fnExactAreProofsRow.holds Try.pinned (OpenSpec.ofChange fnExactAreProofsSpec)

/-- ITS FALSE NEIGHBOUR: 'it returns false'. Refute it at one input. -/
def fnExactAreProofsWrong : ChangeSpec := { name := "fnExactAreProofs", fn := fun _ => fun
  | [d] => { results := [.lit (.bool false)], args := [d] }
  | _ => none }
def FnExactAreProofsWrongFalsely : Prop := fnExactAreProofsRow.holds Try.pinned (OpenSpec.ofChange fnExactAreProofsWrong)

/-- 'laws.FnExactGreatestOffset': WHATEVER THE INPUT: true; the input reads as it did. -/
def fnExactGreatestOffsetSpec : ChangeSpec := { name := "fnExactGreatestOffset", fn := fun _ => fun
  | [d] => { results := [.lit (.bool true)], args := [d] }
  | _ => none }
def fnExactGreatestOffsetRow : OpenClaim := { program := "ytbgihimacepfpaa", sum := "12ec9a689f359b9105202c066486c03815f482f40d50c6df5ae8923ba9136426", func := "loop.example/g00938/laws.FnExactGreatestOffset", spec := "fnExactGreatestOffset", apart := false }
def FnExactGreatestOffsetSaid : Prop := fnExactGreatestOffsetRow.holds Try.pinned (OpenSpec.ofChange fnExactGreatestOffsetSpec)

/-- ITS FALSE NEIGHBOUR: 'it returns false'. Refute it at one input. -/
def fnExactGreatestOffsetWrong : ChangeSpec := { name := "fnExactGreatestOffset", fn := fun _ => fun
  | [d] => { results := [.lit (.bool false)], args := [d] }
  | _ => none }
def FnExactGreatestOffsetWrongFalsely : Prop := fnExactGreatestOffsetRow.holds Try.pinned (OpenSpec.ofChange fnExactGreatestOffsetWrong)

/-- 'laws.FnExactDriftOf': WHATEVER THE INPUT: true; the input reads as it did. -/
def fnExactDriftOfSpec : ChangeSpec := { name := "fnExactDriftOf", fn := fun _ => fun
  | [d] => { results := [.lit (.bool true)], args := [d] }
  | _ => none }
def fnExactDriftOfRow : OpenClaim := { program := "ytbgihimacepfpaa", sum := "12ec9a689f359b9105202c066486c03815f482f40d50c6df5ae8923ba9136426", func := "loop.example/g00938/laws.FnExactDriftOf", spec := "fnExactDriftOf", apart := false }
def FnExactDriftOfSaid : Prop := fnExactDriftOfRow.holds Try.pinned (OpenSpec.ofChange fnExactDriftOfSpec)

/-- ITS FALSE NEIGHBOUR: 'it returns false'. Refute it at one input. -/
def fnExactDriftOfWrong : ChangeSpec := { name := "fnExactDriftOf", fn := fun _ => fun
  | [d] => { results := [.lit (.bool false)], args := [d] }
  | _ => none }
def FnExactDriftOfWrongFalsely : Prop := fnExactDriftOfRow.holds Try.pinned (OpenSpec.ofChange fnExactDriftOfWrong)

/-- 'laws.FnExactIsCard': WHATEVER THE INPUT: true; the input reads as it did. -/
def fnExactIsCardSpec : ChangeSpec := { name := "fnExactIsCard", fn := fun _ => fun
  | [d] => { results := [.lit (.bool true)], args := [d] }
  | _ => none }
def fnExactIsCardRow : OpenClaim := { program := "ytbgihimacepfpaa", sum := "12ec9a689f359b9105202c066486c03815f482f40d50c6df5ae8923ba9136426", func := "loop.example/g00938/laws.FnExactIsCard", spec := "fnExactIsCard", apart := false }
def FnExactIsCardSaid : Prop := fnExactIsCardRow.holds Try.pinned (OpenSpec.ofChange fnExactIsCardSpec)

/-- ITS FALSE NEIGHBOUR: 'it returns false'. Refute it at one input. -/
def fnExactIsCardWrong : ChangeSpec := { name := "fnExactIsCard", fn := fun _ => fun
  | [d] => { results := [.lit (.bool false)], args := [d] }
  | _ => none }
def FnExactIsCardWrongFalsely : Prop := fnExactIsCardRow.holds Try.pinned (OpenSpec.ofChange fnExactIsCardWrong)

/-- 'laws.FnExactIsHeat': WHATEVER THE INPUT: true; the input reads as it did. -/
def fnExactIsHeatSpec : ChangeSpec := { name := "fnExactIsHeat", fn := fun _ => fun
  | [d] => { results := [.lit (.bool true)], args := [d] }
  | _ => none }
def fnExactIsHeatRow : OpenClaim := { program := "ytbgihimacepfpaa", sum := "12ec9a689f359b9105202c066486c03815f482f40d50c6df5ae8923ba9136426", func := "loop.example/g00938/laws.FnExactIsHeat", spec := "fnExactIsHeat", apart := false }
def FnExactIsHeatSaid : Prop := fnExactIsHeatRow.holds Try.pinned (OpenSpec.ofChange fnExactIsHeatSpec)

/-- ITS FALSE NEIGHBOUR: 'it returns false'. Refute it at one input. -/
def fnExactIsHeatWrong : ChangeSpec := { name := "fnExactIsHeat", fn := fun _ => fun
  | [d] => { results := [.lit (.bool false)], args := [d] }
  | _ => none }
def FnExactIsHeatWrongFalsely : Prop := fnExactIsHeatRow.holds Try.pinned (OpenSpec.ofChange fnExactIsHeatWrong)

/- THE SECOND FORM. 'bulk': how many values and letters a reading holds, each counted each time it is reached (what is shared counts as often as it is met; a slice's spare places count too). A statement '..UptoSaid' is the law's where the arguments, and the package variables that the reading takes, are together of bulk at most 1048576: NARROWER than '..Said'. Prove '..Said' where nothing that the law and all that it calls make is longer than what came in: it says more and counts as full. Else prove '..UptoSaid'. A law counts once. -/
mutual
def uptoBulk {H : Type} : DataW H → Nat
  | .lit (.string bytes) => bytes.length + 1
  | .lit _ => 1
  | .nil => 1
  | .ptr d => uptoBulk d + 1
  | .slice elems spare => uptoBulkAll elems + uptoBulkAll spare + 1
  | .agg parts => uptoBulkAll parts + 1
  | .iface _ d => uptoBulk d + 1
  | .map entries => uptoBulkEntries entries + 1
  | .held _ => 1
def uptoBulkAll {H : Type} : List (DataW H) → Nat
  | [] => 0
  | d :: r => uptoBulk d + uptoBulkAll r
def uptoBulkEntries {H : Type} : List (Lit × DataW H) → Nat
  | [] => 0
  | x :: r => uptoBulkEntry x + uptoBulkEntries r
def uptoBulkEntry {H : Type} : Lit × DataW H → Nat
  | (.string bytes, d) => bytes.length + uptoBulk d + 1
  | (_, d) => uptoBulk d + 1
 end
def uptoSmall : (H : Type) → List (DataW H) → Bool := fun _ ds => decide (uptoBulkAll ds ≤ 1048576)
def OpenSpec.upto (s : _root_.Go.ChangeSpec) : _root_.Go.OpenSpec := { _root_.Go.OpenSpec.ofChange s with cond := some uptoSmall }

/-- 'laws.FnExactIsProof', WHERE WHAT IT READS IS OF BULK AT MOST 1048576: true; the input reads as it did. -/
def fnExactIsProofUptoRow : OpenClaim := { program := "ytbgihimacepfpaa", sum := "12ec9a689f359b9105202c066486c03815f482f40d50c6df5ae8923ba9136426", func := "loop.example/g00938/laws.FnExactIsProof", spec := "fnExactIsProof", apart := false, narrowed := true }
def FnExactIsProofUptoSaid : Prop := fnExactIsProofUptoRow.holds Try.pinned (OpenSpec.upto fnExactIsProofSpec)

/-- 'laws.FnExactAreClockMarks', WHERE WHAT IT READS IS OF BULK AT MOST 1048576: true; the input reads as it did. -/
def fnExactAreClockMarksUptoRow : OpenClaim := { program := "ytbgihimacepfpaa", sum := "12ec9a689f359b9105202c066486c03815f482f40d50c6df5ae8923ba9136426", func := "loop.example/g00938/laws.FnExactAreClockMarks", spec := "fnExactAreClockMarks", apart := false, narrowed := true }
def FnExactAreClockMarksUptoSaid : Prop := fnExactAreClockMarksUptoRow.holds Try.pinned (OpenSpec.upto fnExactAreClockMarksSpec)

/-- 'laws.FnExactAreProofs', WHERE WHAT IT READS IS OF BULK AT MOST 1048576: true; the input reads as it did. -/
def fnExactAreProofsUptoRow : OpenClaim := { program := "ytbgihimacepfpaa", sum := "12ec9a689f359b9105202c066486c03815f482f40d50c6df5ae8923ba9136426", func := "loop.example/g00938/laws.FnExactAreProofs", spec := "fnExactAreProofs", unfollowed := true, recurses := true, apart := false, narrowed := true }
def FnExactAreProofsUptoSaid : Prop := fnExactAreProofsUptoRow.holds Try.pinned (OpenSpec.upto fnExactAreProofsSpec)

/-- 'laws.FnExactGreatestOffset', WHERE WHAT IT READS IS OF BULK AT MOST 1048576: true; the input reads as it did. -/
def fnExactGreatestOffsetUptoRow : OpenClaim := { program := "ytbgihimacepfpaa", sum := "12ec9a689f359b9105202c066486c03815f482f40d50c6df5ae8923ba9136426", func := "loop.example/g00938/laws.FnExactGreatestOffset", spec := "fnExactGreatestOffset", apart := false, narrowed := true }
def FnExactGreatestOffsetUptoSaid : Prop := fnExactGreatestOffsetUptoRow.holds Try.pinned (OpenSpec.upto fnExactGreatestOffsetSpec)

/-- 'laws.FnExactDriftOf', WHERE WHAT IT READS IS OF BULK AT MOST 1048576: true; the input reads as it did. -/
def fnExactDriftOfUptoRow : OpenClaim := { program := "ytbgihimacepfpaa", sum := "12ec9a689f359b9105202c066486c03815f482f40d50c6df5ae8923ba9136426", func := "loop.example/g00938/laws.FnExactDriftOf", spec := "fnExactDriftOf", apart := false, narrowed := true }
def FnExactDriftOfUptoSaid : Prop := fnExactDriftOfUptoRow.holds Try.pinned (OpenSpec.upto fnExactDriftOfSpec)

/-- 'laws.FnExactIsCard', WHERE WHAT IT READS IS OF BULK AT MOST 1048576: true; the input reads as it did. -/
def fnExactIsCardUptoRow : OpenClaim := { program := "ytbgihimacepfpaa", sum := "12ec9a689f359b9105202c066486c03815f482f40d50c6df5ae8923ba9136426", func := "loop.example/g00938/laws.FnExactIsCard", spec := "fnExactIsCard", apart := false, narrowed := true }
def FnExactIsCardUptoSaid : Prop := fnExactIsCardUptoRow.holds Try.pinned (OpenSpec.upto fnExactIsCardSpec)

/-- 'laws.FnExactIsHeat', WHERE WHAT IT READS IS OF BULK AT MOST 1048576: true; the input reads as it did. -/
def fnExactIsHeatUptoRow : OpenClaim := { program := "ytbgihimacepfpaa", sum := "12ec9a689f359b9105202c066486c03815f482f40d50c6df5ae8923ba9136426", func := "loop.example/g00938/laws.FnExactIsHeat", spec := "fnExactIsHeat", apart := false, narrowed := true }
def FnExactIsHeatUptoSaid : Prop := fnExactIsHeatUptoRow.holds Try.pinned (OpenSpec.upto fnExactIsHeatSpec)

end Rows
end Go.Proofs.Ytbgihimacepfpaa
