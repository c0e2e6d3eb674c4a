/-
  No cell of these rows narrows 'for every input' (looked for: loops, veiled, ifaces, maps, wideKeys, modest, calm, conditions, laid).
  DERIVED. THE GIVEN ROWS OF THIS SEAT. 7 by the template 'for every input the law returns true; each argument reads behind the call as it read before'; 0 by the template 'total and deterministic' (their statements: YtbpcejdpgckkoaaTotals.lean).
  GIVEN WITH THE SEED: the statements are not yours to turn. If you find one false, say at which input.
  Laid BY PROGRAM, IN A SANDBOX (cutbox-rows.mjs): the forced cells as the released guide's own fill.sh prints them over the translation 51c4e90350397de2… (all of the seat's roots in one cut). By AI agents, Wed Nov 11 2026. No macro, syntax, notation, axiom, sorry.
-/
import Derived.Test.YtbpcejdpgckkoaaChecked
import GoSem.Claim
import GoSem.ClaimJoined
import GoSem.ClaimMapViews
import Derived.JoinedTies
import Derived.KernelRfl
namespace Go.Proofs.Ytbpcejdpgckkoaa
/- THE CELL 'sum', in the pinned program and in every row, IS THE sha256 OF THE DUMP (.gsa) THAT YtbpcejdpgckkoaaProg.lean LOADS. Nothing in Lean hashes anything: it is a label: what it is worth is what the hold of that sum in a sandbox is worth. -/
noncomputable def Try.pinned : Pinned := { name := "ytbpcejdpgckkoaa", sum := "51c4e90350397de22f61049b19a85750cf77232c9710f135e4119e2948815bf0", checked := Try.checked }
namespace Rows
def none {H : Type} : Left H := { results := [], args := [] }

/-- 'laws.FnExactFoundAt': WHATEVER THE INPUT: true; the input reads as it did. -/
def fnExactFoundAtSpec : ChangeSpec := { name := "fnExactFoundAt", fn := fun _ => fun
  | [d1, d2] => { results := [.lit (.bool true)], args := [d1, d2] }
  | _ => none }
def fnExactFoundAtRow : OpenClaim := { program := "ytbpcejdpgckkoaa", sum := "51c4e90350397de22f61049b19a85750cf77232c9710f135e4119e2948815bf0", func := "loop.example/g00938/laws.FnExactFoundAt", spec := "fnExactFoundAt", unfollowed := true, recurses := true, apart := false }
def FnExactFoundAtSaid : Prop := fnExactFoundAtRow.holds Try.pinned (OpenSpec.ofChange fnExactFoundAtSpec)

/-- ITS FALSE NEIGHBOUR: 'it returns false'. Refute it at one input. -/
def fnExactFoundAtWrong : ChangeSpec := { name := "fnExactFoundAt", fn := fun _ => fun
  | [d1, d2] => { results := [.lit (.bool false)], args := [d1, d2] }
  | _ => none }
def FnExactFoundAtWrongFalsely : Prop := fnExactFoundAtRow.holds Try.pinned (OpenSpec.ofChange fnExactFoundAtWrong)

/-- 'laws.FnExactMissingCodes': WHATEVER THE INPUT: true; the input reads as it did. -/
def fnExactMissingCodesSpec : ChangeSpec := { name := "fnExactMissingCodes", fn := fun _ => fun
  | [d1, d2] => { results := [.lit (.bool true)], args := [d1, d2] }
  | _ => none }
def fnExactMissingCodesRow : OpenClaim := { program := "ytbpcejdpgckkoaa", sum := "51c4e90350397de22f61049b19a85750cf77232c9710f135e4119e2948815bf0", func := "loop.example/g00938/laws.FnExactMissingCodes", spec := "fnExactMissingCodes", unfollowed := true, recurses := true, apart := false }
def FnExactMissingCodesSaid : Prop := fnExactMissingCodesRow.holds Try.pinned (OpenSpec.ofChange fnExactMissingCodesSpec)

/-- ITS FALSE NEIGHBOUR: 'it returns false'. Refute it at one input. -/
def fnExactMissingCodesWrong : ChangeSpec := { name := "fnExactMissingCodes", fn := fun _ => fun
  | [d1, d2] => { results := [.lit (.bool false)], args := [d1, d2] }
  | _ => none }
def FnExactMissingCodesWrongFalsely : Prop := fnExactMissingCodesRow.holds Try.pinned (OpenSpec.ofChange fnExactMissingCodesWrong)

/-- 'laws.FnExactMostFound': WHATEVER THE INPUT: true; the input reads as it did. -/
def fnExactMostFoundSpec : ChangeSpec := { name := "fnExactMostFound", fn := fun _ => fun
  | [d1, d2] => { results := [.lit (.bool true)], args := [d1, d2] }
  | _ => none }
def fnExactMostFoundRow : OpenClaim := { program := "ytbpcejdpgckkoaa", sum := "51c4e90350397de22f61049b19a85750cf77232c9710f135e4119e2948815bf0", func := "loop.example/g00938/laws.FnExactMostFound", spec := "fnExactMostFound", unfollowed := true, recurses := true, apart := false }
def FnExactMostFoundSaid : Prop := fnExactMostFoundRow.holds Try.pinned (OpenSpec.ofChange fnExactMostFoundSpec)

/-- ITS FALSE NEIGHBOUR: 'it returns false'. Refute it at one input. -/
def fnExactMostFoundWrong : ChangeSpec := { name := "fnExactMostFound", fn := fun _ => fun
  | [d1, d2] => { results := [.lit (.bool false)], args := [d1, d2] }
  | _ => none }
def FnExactMostFoundWrongFalsely : Prop := fnExactMostFoundRow.holds Try.pinned (OpenSpec.ofChange fnExactMostFoundWrong)

/-- 'laws.FnExactMergeRepeats': WHATEVER THE INPUT: true; the input reads as it did. -/
def fnExactMergeRepeatsSpec : ChangeSpec := { name := "fnExactMergeRepeats", fn := fun _ => fun
  | [d] => { results := [.lit (.bool true)], args := [d] }
  | _ => none }
def fnExactMergeRepeatsRow : OpenClaim := { program := "ytbpcejdpgckkoaa", sum := "51c4e90350397de22f61049b19a85750cf77232c9710f135e4119e2948815bf0", func := "loop.example/g00938/laws.FnExactMergeRepeats", spec := "fnExactMergeRepeats", apart := false }
def FnExactMergeRepeatsSaid : Prop := fnExactMergeRepeatsRow.holds Try.pinned (OpenSpec.ofChange fnExactMergeRepeatsSpec)

/-- ITS FALSE NEIGHBOUR: 'it returns false'. Refute it at one input. -/
def fnExactMergeRepeatsWrong : ChangeSpec := { name := "fnExactMergeRepeats", fn := fun _ => fun
  | [d] => { results := [.lit (.bool false)], args := [d] }
  | _ => none }
def FnExactMergeRepeatsWrongFalsely : Prop := fnExactMergeRepeatsRow.holds Try.pinned (OpenSpec.ofChange fnExactMergeRepeatsWrong)

/-- 'laws.FnExactSplitTimes': WHATEVER THE INPUT: true; the input reads as it did. -/
def fnExactSplitTimesSpec : ChangeSpec := { name := "fnExactSplitTimes", fn := fun _ => fun
  | [d1, d2] => { results := [.lit (.bool true)], args := [d1, d2] }
  | _ => none }
def fnExactSplitTimesRow : OpenClaim := { program := "ytbpcejdpgckkoaa", sum := "51c4e90350397de22f61049b19a85750cf77232c9710f135e4119e2948815bf0", func := "loop.example/g00938/laws.FnExactSplitTimes", spec := "fnExactSplitTimes", unfollowed := true, recurses := true, apart := false }
def FnExactSplitTimesSaid : Prop := fnExactSplitTimesRow.holds Try.pinned (OpenSpec.ofChange fnExactSplitTimesSpec)

/-- ITS FALSE NEIGHBOUR: 'it returns false'. Refute it at one input. -/
def fnExactSplitTimesWrong : ChangeSpec := { name := "fnExactSplitTimes", fn := fun _ => fun
  | [d1, d2] => { results := [.lit (.bool false)], args := [d1, d2] }
  | _ => none }
def FnExactSplitTimesWrongFalsely : Prop := fnExactSplitTimesRow.holds Try.pinned (OpenSpec.ofChange fnExactSplitTimesWrong)

/-- 'laws.FnExactExtraPunches': WHATEVER THE INPUT: true; the input reads as it did. -/
def fnExactExtraPunchesSpec : ChangeSpec := { name := "fnExactExtraPunches", fn := fun _ => fun
  | [d1, d2] => { results := [.lit (.bool true)], args := [d1, d2] }
  | _ => none }
def fnExactExtraPunchesRow : OpenClaim := { program := "ytbpcejdpgckkoaa", sum := "51c4e90350397de22f61049b19a85750cf77232c9710f135e4119e2948815bf0", func := "loop.example/g00938/laws.FnExactExtraPunches", spec := "fnExactExtraPunches", unfollowed := true, recurses := true, apart := false }
def FnExactExtraPunchesSaid : Prop := fnExactExtraPunchesRow.holds Try.pinned (OpenSpec.ofChange fnExactExtraPunchesSpec)

/-- ITS FALSE NEIGHBOUR: 'it returns false'. Refute it at one input. -/
def fnExactExtraPunchesWrong : ChangeSpec := { name := "fnExactExtraPunches", fn := fun _ => fun
  | [d1, d2] => { results := [.lit (.bool false)], args := [d1, d2] }
  | _ => none }
def FnExactExtraPunchesWrongFalsely : Prop := fnExactExtraPunchesRow.holds Try.pinned (OpenSpec.ofChange fnExactExtraPunchesWrong)

/-- 'laws.FnSplits': WHATEVER THE INPUT: true; the input reads as it did. -/
def fnSplitsSpec : ChangeSpec := { name := "fnSplits", fn := fun _ => fun
  | [d] => { results := [.lit (.bool true)], args := [d] }
  | _ => none }
def fnSplitsRow : OpenClaim := { program := "ytbpcejdpgckkoaa", sum := "51c4e90350397de22f61049b19a85750cf77232c9710f135e4119e2948815bf0", func := "loop.example/g00938/laws.FnSplits", spec := "fnSplits", unfollowed := true, recurses := true, apart := false }
def FnSplitsSaid : Prop := fnSplitsRow.holds Try.pinned (OpenSpec.ofChange fnSplitsSpec)

/-- ITS FALSE NEIGHBOUR: 'it returns false'. Refute it at one input. -/
def fnSplitsWrong : ChangeSpec := { name := "fnSplits", fn := fun _ => fun
  | [d] => { results := [.lit (.bool false)], args := [d] }
  | _ => none }
def FnSplitsWrongFalsely : Prop := fnSplitsRow.holds Try.pinned (OpenSpec.ofChange fnSplitsWrong)

/- THE SECOND FORM. 'bulk': how many values and letters a reading holds, each counted each time it is reached (what is shared counts as often as it is met; a slice's spare places count too). A statement '..UptoSaid' is the law's where the arguments, and the package variables that the reading takes, are together of bulk at most 1048576: NARROWER than '..Said'. Prove '..Said' where nothing that the law and all that it calls make is longer than what came in: it says more and counts as full. Else prove '..UptoSaid'. A law counts once. -/
mutual
def uptoBulk {H : Type} : DataW H → Nat
  | .lit (.string bytes) => bytes.length + 1
  | .lit _ => 1
  | .nil => 1
  | .ptr d => uptoBulk d + 1
  | .slice elems spare => uptoBulkAll elems + uptoBulkAll spare + 1
  | .agg parts => uptoBulkAll parts + 1
  | .iface _ d => uptoBulk d + 1
  | .map entries => uptoBulkEntries entries + 1
  | .held _ => 1
def uptoBulkAll {H : Type} : List (DataW H) → Nat
  | [] => 0
  | d :: r => uptoBulk d + uptoBulkAll r
def uptoBulkEntries {H : Type} : List (Lit × DataW H) → Nat
  | [] => 0
  | x :: r => uptoBulkEntry x + uptoBulkEntries r
def uptoBulkEntry {H : Type} : Lit × DataW H → Nat
  | (.string bytes, d) => bytes.length + uptoBulk d + 1
  | (_, d) => uptoBulk d + 1
 end
def uptoSmall : (H : Type) → List (DataW H) → Bool := fun _ ds => decide (uptoBulkAll ds ≤ 1048576)
def OpenSpec.upto (s : _root_.Go.ChangeSpec) : _root_.Go.OpenSpec := { _root_.Go.OpenSpec.ofChange s with cond := some uptoSmall }

/-- 'laws.FnExactFoundAt', WHERE WHAT IT READS IS OF BULK AT MOST 1048576: true; the input reads as it did. -/
def fnExactFoundAtUptoRow : OpenClaim := { program := "ytbpcejdpgckkoaa", sum := "51c4e90350397de22f61049b19a85750cf77232c9710f135e4119e2948815bf0", func := "loop.example/g00938/laws.FnExactFoundAt", spec := "fnExactFoundAt", unfollowed := true, recurses := true, apart := false, narrowed := true }
def FnExactFoundAtUptoSaid : Prop := fnExactFoundAtUptoRow.holds Try.pinned (OpenSpec.upto fnExactFoundAtSpec)

/-- 'laws.FnExactMissingCodes', WHERE WHAT IT READS IS OF BULK AT MOST 1048576: true; the input reads as it did. -/
def fnExactMissingCodesUptoRow : OpenClaim := { program := "ytbpcejdpgckkoaa", sum := "51c4e90350397de22f61049b19a85750cf77232c9710f135e4119e2948815bf0", func := "loop.example/g00938/laws.FnExactMissingCodes", spec := "fnExactMissingCodes", unfollowed := true, recurses := true, apart := false, narrowed := true }
def FnExactMissingCodesUptoSaid : Prop := fnExactMissingCodesUptoRow.holds Try.pinned (OpenSpec.upto fnExactMissingCodesSpec)

/-- 'laws.FnExactMostFound', WHERE WHAT IT READS IS OF BULK AT MOST 1048576: true; the input reads as it did. -/
def fnExactMostFoundUptoRow : OpenClaim := { program := "ytbpcejdpgckkoaa", sum := "51c4e90350397de22f61049b19a85750cf77232c9710f135e4119e2948815bf0", func := "loop.example/g00938/laws.FnExactMostFound", spec := "fnExactMostFound", unfollowed := true, recurses := true, apart := false, narrowed := true }
def FnExactMostFoundUptoSaid : Prop := fnExactMostFoundUptoRow.holds Try.pinned (OpenSpec.upto fnExactMostFoundSpec)

/-- 'laws.FnExactMergeRepeats', WHERE WHAT IT READS IS OF BULK AT MOST 1048576: true; the input reads as it did. -/
def fnExactMergeRepeatsUptoRow : OpenClaim := { program := "ytbpcejdpgckkoaa", sum := "51c4e90350397de22f61049b19a85750cf77232c9710f135e4119e2948815bf0", func := "loop.example/g00938/laws.FnExactMergeRepeats", spec := "fnExactMergeRepeats", apart := false, narrowed := true }
def FnExactMergeRepeatsUptoSaid : Prop := fnExactMergeRepeatsUptoRow.holds Try.pinned (OpenSpec.upto fnExactMergeRepeatsSpec)

/-- 'laws.FnExactSplitTimes', WHERE WHAT IT READS IS OF BULK AT MOST 1048576: true; the input reads as it did. -/
def fnExactSplitTimesUptoRow : OpenClaim := { program := "ytbpcejdpgckkoaa", sum := "51c4e90350397de22f61049b19a85750cf77232c9710f135e4119e2948815bf0", func := "loop.example/g00938/laws.FnExactSplitTimes", spec := "fnExactSplitTimes", unfollowed := true, recurses := true, apart := false, narrowed := true }
def FnExactSplitTimesUptoSaid : Prop := fnExactSplitTimesUptoRow.holds Try.pinned (OpenSpec.upto fnExactSplitTimesSpec)

/-- 'laws.FnExactExtraPunches', WHERE WHAT IT READS IS OF BULK AT MOST 1048576: true; the input reads as it did. -/
def fnExactExtraPunchesUptoRow : OpenClaim := { program := "ytbpcejdpgckkoaa", sum := "51c4e90350397de22f61049b19a85750cf77232c9710f135e4119e2948815bf0", func := "loop.example/g00938/laws.FnExactExtraPunches", spec := "fnExactExtraPunches", unfollowed := true, recurses := true, apart := false, narrowed := true }
def FnExactExtraPunchesUptoSaid : Prop := fnExactExtraPunchesUptoRow.holds Try.pinned (OpenSpec.upto fnExactExtraPunchesSpec)

/-- 'laws.FnSplits', WHERE WHAT IT READS IS OF BULK AT MOST 1048576: true; the input reads as it did. -/
def fnSplitsUptoRow : OpenClaim := { program := "ytbpcejdpgckkoaa", sum := "51c4e90350397de22f61049b19a85750cf77232c9710f135e4119e2948815bf0", func := "loop.example/g00938/laws.FnSplits", spec := "fnSplits", unfollowed := true, recurses := true, apart := false, narrowed := true }
def FnSplitsUptoSaid : Prop := fnSplitsUptoRow.holds Try.pinned (OpenSpec.upto fnSplitsSpec)

end Rows
end Go.Proofs.Ytbpcejdpgckkoaa
