/-
  No cell of these rows narrows 'for every input' (looked for: loops, veiled, ifaces, maps, wideKeys, modest, calm, conditions, laid).
  DERIVED. THE GIVEN ROWS OF THIS SEAT. 4 by the template 'for every input the law returns true; each argument reads behind the call as it read before'; 0 by the template 'total and deterministic' (their statements: YtdfnkdikmijjdaaTotals.lean).
  GIVEN WITH THE SEED: the statements are not yours to turn. If you find one false, say at which input.
  Laid BY PROGRAM, IN A SANDBOX (cutbox-rows.mjs): the forced cells as the released guide's own fill.sh prints them over the translation 97c2894c8f12da55… (all of the seat's roots in one cut). By AI agents, Wed Nov 11 2026. No macro, syntax, notation, axiom, sorry.
-/
import Derived.Test.YtdfnkdikmijjdaaChecked
import GoSem.Claim
import GoSem.ClaimJoined
import GoSem.ClaimMapViews
import Derived.JoinedTies
import Derived.KernelRfl
namespace Go.Proofs.Ytdfnkdikmijjdaa
/- THE CELL 'sum', in the pinned program and in every row, IS THE sha256 OF THE DUMP (.gsa) THAT YtdfnkdikmijjdaaProg.lean LOADS. Nothing in Lean hashes anything: it is a label: what it is worth is what the hold of that sum in a sandbox is worth. -/
noncomputable def Try.pinned : Pinned := { name := "ytdfnkdikmijjdaa", sum := "97c2894c8f12da55d8f482d47460a4e40c51a501261d0418e584d95cbf2ec5a2", checked := Try.checked }
namespace Rows
def none {H : Type} : Left H := { results := [], args := [] }

/-- 'laws.FnExactIsScoreRule': WHATEVER THE INPUT: true; the input reads as it did. -/
def fnExactIsScoreRuleSpec : ChangeSpec := { name := "fnExactIsScoreRule", fn := fun _ => fun
  | [d1, d2, d3] => { results := [.lit (.bool true)], args := [d1, d2, d3] }
  | _ => none }
def fnExactIsScoreRuleRow : OpenClaim := { program := "ytdfnkdikmijjdaa", sum := "97c2894c8f12da55d8f482d47460a4e40c51a501261d0418e584d95cbf2ec5a2", func := "loop.example/g00938/laws.FnExactIsScoreRule", spec := "fnExactIsScoreRule", unfollowed := true, recurses := true, apart := false }
def FnExactIsScoreRuleSaid : Prop := fnExactIsScoreRuleRow.holds Try.pinned (OpenSpec.ofChange fnExactIsScoreRuleSpec)

/-- ITS FALSE NEIGHBOUR: 'it returns false'. Refute it at one input. -/
def fnExactIsScoreRuleWrong : ChangeSpec := { name := "fnExactIsScoreRule", fn := fun _ => fun
  | [d1, d2, d3] => { results := [.lit (.bool false)], args := [d1, d2, d3] }
  | _ => none }
def FnExactIsScoreRuleWrongFalsely : Prop := fnExactIsScoreRuleRow.holds Try.pinned (OpenSpec.ofChange fnExactIsScoreRuleWrong)

/-- 'laws.FnExactTotalPoints': WHATEVER THE INPUT: true; the input reads as it did. -/
def fnExactTotalPointsSpec : ChangeSpec := { name := "fnExactTotalPoints", fn := fun _ => fun
  | [d1, d2, d3] => { results := [.lit (.bool true)], args := [d1, d2, d3] }
  | _ => none }
def fnExactTotalPointsRow : OpenClaim := { program := "ytdfnkdikmijjdaa", sum := "97c2894c8f12da55d8f482d47460a4e40c51a501261d0418e584d95cbf2ec5a2", func := "loop.example/g00938/laws.FnExactTotalPoints", spec := "fnExactTotalPoints", unfollowed := true, recurses := true, apart := false }
def FnExactTotalPointsSaid : Prop := fnExactTotalPointsRow.holds Try.pinned (OpenSpec.ofChange fnExactTotalPointsSpec)

/-- ITS FALSE NEIGHBOUR: 'it returns false'. Refute it at one input. -/
def fnExactTotalPointsWrong : ChangeSpec := { name := "fnExactTotalPoints", fn := fun _ => fun
  | [d1, d2, d3] => { results := [.lit (.bool false)], args := [d1, d2, d3] }
  | _ => none }
def FnExactTotalPointsWrongFalsely : Prop := fnExactTotalPointsRow.holds Try.pinned (OpenSpec.ofChange fnExactTotalPointsWrong)

/-- 'laws.FnExactBreakEven': WHATEVER THE INPUT: true; the input reads as it did. -/
def fnExactBreakEvenSpec : ChangeSpec := { name := "fnExactBreakEven", fn := fun _ => fun
  | [d1, d2, d3, d4] => { results := [.lit (.bool true)], args := [d1, d2, d3, d4] }
  | _ => none }
def fnExactBreakEvenRow : OpenClaim := { program := "ytdfnkdikmijjdaa", sum := "97c2894c8f12da55d8f482d47460a4e40c51a501261d0418e584d95cbf2ec5a2", func := "loop.example/g00938/laws.FnExactBreakEven", spec := "fnExactBreakEven", unfollowed := true, recurses := true, apart := false }
def FnExactBreakEvenSaid : Prop := fnExactBreakEvenRow.holds Try.pinned (OpenSpec.ofChange fnExactBreakEvenSpec)

/-- ITS FALSE NEIGHBOUR: 'it returns false'. Refute it at one input. -/
def fnExactBreakEvenWrong : ChangeSpec := { name := "fnExactBreakEven", fn := fun _ => fun
  | [d1, d2, d3, d4] => { results := [.lit (.bool false)], args := [d1, d2, d3, d4] }
  | _ => none }
def FnExactBreakEvenWrongFalsely : Prop := fnExactBreakEvenRow.holds Try.pinned (OpenSpec.ofChange fnExactBreakEvenWrong)

/-- 'laws.FnExactScoreFor': WHATEVER THE INPUT: true; the input reads as it did. -/
def fnExactScoreForSpec : ChangeSpec := { name := "fnExactScoreFor", fn := fun _ => fun
  | [d1, d2, d3, d4, d5] => { results := [.lit (.bool true)], args := [d1, d2, d3, d4, d5] }
  | _ => none }
def fnExactScoreForRow : OpenClaim := { program := "ytdfnkdikmijjdaa", sum := "97c2894c8f12da55d8f482d47460a4e40c51a501261d0418e584d95cbf2ec5a2", func := "loop.example/g00938/laws.FnExactScoreFor", spec := "fnExactScoreFor", unfollowed := true, recurses := true, apart := false }
def FnExactScoreForSaid : Prop := fnExactScoreForRow.holds Try.pinned (OpenSpec.ofChange fnExactScoreForSpec)

/-- ITS FALSE NEIGHBOUR: 'it returns false'. Refute it at one input. -/
def fnExactScoreForWrong : ChangeSpec := { name := "fnExactScoreFor", fn := fun _ => fun
  | [d1, d2, d3, d4, d5] => { results := [.lit (.bool false)], args := [d1, d2, d3, d4, d5] }
  | _ => none }
def FnExactScoreForWrongFalsely : Prop := fnExactScoreForRow.holds Try.pinned (OpenSpec.ofChange fnExactScoreForWrong)

/- THE SECOND FORM. 'bulk': how many values and letters a reading holds, each counted each time it is reached (what is shared counts as often as it is met; a slice's spare places count too). A statement '..UptoSaid' is the law's where the arguments, and the package variables that the reading takes, are together of bulk at most 1048576: NARROWER than '..Said'. Prove '..Said' where nothing that the law and all that it calls make is longer than what came in: it says more and counts as full. Else prove '..UptoSaid'. A law counts once. -/
mutual
def uptoBulk {H : Type} : DataW H → Nat
  | .lit (.string bytes) => bytes.length + 1
  | .lit _ => 1
  | .nil => 1
  | .ptr d => uptoBulk d + 1
  | .slice elems spare => uptoBulkAll elems + uptoBulkAll spare + 1
  | .agg parts => uptoBulkAll parts + 1
  | .iface _ d => uptoBulk d + 1
  | .map entries => uptoBulkEntries entries + 1
  | .held _ => 1
def uptoBulkAll {H : Type} : List (DataW H) → Nat
  | [] => 0
  | d :: r => uptoBulk d + uptoBulkAll r
def uptoBulkEntries {H : Type} : List (Lit × DataW H) → Nat
  | [] => 0
  | x :: r => uptoBulkEntry x + uptoBulkEntries r
def uptoBulkEntry {H : Type} : Lit × DataW H → Nat
  | (.string bytes, d) => bytes.length + uptoBulk d + 1
  | (_, d) => uptoBulk d + 1
 end
def uptoSmall : (H : Type) → List (DataW H) → Bool := fun _ ds => decide (uptoBulkAll ds ≤ 1048576)
def OpenSpec.upto (s : _root_.Go.ChangeSpec) : _root_.Go.OpenSpec := { _root_.Go.OpenSpec.ofChange s with cond := some uptoSmall }

/-- 'laws.FnExactIsScoreRule', WHERE WHAT IT READS IS OF BULK AT MOST 1048576: true; the input reads as it did. -/
def fnExactIsScoreRuleUptoRow : OpenClaim := { program := "ytdfnkdikmijjdaa", sum := "97c2894c8f12da55d8f482d47460a4e40c51a501261d0418e584d95cbf2ec5a2", func := "loop.example/g00938/laws.FnExactIsScoreRule", spec := "fnExactIsScoreRule", unfollowed := true, recurses := true, apart := false, narrowed := true }
def FnExactIsScoreRuleUptoSaid : Prop := fnExactIsScoreRuleUptoRow.holds Try.pinned (OpenSpec.upto fnExactIsScoreRuleSpec)

/-- 'laws.FnExactTotalPoints', WHERE WHAT IT READS IS OF BULK AT MOST 1048576: true; the input reads as it did. -/
def fnExactTotalPointsUptoRow : OpenClaim := { program := "ytdfnkdikmijjdaa", sum := "97c2894c8f12da55d8f482d47460a4e40c51a501261d0418e584d95cbf2ec5a2", func := "loop.example/g00938/laws.FnExactTotalPoints", spec := "fnExactTotalPoints", unfollowed := true, recurses := true, apart := false, narrowed := true }
def FnExactTotalPointsUptoSaid : Prop := fnExactTotalPointsUptoRow.holds Try.pinned (OpenSpec.upto fnExactTotalPointsSpec)

/-- 'laws.FnExactBreakEven', WHERE WHAT IT READS IS OF BULK AT MOST 1048576: true; the input reads as it did. -/
def fnExactBreakEvenUptoRow : OpenClaim := { program := "ytdfnkdikmijjdaa", sum := "97c2894c8f12da55d8f482d47460a4e40c51a501261d0418e584d95cbf2ec5a2", func := "loop.example/g00938/laws.FnExactBreakEven", spec := "fnExactBreakEven", unfollowed := true, recurses := true, apart := false, narrowed := true }
def FnExactBreakEvenUptoSaid : Prop := fnExactBreakEvenUptoRow.holds Try.pinned (OpenSpec.upto fnExactBreakEvenSpec)

/-- 'laws.FnExactScoreFor', WHERE WHAT IT READS IS OF BULK AT MOST 1048576: true; the input reads as it did. -/
def fnExactScoreForUptoRow : OpenClaim := { program := "ytdfnkdikmijjdaa", sum := "97c2894c8f12da55d8f482d47460a4e40c51a501261d0418e584d95cbf2ec5a2", func := "loop.example/g00938/laws.FnExactScoreFor", spec := "fnExactScoreFor", unfollowed := true, recurses := true, apart := false, narrowed := true }
def FnExactScoreForUptoSaid : Prop := fnExactScoreForUptoRow.holds Try.pinned (OpenSpec.upto fnExactScoreForSpec)

end Rows
end Go.Proofs.Ytdfnkdikmijjdaa
