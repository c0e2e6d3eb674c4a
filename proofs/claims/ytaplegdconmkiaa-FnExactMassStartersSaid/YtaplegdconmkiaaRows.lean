/-
  No cell of these rows narrows 'for every input' (looked for: loops, veiled, ifaces, maps, wideKeys, modest, calm, conditions, laid).
  DERIVED. THE GIVEN ROWS OF THIS SEAT. 11 by the template 'for every input the law returns true; each argument reads behind the call as it read before'; 0 by the template 'total and deterministic' (their statements: YtaplegdconmkiaaTotals.lean).
  GIVEN WITH THE SEED: the statements are not yours to turn. If you find one false, say at which input.
  Laid BY PROGRAM, IN A SANDBOX (cutbox-rows.mjs): the forced cells as the released guide's own fill.sh prints them over the translation 8d5e74e4de15ce31… (all of the seat's roots in one cut). By AI agents, Wed Nov 11 2026. No macro, syntax, notation, axiom, sorry.
-/
import Derived.Test.YtaplegdconmkiaaChecked
import GoSem.Claim
import GoSem.ClaimJoined
import GoSem.ClaimMapViews
import Derived.JoinedTies
import Derived.KernelRfl
namespace Go.Proofs.Ytaplegdconmkiaa
/- THE CELL 'sum', in the pinned program and in every row, IS THE sha256 OF THE DUMP (.gsa) THAT YtaplegdconmkiaaProg.lean LOADS. Nothing in Lean hashes anything: it is a label: what it is worth is what the hold of that sum in a sandbox is worth. -/
noncomputable def Try.pinned : Pinned := { name := "ytaplegdconmkiaa", sum := "8d5e74e4de15ce31139494c4f47baee1944cc400b2c03f03cf311bb8df2cd792", checked := Try.checked }
namespace Rows
def none {H : Type} : Left H := { results := [], args := [] }

/-- 'laws.FnExactAreTeams': WHATEVER THE INPUT: true; the input reads as it did. -/
def fnExactAreTeamsSpec : ChangeSpec := { name := "fnExactAreTeams", fn := fun _ => fun
  | [d1, d2] => { results := [.lit (.bool true)], args := [d1, d2] }
  | _ => none }
def fnExactAreTeamsRow : OpenClaim := { program := "ytaplegdconmkiaa", sum := "8d5e74e4de15ce31139494c4f47baee1944cc400b2c03f03cf311bb8df2cd792", func := "loop.example/g00938/laws.FnExactAreTeams", spec := "fnExactAreTeams", apart := false }
def FnExactAreTeamsSaid : Prop := fnExactAreTeamsRow.holds Try.pinned (OpenSpec.ofChange fnExactAreTeamsSpec)

/-- ITS FALSE NEIGHBOUR: 'it returns false'. Refute it at one input. -/
def fnExactAreTeamsWrong : ChangeSpec := { name := "fnExactAreTeams", fn := fun _ => fun
  | [d1, d2] => { results := [.lit (.bool false)], args := [d1, d2] }
  | _ => none }
def FnExactAreTeamsWrongFalsely : Prop := fnExactAreTeamsRow.holds Try.pinned (OpenSpec.ofChange fnExactAreTeamsWrong)

/-- 'laws.FnExactFastestOn': WHATEVER THE INPUT: true; the input reads as it did. -/
def fnExactFastestOnSpec : ChangeSpec := { name := "fnExactFastestOn", fn := fun _ => fun
  | [d1, d2, d3] => { results := [.lit (.bool true)], args := [d1, d2, d3] }
  | _ => none }
def fnExactFastestOnRow : OpenClaim := { program := "ytaplegdconmkiaa", sum := "8d5e74e4de15ce31139494c4f47baee1944cc400b2c03f03cf311bb8df2cd792", func := "loop.example/g00938/laws.FnExactFastestOn", spec := "fnExactFastestOn", apart := false }
def FnExactFastestOnSaid : Prop := fnExactFastestOnRow.holds Try.pinned (OpenSpec.ofChange fnExactFastestOnSpec)

/-- ITS FALSE NEIGHBOUR: 'it returns false'. Refute it at one input. -/
def fnExactFastestOnWrong : ChangeSpec := { name := "fnExactFastestOn", fn := fun _ => fun
  | [d1, d2, d3] => { results := [.lit (.bool false)], args := [d1, d2, d3] }
  | _ => none }
def FnExactFastestOnWrongFalsely : Prop := fnExactFastestOnRow.holds Try.pinned (OpenSpec.ofChange fnExactFastestOnWrong)

/-- 'laws.FnExactLeaderAfter': WHATEVER THE INPUT: true; the input reads as it did. -/
def fnExactLeaderAfterSpec : ChangeSpec := { name := "fnExactLeaderAfter", fn := fun _ => fun
  | [d1, d2, d3, d4] => { results := [.lit (.bool true)], args := [d1, d2, d3, d4] }
  | _ => none }
def fnExactLeaderAfterRow : OpenClaim := { program := "ytaplegdconmkiaa", sum := "8d5e74e4de15ce31139494c4f47baee1944cc400b2c03f03cf311bb8df2cd792", func := "loop.example/g00938/laws.FnExactLeaderAfter", spec := "fnExactLeaderAfter", apart := false }
def FnExactLeaderAfterSaid : Prop := fnExactLeaderAfterRow.holds Try.pinned (OpenSpec.ofChange fnExactLeaderAfterSpec)

/-- ITS FALSE NEIGHBOUR: 'it returns false'. Refute it at one input. -/
def fnExactLeaderAfterWrong : ChangeSpec := { name := "fnExactLeaderAfter", fn := fun _ => fun
  | [d1, d2, d3, d4] => { results := [.lit (.bool false)], args := [d1, d2, d3, d4] }
  | _ => none }
def FnExactLeaderAfterWrongFalsely : Prop := fnExactLeaderAfterRow.holds Try.pinned (OpenSpec.ofChange fnExactLeaderAfterWrong)

/-- 'laws.FnExactTeamTime': WHATEVER THE INPUT: true; the input reads as it did. -/
def fnExactTeamTimeSpec : ChangeSpec := { name := "fnExactTeamTime", fn := fun _ => fun
  | [d1, d2, d3] => { results := [.lit (.bool true)], args := [d1, d2, d3] }
  | _ => none }
def fnExactTeamTimeRow : OpenClaim := { program := "ytaplegdconmkiaa", sum := "8d5e74e4de15ce31139494c4f47baee1944cc400b2c03f03cf311bb8df2cd792", func := "loop.example/g00938/laws.FnExactTeamTime", spec := "fnExactTeamTime", unfollowed := true, recurses := true, apart := false }
def FnExactTeamTimeSaid : Prop := fnExactTeamTimeRow.holds Try.pinned (OpenSpec.ofChange fnExactTeamTimeSpec)

/-- ITS FALSE NEIGHBOUR: 'it returns false'. Refute it at one input. -/
def fnExactTeamTimeWrong : ChangeSpec := { name := "fnExactTeamTime", fn := fun _ => fun
  | [d1, d2, d3] => { results := [.lit (.bool false)], args := [d1, d2, d3] }
  | _ => none }
def FnExactTeamTimeWrongFalsely : Prop := fnExactTeamTimeRow.holds Try.pinned (OpenSpec.ofChange fnExactTeamTimeWrong)

/-- 'laws.FnExactStartOf': WHATEVER THE INPUT: true; the input reads as it did. -/
def fnExactStartOfSpec : ChangeSpec := { name := "fnExactStartOf", fn := fun _ => fun
  | [d1, d2, d3, d4, d5] => { results := [.lit (.bool true)], args := [d1, d2, d3, d4, d5] }
  | _ => none }
def fnExactStartOfRow : OpenClaim := { program := "ytaplegdconmkiaa", sum := "8d5e74e4de15ce31139494c4f47baee1944cc400b2c03f03cf311bb8df2cd792", func := "loop.example/g00938/laws.FnExactStartOf", spec := "fnExactStartOf", unfollowed := true, recurses := true, apart := false }
def FnExactStartOfSaid : Prop := fnExactStartOfRow.holds Try.pinned (OpenSpec.ofChange fnExactStartOfSpec)

/-- ITS FALSE NEIGHBOUR: 'it returns false'. Refute it at one input. -/
def fnExactStartOfWrong : ChangeSpec := { name := "fnExactStartOf", fn := fun _ => fun
  | [d1, d2, d3, d4, d5] => { results := [.lit (.bool false)], args := [d1, d2, d3, d4, d5] }
  | _ => none }
def FnExactStartOfWrongFalsely : Prop := fnExactStartOfRow.holds Try.pinned (OpenSpec.ofChange fnExactStartOfWrong)

/-- 'laws.FnExactAddLeg': WHATEVER THE INPUT: true; the input reads as it did. -/
def fnExactAddLegSpec : ChangeSpec := { name := "fnExactAddLeg", fn := fun _ => fun
  | [d1, d2, d3, d4] => { results := [.lit (.bool true)], args := [d1, d2, d3, d4] }
  | _ => none }
def fnExactAddLegRow : OpenClaim := { program := "ytaplegdconmkiaa", sum := "8d5e74e4de15ce31139494c4f47baee1944cc400b2c03f03cf311bb8df2cd792", func := "loop.example/g00938/laws.FnExactAddLeg", spec := "fnExactAddLeg", unfollowed := true, recurses := true, apart := false }
def FnExactAddLegSaid : Prop := fnExactAddLegRow.holds Try.pinned (OpenSpec.ofChange fnExactAddLegSpec)

/-- ITS FALSE NEIGHBOUR: 'it returns false'. Refute it at one input. -/
def fnExactAddLegWrong : ChangeSpec := { name := "fnExactAddLeg", fn := fun _ => fun
  | [d1, d2, d3, d4] => { results := [.lit (.bool false)], args := [d1, d2, d3, d4] }
  | _ => none }
def FnExactAddLegWrongFalsely : Prop := fnExactAddLegRow.holds Try.pinned (OpenSpec.ofChange fnExactAddLegWrong)

/-- 'laws.FnExactComesBack': WHATEVER THE INPUT: true; the input reads as it did. -/
def fnExactComesBackSpec : ChangeSpec := { name := "fnExactComesBack", fn := fun _ => fun
  | [d1, d2, d3, d4, d5] => { results := [.lit (.bool true)], args := [d1, d2, d3, d4, d5] }
  | _ => none }
def fnExactComesBackRow : OpenClaim := { program := "ytaplegdconmkiaa", sum := "8d5e74e4de15ce31139494c4f47baee1944cc400b2c03f03cf311bb8df2cd792", func := "loop.example/g00938/laws.FnExactComesBack", spec := "fnExactComesBack", unfollowed := true, recurses := true, apart := false }
def FnExactComesBackSaid : Prop := fnExactComesBackRow.holds Try.pinned (OpenSpec.ofChange fnExactComesBackSpec)

/-- ITS FALSE NEIGHBOUR: 'it returns false'. Refute it at one input. -/
def fnExactComesBackWrong : ChangeSpec := { name := "fnExactComesBack", fn := fun _ => fun
  | [d1, d2, d3, d4, d5] => { results := [.lit (.bool false)], args := [d1, d2, d3, d4, d5] }
  | _ => none }
def FnExactComesBackWrongFalsely : Prop := fnExactComesBackRow.holds Try.pinned (OpenSpec.ofChange fnExactComesBackWrong)

/-- 'laws.FnExactMassStarters': WHATEVER THE INPUT: true; the input reads as it did. -/
def fnExactMassStartersSpec : ChangeSpec := { name := "fnExactMassStarters", fn := fun _ => fun
  | [d1, d2, d3] => { results := [.lit (.bool true)], args := [d1, d2, d3] }
  | _ => none }
def fnExactMassStartersRow : OpenClaim := { program := "ytaplegdconmkiaa", sum := "8d5e74e4de15ce31139494c4f47baee1944cc400b2c03f03cf311bb8df2cd792", func := "loop.example/g00938/laws.FnExactMassStarters", spec := "fnExactMassStarters", apart := false }
def FnExactMassStartersSaid : Prop := fnExactMassStartersRow.holds Try.pinned (OpenSpec.ofChange fnExactMassStartersSpec)

/-- ITS FALSE NEIGHBOUR: 'it returns false'. Refute it at one input. -/
def fnExactMassStartersWrong : ChangeSpec := { name := "fnExactMassStarters", fn := fun _ => fun
  | [d1, d2, d3] => { results := [.lit (.bool false)], args := [d1, d2, d3] }
  | _ => none }
def FnExactMassStartersWrongFalsely : Prop := fnExactMassStartersRow.holds Try.pinned (OpenSpec.ofChange fnExactMassStartersWrong)

/-- 'laws.FnExactRelayOrder': WHATEVER THE INPUT: true; the input reads as it did. -/
def fnExactRelayOrderSpec : ChangeSpec := { name := "fnExactRelayOrder", fn := fun _ => fun
  | [d1, d2] => { results := [.lit (.bool true)], args := [d1, d2] }
  | _ => none }
def fnExactRelayOrderRow : OpenClaim := { program := "ytaplegdconmkiaa", sum := "8d5e74e4de15ce31139494c4f47baee1944cc400b2c03f03cf311bb8df2cd792", func := "loop.example/g00938/laws.FnExactRelayOrder", spec := "fnExactRelayOrder", unfollowed := true, recurses := true, apart := false }
def FnExactRelayOrderSaid : Prop := fnExactRelayOrderRow.holds Try.pinned (OpenSpec.ofChange fnExactRelayOrderSpec)

/-- ITS FALSE NEIGHBOUR: 'it returns false'. Refute it at one input. -/
def fnExactRelayOrderWrong : ChangeSpec := { name := "fnExactRelayOrder", fn := fun _ => fun
  | [d1, d2] => { results := [.lit (.bool false)], args := [d1, d2] }
  | _ => none }
def FnExactRelayOrderWrongFalsely : Prop := fnExactRelayOrderRow.holds Try.pinned (OpenSpec.ofChange fnExactRelayOrderWrong)

/-- 'laws.FnRelays': WHATEVER THE INPUT: true; the input reads as it did. -/
def fnRelaysSpec : ChangeSpec := { name := "fnRelays", fn := fun _ => fun
  | [d] => { results := [.lit (.bool true)], args := [d] }
  | _ => none }
def fnRelaysRow : OpenClaim := { program := "ytaplegdconmkiaa", sum := "8d5e74e4de15ce31139494c4f47baee1944cc400b2c03f03cf311bb8df2cd792", func := "loop.example/g00938/laws.FnRelays", spec := "fnRelays", unfollowed := true, recurses := true, apart := false }
def FnRelaysSaid : Prop := fnRelaysRow.holds Try.pinned (OpenSpec.ofChange fnRelaysSpec)

/-- ITS FALSE NEIGHBOUR: 'it returns false'. Refute it at one input. -/
def fnRelaysWrong : ChangeSpec := { name := "fnRelays", fn := fun _ => fun
  | [d] => { results := [.lit (.bool false)], args := [d] }
  | _ => none }
def FnRelaysWrongFalsely : Prop := fnRelaysRow.holds Try.pinned (OpenSpec.ofChange fnRelaysWrong)

/-- 'laws.FnLeaders': WHATEVER THE INPUT: true; the input reads as it did. -/
def fnLeadersSpec : ChangeSpec := { name := "fnLeaders", fn := fun _ => fun
  | [d] => { results := [.lit (.bool true)], args := [d] }
  | _ => none }
def fnLeadersRow : OpenClaim := { program := "ytaplegdconmkiaa", sum := "8d5e74e4de15ce31139494c4f47baee1944cc400b2c03f03cf311bb8df2cd792", func := "loop.example/g00938/laws.FnLeaders", spec := "fnLeaders", unfollowed := true, recurses := true, apart := false }
def FnLeadersSaid : Prop := fnLeadersRow.holds Try.pinned (OpenSpec.ofChange fnLeadersSpec)

/-- ITS FALSE NEIGHBOUR: 'it returns false'. Refute it at one input. -/
def fnLeadersWrong : ChangeSpec := { name := "fnLeaders", fn := fun _ => fun
  | [d] => { results := [.lit (.bool false)], args := [d] }
  | _ => none }
def FnLeadersWrongFalsely : Prop := fnLeadersRow.holds Try.pinned (OpenSpec.ofChange fnLeadersWrong)

/- THE SECOND FORM. 'bulk': how many values and letters a reading holds, each counted each time it is reached (what is shared counts as often as it is met; a slice's spare places count too). A statement '..UptoSaid' is the law's where the arguments, and the package variables that the reading takes, are together of bulk at most 1048576: NARROWER than '..Said'. Prove '..Said' where nothing that the law and all that it calls make is longer than what came in: it says more and counts as full. Else prove '..UptoSaid'. A law counts once. -/
mutual
def uptoBulk {H : Type} : DataW H → Nat
  | .lit (.string bytes) => bytes.length + 1
  | .lit _ => 1
  | .nil => 1
  | .ptr d => uptoBulk d + 1
  | .slice elems spare => uptoBulkAll elems + uptoBulkAll spare + 1
  | .agg parts => uptoBulkAll parts + 1
  | .iface _ d => uptoBulk d + 1
  | .map entries => uptoBulkEntries entries + 1
  | .held _ => 1
def uptoBulkAll {H : Type} : List (DataW H) → Nat
  | [] => 0
  | d :: r => uptoBulk d + uptoBulkAll r
def uptoBulkEntries {H : Type} : List (Lit × DataW H) → Nat
  | [] => 0
  | x :: r => uptoBulkEntry x + uptoBulkEntries r
def uptoBulkEntry {H : Type} : Lit × DataW H → Nat
  | (.string bytes, d) => bytes.length + uptoBulk d + 1
  | (_, d) => uptoBulk d + 1
 end
def uptoSmall : (H : Type) → List (DataW H) → Bool := fun _ ds => decide (uptoBulkAll ds ≤ 1048576)
def OpenSpec.upto (s : _root_.Go.ChangeSpec) : _root_.Go.OpenSpec := { _root_.Go.OpenSpec.ofChange s with cond := some uptoSmall }

/-- 'laws.FnExactAreTeams', WHERE WHAT IT READS IS OF BULK AT MOST 1048576: true; the input reads as it did. -/
def fnExactAreTeamsUptoRow : OpenClaim := { program := "ytaplegdconmkiaa", sum := "8d5e74e4de15ce31139494c4f47baee1944cc400b2c03f03cf311bb8df2cd792", func := "loop.example/g00938/laws.FnExactAreTeams", spec := "fnExactAreTeams", apart := false, narrowed := true }
def FnExactAreTeamsUptoSaid : Prop := fnExactAreTeamsUptoRow.holds Try.pinned (OpenSpec.upto fnExactAreTeamsSpec)

/-- 'laws.FnExactFastestOn', WHERE WHAT IT READS IS OF BULK AT MOST 1048576: true; the input reads as it did. -/
def fnExactFastestOnUptoRow : OpenClaim := { program := "ytaplegdconmkiaa", sum := "8d5e74e4de15ce31139494c4f47baee1944cc400b2c03f03cf311bb8df2cd792", func := "loop.example/g00938/laws.FnExactFastestOn", spec := "fnExactFastestOn", apart := false, narrowed := true }
def FnExactFastestOnUptoSaid : Prop := fnExactFastestOnUptoRow.holds Try.pinned (OpenSpec.upto fnExactFastestOnSpec)

/-- 'laws.FnExactLeaderAfter', WHERE WHAT IT READS IS OF BULK AT MOST 1048576: true; the input reads as it did. -/
def fnExactLeaderAfterUptoRow : OpenClaim := { program := "ytaplegdconmkiaa", sum := "8d5e74e4de15ce31139494c4f47baee1944cc400b2c03f03cf311bb8df2cd792", func := "loop.example/g00938/laws.FnExactLeaderAfter", spec := "fnExactLeaderAfter", apart := false, narrowed := true }
def FnExactLeaderAfterUptoSaid : Prop := fnExactLeaderAfterUptoRow.holds Try.pinned (OpenSpec.upto fnExactLeaderAfterSpec)

/-- 'laws.FnExactTeamTime', WHERE WHAT IT READS IS OF BULK AT MOST 1048576: true; the input reads as it did. -/
def fnExactTeamTimeUptoRow : OpenClaim := { program := "ytaplegdconmkiaa", sum := "8d5e74e4de15ce31139494c4f47baee1944cc400b2c03f03cf311bb8df2cd792", func := "loop.example/g00938/laws.FnExactTeamTime", spec := "fnExactTeamTime", unfollowed := true, recurses := true, apart := false, narrowed := true }
def FnExactTeamTimeUptoSaid : Prop := fnExactTeamTimeUptoRow.holds Try.pinned (OpenSpec.upto fnExactTeamTimeSpec)

/-- 'laws.FnExactStartOf', WHERE WHAT IT READS IS OF BULK AT MOST 1048576: true; the input reads as it did. -/
def fnExactStartOfUptoRow : OpenClaim := { program := "ytaplegdconmkiaa", sum := "8d5e74e4de15ce31139494c4f47baee1944cc400b2c03f03cf311bb8df2cd792", func := "loop.example/g00938/laws.FnExactStartOf", spec := "fnExactStartOf", unfollowed := true, recurses := true, apart := false, narrowed := true }
def FnExactStartOfUptoSaid : Prop := fnExactStartOfUptoRow.holds Try.pinned (OpenSpec.upto fnExactStartOfSpec)

/-- 'laws.FnExactAddLeg', WHERE WHAT IT READS IS OF BULK AT MOST 1048576: true; the input reads as it did. -/
def fnExactAddLegUptoRow : OpenClaim := { program := "ytaplegdconmkiaa", sum := "8d5e74e4de15ce31139494c4f47baee1944cc400b2c03f03cf311bb8df2cd792", func := "loop.example/g00938/laws.FnExactAddLeg", spec := "fnExactAddLeg", unfollowed := true, recurses := true, apart := false, narrowed := true }
def FnExactAddLegUptoSaid : Prop := fnExactAddLegUptoRow.holds Try.pinned (OpenSpec.upto fnExactAddLegSpec)

/-- 'laws.FnExactComesBack', WHERE WHAT IT READS IS OF BULK AT MOST 1048576: true; the input reads as it did. -/
def fnExactComesBackUptoRow : OpenClaim := { program := "ytaplegdconmkiaa", sum := "8d5e74e4de15ce31139494c4f47baee1944cc400b2c03f03cf311bb8df2cd792", func := "loop.example/g00938/laws.FnExactComesBack", spec := "fnExactComesBack", unfollowed := true, recurses := true, apart := false, narrowed := true }
def FnExactComesBackUptoSaid : Prop := fnExactComesBackUptoRow.holds Try.pinned (OpenSpec.upto fnExactComesBackSpec)

/-- 'laws.FnExactMassStarters', WHERE WHAT IT READS IS OF BULK AT MOST 1048576: true; the input reads as it did. -/
def fnExactMassStartersUptoRow : OpenClaim := { program := "ytaplegdconmkiaa", sum := "8d5e74e4de15ce31139494c4f47baee1944cc400b2c03f03cf311bb8df2cd792", func := "loop.example/g00938/laws.FnExactMassStarters", spec := "fnExactMassStarters", apart := false, narrowed := true }
def FnExactMassStartersUptoSaid : Prop := fnExactMassStartersUptoRow.holds Try.pinned (OpenSpec.upto fnExactMassStartersSpec)

/-- 'laws.FnExactRelayOrder', WHERE WHAT IT READS IS OF BULK AT MOST 1048576: true; the input reads as it did. -/
def fnExactRelayOrderUptoRow : OpenClaim := { program := "ytaplegdconmkiaa", sum := "8d5e74e4de15ce31139494c4f47baee1944cc400b2c03f03cf311bb8df2cd792", func := "loop.example/g00938/laws.FnExactRelayOrder", spec := "fnExactRelayOrder", unfollowed := true, recurses := true, apart := false, narrowed := true }
def FnExactRelayOrderUptoSaid : Prop := fnExactRelayOrderUptoRow.holds Try.pinned (OpenSpec.upto fnExactRelayOrderSpec)

/-- 'laws.FnRelays', WHERE WHAT IT READS IS OF BULK AT MOST 1048576: true; the input reads as it did. -/
def fnRelaysUptoRow : OpenClaim := { program := "ytaplegdconmkiaa", sum := "8d5e74e4de15ce31139494c4f47baee1944cc400b2c03f03cf311bb8df2cd792", func := "loop.example/g00938/laws.FnRelays", spec := "fnRelays", unfollowed := true, recurses := true, apart := false, narrowed := true }
def FnRelaysUptoSaid : Prop := fnRelaysUptoRow.holds Try.pinned (OpenSpec.upto fnRelaysSpec)

/-- 'laws.FnLeaders', WHERE WHAT IT READS IS OF BULK AT MOST 1048576: true; the input reads as it did. -/
def fnLeadersUptoRow : OpenClaim := { program := "ytaplegdconmkiaa", sum := "8d5e74e4de15ce31139494c4f47baee1944cc400b2c03f03cf311bb8df2cd792", func := "loop.example/g00938/laws.FnLeaders", spec := "fnLeaders", unfollowed := true, recurses := true, apart := false, narrowed := true }
def FnLeadersUptoSaid : Prop := fnLeadersUptoRow.holds Try.pinned (OpenSpec.upto fnLeadersSpec)

end Rows
end Go.Proofs.Ytaplegdconmkiaa
