/-
  No cell of these rows narrows 'for every input' (looked for: loops, veiled, ifaces, maps, wideKeys, modest, calm, conditions, laid).
  DERIVED. THE GIVEN ROWS OF THIS SEAT. 12 by the template 'for every input the law returns true; each argument reads behind the call as it read before'; 0 by the template 'total and deterministic' (their statements: YtomhhnhcpbpalaaTotals.lean).
  GIVEN WITH THE SEED: the statements are not yours to turn. If you find one false, say at which input.
  Laid BY PROGRAM, IN A SANDBOX (cutbox-rows.mjs): the forced cells as the released guide's own fill.sh prints them over the translation 1244a662c1a4132a… (all of the seat's roots in one cut). By AI agents, Wed Nov 11 2026. No macro, syntax, notation, axiom, sorry.
-/
import Derived.Test.YtomhhnhcpbpalaaChecked
import GoSem.Claim
import GoSem.ClaimJoined
import GoSem.ClaimMapViews
import Derived.JoinedTies
import Derived.KernelRfl
namespace Go.Proofs.Ytomhhnhcpbpalaa
/- THE CELL 'sum', in the pinned program and in every row, IS THE sha256 OF THE DUMP (.gsa) THAT YtomhhnhcpbpalaaProg.lean LOADS. Nothing in Lean hashes anything: it is a label: what it is worth is what the hold of that sum in a sandbox is worth. -/
noncomputable def Try.pinned : Pinned := { name := "ytomhhnhcpbpalaa", sum := "1244a662c1a4132af5a0db0f8cb915cc7ac8d1f6feee8df7563c9081442352d0", checked := Try.checked }
namespace Rows
def none {H : Type} : Left H := { results := [], args := [] }

/-- 'laws.FnExactIsProof': WHATEVER THE INPUT: true; the input reads as it did. -/
def fnExactIsProofSpec : ChangeSpec := { name := "fnExactIsProof", fn := fun _ => fun
  | [d] => { results := [.lit (.bool true)], args := [d] }
  | _ => none }
def fnExactIsProofRow : OpenClaim := { program := "ytomhhnhcpbpalaa", sum := "1244a662c1a4132af5a0db0f8cb915cc7ac8d1f6feee8df7563c9081442352d0", func := "loop.example/g00938/laws.FnExactIsProof", spec := "fnExactIsProof", apart := false }
def FnExactIsProofSaid : Prop := fnExactIsProofRow.holds Try.pinned (OpenSpec.ofChange fnExactIsProofSpec)

/-- ITS FALSE NEIGHBOUR: 'it returns false'. Refute it at one input. -/
def fnExactIsProofWrong : ChangeSpec := { name := "fnExactIsProof", fn := fun _ => fun
  | [d] => { results := [.lit (.bool false)], args := [d] }
  | _ => none }
def FnExactIsProofWrongFalsely : Prop := fnExactIsProofRow.holds Try.pinned (OpenSpec.ofChange fnExactIsProofWrong)

/-- 'laws.FnExactAreProofs': WHATEVER THE INPUT: true; the input reads as it did. -/
def fnExactAreProofsSpec : ChangeSpec := { name := "fnExactAreProofs", fn := fun _ => fun
  | [d] => { results := [.lit (.bool true)], args := [d] }
  | _ => none }
def fnExactAreProofsRow : OpenClaim := { program := "ytomhhnhcpbpalaa", sum := "1244a662c1a4132af5a0db0f8cb915cc7ac8d1f6feee8df7563c9081442352d0", func := "loop.example/g00938/laws.FnExactAreProofs", spec := "fnExactAreProofs", unfollowed := true, recurses := true, apart := false }
def FnExactAreProofsSaid : Prop := fnExactAreProofsRow.holds Try.pinned (OpenSpec.ofChange fnExactAreProofsSpec)

/-- ITS FALSE NEIGHBOUR: 'it returns false'. Refute it at one input. -/
def fnExactAreProofsWrong : ChangeSpec := { name := "fnExactAreProofs", fn := fun _ => fun
  | [d] => { results := [.lit (.bool false)], args := [d] }
  | _ => none }
def FnExactAreProofsWrongFalsely : Prop := fnExactAreProofsRow.holds Try.pinned (OpenSpec.ofChange fnExactAreProofsWrong)

/-- 'laws.FnExactAddProof': WHATEVER THE INPUT: true; the input reads as it did. -/
def fnExactAddProofSpec : ChangeSpec := { name := "fnExactAddProof", fn := fun _ => fun
  | [d1, d2] => { results := [.lit (.bool true)], args := [d1, d2] }
  | _ => none }
def fnExactAddProofRow : OpenClaim := { program := "ytomhhnhcpbpalaa", sum := "1244a662c1a4132af5a0db0f8cb915cc7ac8d1f6feee8df7563c9081442352d0", func := "loop.example/g00938/laws.FnExactAddProof", spec := "fnExactAddProof", unfollowed := true, recurses := true, apart := false }
def FnExactAddProofSaid : Prop := fnExactAddProofRow.holds Try.pinned (OpenSpec.ofChange fnExactAddProofSpec)

/-- ITS FALSE NEIGHBOUR: 'it returns false'. Refute it at one input. -/
def fnExactAddProofWrong : ChangeSpec := { name := "fnExactAddProof", fn := fun _ => fun
  | [d1, d2] => { results := [.lit (.bool false)], args := [d1, d2] }
  | _ => none }
def FnExactAddProofWrongFalsely : Prop := fnExactAddProofRow.holds Try.pinned (OpenSpec.ofChange fnExactAddProofWrong)

/-- 'laws.FnExactBalanceOf': WHATEVER THE INPUT: true; the input reads as it did. -/
def fnExactBalanceOfSpec : ChangeSpec := { name := "fnExactBalanceOf", fn := fun _ => fun
  | [d1, d2, d3] => { results := [.lit (.bool true)], args := [d1, d2, d3] }
  | _ => none }
def fnExactBalanceOfRow : OpenClaim := { program := "ytomhhnhcpbpalaa", sum := "1244a662c1a4132af5a0db0f8cb915cc7ac8d1f6feee8df7563c9081442352d0", func := "loop.example/g00938/laws.FnExactBalanceOf", spec := "fnExactBalanceOf", unfollowed := true, recurses := true, apart := false }
def FnExactBalanceOfSaid : Prop := fnExactBalanceOfRow.holds Try.pinned (OpenSpec.ofChange fnExactBalanceOfSpec)

/-- ITS FALSE NEIGHBOUR: 'it returns false'. Refute it at one input. -/
def fnExactBalanceOfWrong : ChangeSpec := { name := "fnExactBalanceOf", fn := fun _ => fun
  | [d1, d2, d3] => { results := [.lit (.bool false)], args := [d1, d2, d3] }
  | _ => none }
def FnExactBalanceOfWrongFalsely : Prop := fnExactBalanceOfRow.holds Try.pinned (OpenSpec.ofChange fnExactBalanceOfWrong)

/-- 'laws.FnExactDropWeak': WHATEVER THE INPUT: true; the input reads as it did. -/
def fnExactDropWeakSpec : ChangeSpec := { name := "fnExactDropWeak", fn := fun _ => fun
  | [d1, d2] => { results := [.lit (.bool true)], args := [d1, d2] }
  | _ => none }
def fnExactDropWeakRow : OpenClaim := { program := "ytomhhnhcpbpalaa", sum := "1244a662c1a4132af5a0db0f8cb915cc7ac8d1f6feee8df7563c9081442352d0", func := "loop.example/g00938/laws.FnExactDropWeak", spec := "fnExactDropWeak", unfollowed := true, recurses := true, apart := false }
def FnExactDropWeakSaid : Prop := fnExactDropWeakRow.holds Try.pinned (OpenSpec.ofChange fnExactDropWeakSpec)

/-- ITS FALSE NEIGHBOUR: 'it returns false'. Refute it at one input. -/
def fnExactDropWeakWrong : ChangeSpec := { name := "fnExactDropWeak", fn := fun _ => fun
  | [d1, d2] => { results := [.lit (.bool false)], args := [d1, d2] }
  | _ => none }
def FnExactDropWeakWrongFalsely : Prop := fnExactDropWeakRow.holds Try.pinned (OpenSpec.ofChange fnExactDropWeakWrong)

/-- 'laws.FnExactIsBelieved': WHATEVER THE INPUT: true; the input reads as it did. -/
def fnExactIsBelievedSpec : ChangeSpec := { name := "fnExactIsBelieved", fn := fun _ => fun
  | [d1, d2, d3, d4] => { results := [.lit (.bool true)], args := [d1, d2, d3, d4] }
  | _ => none }
def fnExactIsBelievedRow : OpenClaim := { program := "ytomhhnhcpbpalaa", sum := "1244a662c1a4132af5a0db0f8cb915cc7ac8d1f6feee8df7563c9081442352d0", func := "loop.example/g00938/laws.FnExactIsBelieved", spec := "fnExactIsBelieved", unfollowed := true, recurses := true, apart := false }
def FnExactIsBelievedSaid : Prop := fnExactIsBelievedRow.holds Try.pinned (OpenSpec.ofChange fnExactIsBelievedSpec)

/-- ITS FALSE NEIGHBOUR: 'it returns false'. Refute it at one input. -/
def fnExactIsBelievedWrong : ChangeSpec := { name := "fnExactIsBelieved", fn := fun _ => fun
  | [d1, d2, d3, d4] => { results := [.lit (.bool false)], args := [d1, d2, d3, d4] }
  | _ => none }
def FnExactIsBelievedWrongFalsely : Prop := fnExactIsBelievedRow.holds Try.pinned (OpenSpec.ofChange fnExactIsBelievedWrong)

/-- 'laws.FnExactLacksFor': WHATEVER THE INPUT: true; the input reads as it did. -/
def fnExactLacksForSpec : ChangeSpec := { name := "fnExactLacksFor", fn := fun _ => fun
  | [d1, d2, d3, d4] => { results := [.lit (.bool true)], args := [d1, d2, d3, d4] }
  | _ => none }
def fnExactLacksForRow : OpenClaim := { program := "ytomhhnhcpbpalaa", sum := "1244a662c1a4132af5a0db0f8cb915cc7ac8d1f6feee8df7563c9081442352d0", func := "loop.example/g00938/laws.FnExactLacksFor", spec := "fnExactLacksFor", unfollowed := true, recurses := true, apart := false }
def FnExactLacksForSaid : Prop := fnExactLacksForRow.holds Try.pinned (OpenSpec.ofChange fnExactLacksForSpec)

/-- ITS FALSE NEIGHBOUR: 'it returns false'. Refute it at one input. -/
def fnExactLacksForWrong : ChangeSpec := { name := "fnExactLacksFor", fn := fun _ => fun
  | [d1, d2, d3, d4] => { results := [.lit (.bool false)], args := [d1, d2, d3, d4] }
  | _ => none }
def FnExactLacksForWrongFalsely : Prop := fnExactLacksForRow.holds Try.pinned (OpenSpec.ofChange fnExactLacksForWrong)

/-- 'laws.FnExactStrongestFor': WHATEVER THE INPUT: true; the input reads as it did. -/
def fnExactStrongestForSpec : ChangeSpec := { name := "fnExactStrongestFor", fn := fun _ => fun
  | [d1, d2, d3] => { results := [.lit (.bool true)], args := [d1, d2, d3] }
  | _ => none }
def fnExactStrongestForRow : OpenClaim := { program := "ytomhhnhcpbpalaa", sum := "1244a662c1a4132af5a0db0f8cb915cc7ac8d1f6feee8df7563c9081442352d0", func := "loop.example/g00938/laws.FnExactStrongestFor", spec := "fnExactStrongestFor", unfollowed := true, recurses := true, apart := false }
def FnExactStrongestForSaid : Prop := fnExactStrongestForRow.holds Try.pinned (OpenSpec.ofChange fnExactStrongestForSpec)

/-- ITS FALSE NEIGHBOUR: 'it returns false'. Refute it at one input. -/
def fnExactStrongestForWrong : ChangeSpec := { name := "fnExactStrongestFor", fn := fun _ => fun
  | [d1, d2, d3] => { results := [.lit (.bool false)], args := [d1, d2, d3] }
  | _ => none }
def FnExactStrongestForWrongFalsely : Prop := fnExactStrongestForRow.holds Try.pinned (OpenSpec.ofChange fnExactStrongestForWrong)

/-- 'laws.FnExactBelievedCodes': WHATEVER THE INPUT: true; the input reads as it did. -/
def fnExactBelievedCodesSpec : ChangeSpec := { name := "fnExactBelievedCodes", fn := fun _ => fun
  | [d1, d2, d3] => { results := [.lit (.bool true)], args := [d1, d2, d3] }
  | _ => none }
def fnExactBelievedCodesRow : OpenClaim := { program := "ytomhhnhcpbpalaa", sum := "1244a662c1a4132af5a0db0f8cb915cc7ac8d1f6feee8df7563c9081442352d0", func := "loop.example/g00938/laws.FnExactBelievedCodes", spec := "fnExactBelievedCodes", unfollowed := true, recurses := true, apart := false }
def FnExactBelievedCodesSaid : Prop := fnExactBelievedCodesRow.holds Try.pinned (OpenSpec.ofChange fnExactBelievedCodesSpec)

/-- ITS FALSE NEIGHBOUR: 'it returns false'. Refute it at one input. -/
def fnExactBelievedCodesWrong : ChangeSpec := { name := "fnExactBelievedCodes", fn := fun _ => fun
  | [d1, d2, d3] => { results := [.lit (.bool false)], args := [d1, d2, d3] }
  | _ => none }
def FnExactBelievedCodesWrongFalsely : Prop := fnExactBelievedCodesRow.holds Try.pinned (OpenSpec.ofChange fnExactBelievedCodesWrong)

/-- 'laws.FnExactContradictions': WHATEVER THE INPUT: true; the input reads as it did. -/
def fnExactContradictionsSpec : ChangeSpec := { name := "fnExactContradictions", fn := fun _ => fun
  | [d] => { results := [.lit (.bool true)], args := [d] }
  | _ => none }
def fnExactContradictionsRow : OpenClaim := { program := "ytomhhnhcpbpalaa", sum := "1244a662c1a4132af5a0db0f8cb915cc7ac8d1f6feee8df7563c9081442352d0", func := "loop.example/g00938/laws.FnExactContradictions", spec := "fnExactContradictions", unfollowed := true, recurses := true, apart := false }
def FnExactContradictionsSaid : Prop := fnExactContradictionsRow.holds Try.pinned (OpenSpec.ofChange fnExactContradictionsSpec)

/-- ITS FALSE NEIGHBOUR: 'it returns false'. Refute it at one input. -/
def fnExactContradictionsWrong : ChangeSpec := { name := "fnExactContradictions", fn := fun _ => fun
  | [d] => { results := [.lit (.bool false)], args := [d] }
  | _ => none }
def FnExactContradictionsWrongFalsely : Prop := fnExactContradictionsRow.holds Try.pinned (OpenSpec.ofChange fnExactContradictionsWrong)

/-- 'laws.FnEvidence': WHATEVER THE INPUT: true; the input reads as it did. -/
def fnEvidenceSpec : ChangeSpec := { name := "fnEvidence", fn := fun _ => fun
  | [d] => { results := [.lit (.bool true)], args := [d] }
  | _ => none }
def fnEvidenceRow : OpenClaim := { program := "ytomhhnhcpbpalaa", sum := "1244a662c1a4132af5a0db0f8cb915cc7ac8d1f6feee8df7563c9081442352d0", func := "loop.example/g00938/laws.FnEvidence", spec := "fnEvidence", unfollowed := true, recurses := true, apart := false }
def FnEvidenceSaid : Prop := fnEvidenceRow.holds Try.pinned (OpenSpec.ofChange fnEvidenceSpec)

/-- ITS FALSE NEIGHBOUR: 'it returns false'. Refute it at one input. -/
def fnEvidenceWrong : ChangeSpec := { name := "fnEvidence", fn := fun _ => fun
  | [d] => { results := [.lit (.bool false)], args := [d] }
  | _ => none }
def FnEvidenceWrongFalsely : Prop := fnEvidenceRow.holds Try.pinned (OpenSpec.ofChange fnEvidenceWrong)

/-- 'laws.FnProofs': WHATEVER THE INPUT: true; the input reads as it did. -/
def fnProofsSpec : ChangeSpec := { name := "fnProofs", fn := fun _ => fun
  | [d] => { results := [.lit (.bool true)], args := [d] }
  | _ => none }
def fnProofsRow : OpenClaim := { program := "ytomhhnhcpbpalaa", sum := "1244a662c1a4132af5a0db0f8cb915cc7ac8d1f6feee8df7563c9081442352d0", func := "loop.example/g00938/laws.FnProofs", spec := "fnProofs", unfollowed := true, recurses := true, apart := false }
def FnProofsSaid : Prop := fnProofsRow.holds Try.pinned (OpenSpec.ofChange fnProofsSpec)

/-- ITS FALSE NEIGHBOUR: 'it returns false'. Refute it at one input. -/
def fnProofsWrong : ChangeSpec := { name := "fnProofs", fn := fun _ => fun
  | [d] => { results := [.lit (.bool false)], args := [d] }
  | _ => none }
def FnProofsWrongFalsely : Prop := fnProofsRow.holds Try.pinned (OpenSpec.ofChange fnProofsWrong)

/- THE SECOND FORM. 'bulk': how many values and letters a reading holds, each counted each time it is reached (what is shared counts as often as it is met; a slice's spare places count too). A statement '..UptoSaid' is the law's where the arguments, and the package variables that the reading takes, are together of bulk at most 1048576: NARROWER than '..Said'. Prove '..Said' where nothing that the law and all that it calls make is longer than what came in: it says more and counts as full. Else prove '..UptoSaid'. A law counts once. -/
mutual
def uptoBulk {H : Type} : DataW H → Nat
  | .lit (.string bytes) => bytes.length + 1
  | .lit _ => 1
  | .nil => 1
  | .ptr d => uptoBulk d + 1
  | .slice elems spare => uptoBulkAll elems + uptoBulkAll spare + 1
  | .agg parts => uptoBulkAll parts + 1
  | .iface _ d => uptoBulk d + 1
  | .map entries => uptoBulkEntries entries + 1
  | .held _ => 1
def uptoBulkAll {H : Type} : List (DataW H) → Nat
  | [] => 0
  | d :: r => uptoBulk d + uptoBulkAll r
def uptoBulkEntries {H : Type} : List (Lit × DataW H) → Nat
  | [] => 0
  | x :: r => uptoBulkEntry x + uptoBulkEntries r
def uptoBulkEntry {H : Type} : Lit × DataW H → Nat
  | (.string bytes, d) => bytes.length + uptoBulk d + 1
  | (_, d) => uptoBulk d + 1
 end
def uptoSmall : (H : Type) → List (DataW H) → Bool := fun _ ds => decide (uptoBulkAll ds ≤ 1048576)
def OpenSpec.upto (s : _root_.Go.ChangeSpec) : _root_.Go.OpenSpec := { _root_.Go.OpenSpec.ofChange s with cond := some uptoSmall }

/-- 'laws.FnExactIsProof', WHERE WHAT IT READS IS OF BULK AT MOST 1048576: true; the input reads as it did. -/
def fnExactIsProofUptoRow : OpenClaim := { program := "ytomhhnhcpbpalaa", sum := "1244a662c1a4132af5a0db0f8cb915cc7ac8d1f6feee8df7563c9081442352d0", func := "loop.example/g00938/laws.FnExactIsProof", spec := "fnExactIsProof", apart := false, narrowed := true }
def FnExactIsProofUptoSaid : Prop := fnExactIsProofUptoRow.holds Try.pinned (OpenSpec.upto fnExactIsProofSpec)

/-- 'laws.FnExactAreProofs', WHERE WHAT IT READS IS OF BULK AT MOST 1048576: true; the input reads as it did. -/
def fnExactAreProofsUptoRow : OpenClaim := { program := "ytomhhnhcpbpalaa", sum := "1244a662c1a4132af5a0db0f8cb915cc7ac8d1f6feee8df7563c9081442352d0", func := "loop.example/g00938/laws.FnExactAreProofs", spec := "fnExactAreProofs", unfollowed := true, recurses := true, apart := false, narrowed := true }
def FnExactAreProofsUptoSaid : Prop := fnExactAreProofsUptoRow.holds Try.pinned (OpenSpec.upto fnExactAreProofsSpec)

/-- 'laws.FnExactAddProof', WHERE WHAT IT READS IS OF BULK AT MOST 1048576: true; the input reads as it did. -/
def fnExactAddProofUptoRow : OpenClaim := { program := "ytomhhnhcpbpalaa", sum := "1244a662c1a4132af5a0db0f8cb915cc7ac8d1f6feee8df7563c9081442352d0", func := "loop.example/g00938/laws.FnExactAddProof", spec := "fnExactAddProof", unfollowed := true, recurses := true, apart := false, narrowed := true }
def FnExactAddProofUptoSaid : Prop := fnExactAddProofUptoRow.holds Try.pinned (OpenSpec.upto fnExactAddProofSpec)

/-- 'laws.FnExactBalanceOf', WHERE WHAT IT READS IS OF BULK AT MOST 1048576: true; the input reads as it did. -/
def fnExactBalanceOfUptoRow : OpenClaim := { program := "ytomhhnhcpbpalaa", sum := "1244a662c1a4132af5a0db0f8cb915cc7ac8d1f6feee8df7563c9081442352d0", func := "loop.example/g00938/laws.FnExactBalanceOf", spec := "fnExactBalanceOf", unfollowed := true, recurses := true, apart := false, narrowed := true }
def FnExactBalanceOfUptoSaid : Prop := fnExactBalanceOfUptoRow.holds Try.pinned (OpenSpec.upto fnExactBalanceOfSpec)

/-- 'laws.FnExactDropWeak', WHERE WHAT IT READS IS OF BULK AT MOST 1048576: true; the input reads as it did. -/
def fnExactDropWeakUptoRow : OpenClaim := { program := "ytomhhnhcpbpalaa", sum := "1244a662c1a4132af5a0db0f8cb915cc7ac8d1f6feee8df7563c9081442352d0", func := "loop.example/g00938/laws.FnExactDropWeak", spec := "fnExactDropWeak", unfollowed := true, recurses := true, apart := false, narrowed := true }
def FnExactDropWeakUptoSaid : Prop := fnExactDropWeakUptoRow.holds Try.pinned (OpenSpec.upto fnExactDropWeakSpec)

/-- 'laws.FnExactIsBelieved', WHERE WHAT IT READS IS OF BULK AT MOST 1048576: true; the input reads as it did. -/
def fnExactIsBelievedUptoRow : OpenClaim := { program := "ytomhhnhcpbpalaa", sum := "1244a662c1a4132af5a0db0f8cb915cc7ac8d1f6feee8df7563c9081442352d0", func := "loop.example/g00938/laws.FnExactIsBelieved", spec := "fnExactIsBelieved", unfollowed := true, recurses := true, apart := false, narrowed := true }
def FnExactIsBelievedUptoSaid : Prop := fnExactIsBelievedUptoRow.holds Try.pinned (OpenSpec.upto fnExactIsBelievedSpec)

/-- 'laws.FnExactLacksFor', WHERE WHAT IT READS IS OF BULK AT MOST 1048576: true; the input reads as it did. -/
def fnExactLacksForUptoRow : OpenClaim := { program := "ytomhhnhcpbpalaa", sum := "1244a662c1a4132af5a0db0f8cb915cc7ac8d1f6feee8df7563c9081442352d0", func := "loop.example/g00938/laws.FnExactLacksFor", spec := "fnExactLacksFor", unfollowed := true, recurses := true, apart := false, narrowed := true }
def FnExactLacksForUptoSaid : Prop := fnExactLacksForUptoRow.holds Try.pinned (OpenSpec.upto fnExactLacksForSpec)

/-- 'laws.FnExactStrongestFor', WHERE WHAT IT READS IS OF BULK AT MOST 1048576: true; the input reads as it did. -/
def fnExactStrongestForUptoRow : OpenClaim := { program := "ytomhhnhcpbpalaa", sum := "1244a662c1a4132af5a0db0f8cb915cc7ac8d1f6feee8df7563c9081442352d0", func := "loop.example/g00938/laws.FnExactStrongestFor", spec := "fnExactStrongestFor", unfollowed := true, recurses := true, apart := false, narrowed := true }
def FnExactStrongestForUptoSaid : Prop := fnExactStrongestForUptoRow.holds Try.pinned (OpenSpec.upto fnExactStrongestForSpec)

/-- 'laws.FnExactBelievedCodes', WHERE WHAT IT READS IS OF BULK AT MOST 1048576: true; the input reads as it did. -/
def fnExactBelievedCodesUptoRow : OpenClaim := { program := "ytomhhnhcpbpalaa", sum := "1244a662c1a4132af5a0db0f8cb915cc7ac8d1f6feee8df7563c9081442352d0", func := "loop.example/g00938/laws.FnExactBelievedCodes", spec := "fnExactBelievedCodes", unfollowed := true, recurses := true, apart := false, narrowed := true }
def FnExactBelievedCodesUptoSaid : Prop := fnExactBelievedCodesUptoRow.holds Try.pinned (OpenSpec.upto fnExactBelievedCodesSpec)

/-- 'laws.FnExactContradictions', WHERE WHAT IT READS IS OF BULK AT MOST 1048576: true; the input reads as it did. -/
def fnExactContradictionsUptoRow : OpenClaim := { program := "ytomhhnhcpbpalaa", sum := "1244a662c1a4132af5a0db0f8cb915cc7ac8d1f6feee8df7563c9081442352d0", func := "loop.example/g00938/laws.FnExactContradictions", spec := "fnExactContradictions", unfollowed := true, recurses := true, apart := false, narrowed := true }
def FnExactContradictionsUptoSaid : Prop := fnExactContradictionsUptoRow.holds Try.pinned (OpenSpec.upto fnExactContradictionsSpec)

/-- 'laws.FnEvidence', WHERE WHAT IT READS IS OF BULK AT MOST 1048576: true; the input reads as it did. -/
def fnEvidenceUptoRow : OpenClaim := { program := "ytomhhnhcpbpalaa", sum := "1244a662c1a4132af5a0db0f8cb915cc7ac8d1f6feee8df7563c9081442352d0", func := "loop.example/g00938/laws.FnEvidence", spec := "fnEvidence", unfollowed := true, recurses := true, apart := false, narrowed := true }
def FnEvidenceUptoSaid : Prop := fnEvidenceUptoRow.holds Try.pinned (OpenSpec.upto fnEvidenceSpec)

/-- 'laws.FnProofs', WHERE WHAT IT READS IS OF BULK AT MOST 1048576: true; the input reads as it did. -/
def fnProofsUptoRow : OpenClaim := { program := "ytomhhnhcpbpalaa", sum := "1244a662c1a4132af5a0db0f8cb915cc7ac8d1f6feee8df7563c9081442352d0", func := "loop.example/g00938/laws.FnProofs", spec := "fnProofs", unfollowed := true, recurses := true, apart := false, narrowed := true }
def FnProofsUptoSaid : Prop := fnProofsUptoRow.holds Try.pinned (OpenSpec.upto fnProofsSpec)

end Rows
end Go.Proofs.Ytomhhnhcpbpalaa
