/-
  No cell of these rows narrows 'for every input' (looked for: loops, veiled, ifaces, maps, wideKeys, modest, calm, conditions, laid).
  DERIVED. THE GIVEN ROWS OF THIS SEAT. 6 by the template 'for every input the law returns true; each argument reads behind the call as it read before'; 0 by the template 'total and deterministic' (their statements: YtidcfohlhamgmaaTotals.lean).
  GIVEN WITH THE SEED: the statements are not yours to turn. If you find one false, say at which input.
  Laid BY PROGRAM, IN A SANDBOX (cutbox-rows.mjs): the forced cells as the released guide's own fill.sh prints them over the translation 7079a742b1d4c466… (all of the seat's roots in one cut). By AI agents, Wed Nov 11 2026. No macro, syntax, notation, axiom, sorry.
-/
import Derived.Test.YtidcfohlhamgmaaChecked
import GoSem.Claim
import GoSem.ClaimJoined
import GoSem.ClaimMapViews
import Derived.JoinedTies
import Derived.KernelRfl
namespace Go.Proofs.Ytidcfohlhamgmaa
/- THE CELL 'sum', in the pinned program and in every row, IS THE sha256 OF THE DUMP (.gsa) THAT YtidcfohlhamgmaaProg.lean LOADS. Nothing in Lean hashes anything: it is a label: what it is worth is what the hold of that sum in a sandbox is worth. -/
noncomputable def Try.pinned : Pinned := { name := "ytidcfohlhamgmaa", sum := "7079a742b1d4c466ea5cacadb646b04a20b8cf94abc2e01d6d0bc373b5ef90c6", checked := Try.checked }
namespace Rows
def none {H : Type} : Left H := { results := [], args := [] }

/-- 'laws.FnExactTourTime': WHATEVER THE INPUT: true; the input reads as it did. -/
def fnExactTourTimeSpec : ChangeSpec := { name := "fnExactTourTime", fn := fun _ => fun
  | [d1, d2, d3, d4] => { results := [.lit (.bool true)], args := [d1, d2, d3, d4] }
  | _ => none }
def fnExactTourTimeRow : OpenClaim := { program := "ytidcfohlhamgmaa", sum := "7079a742b1d4c466ea5cacadb646b04a20b8cf94abc2e01d6d0bc373b5ef90c6", func := "loop.example/g00938/laws.FnExactTourTime", spec := "fnExactTourTime", unfollowed := true, recurses := true, apart := false }
def FnExactTourTimeSaid : Prop := fnExactTourTimeRow.holds Try.pinned (OpenSpec.ofChange fnExactTourTimeSpec)

/-- ITS FALSE NEIGHBOUR: 'it returns false'. Refute it at one input. -/
def fnExactTourTimeWrong : ChangeSpec := { name := "fnExactTourTime", fn := fun _ => fun
  | [d1, d2, d3, d4] => { results := [.lit (.bool false)], args := [d1, d2, d3, d4] }
  | _ => none }
def FnExactTourTimeWrongFalsely : Prop := fnExactTourTimeRow.holds Try.pinned (OpenSpec.ofChange fnExactTourTimeWrong)

/-- 'laws.FnExactTourScore': WHATEVER THE INPUT: true; the input reads as it did. -/
def fnExactTourScoreSpec : ChangeSpec := { name := "fnExactTourScore", fn := fun _ => fun
  | [d1, d2, d3, d4, d5] => { results := [.lit (.bool true)], args := [d1, d2, d3, d4, d5] }
  | _ => none }
def fnExactTourScoreRow : OpenClaim := { program := "ytidcfohlhamgmaa", sum := "7079a742b1d4c466ea5cacadb646b04a20b8cf94abc2e01d6d0bc373b5ef90c6", func := "loop.example/g00938/laws.FnExactTourScore", spec := "fnExactTourScore", unfollowed := true, recurses := true, apart := false }
def FnExactTourScoreSaid : Prop := fnExactTourScoreRow.holds Try.pinned (OpenSpec.ofChange fnExactTourScoreSpec)

/-- ITS FALSE NEIGHBOUR: 'it returns false'. Refute it at one input. -/
def fnExactTourScoreWrong : ChangeSpec := { name := "fnExactTourScore", fn := fun _ => fun
  | [d1, d2, d3, d4, d5] => { results := [.lit (.bool false)], args := [d1, d2, d3, d4, d5] }
  | _ => none }
def FnExactTourScoreWrongFalsely : Prop := fnExactTourScoreRow.holds Try.pinned (OpenSpec.ofChange fnExactTourScoreWrong)

/-- 'laws.FnExactGreedyTour': WHATEVER THE INPUT: true; the input reads as it did. -/
def fnExactGreedyTourSpec : ChangeSpec := { name := "fnExactGreedyTour", fn := fun _ => fun
  | [d1, d2, d3, d4] => { results := [.lit (.bool true)], args := [d1, d2, d3, d4] }
  | _ => none }
def fnExactGreedyTourRow : OpenClaim := { program := "ytidcfohlhamgmaa", sum := "7079a742b1d4c466ea5cacadb646b04a20b8cf94abc2e01d6d0bc373b5ef90c6", func := "loop.example/g00938/laws.FnExactGreedyTour", spec := "fnExactGreedyTour", unfollowed := true, recurses := true, apart := false }
def FnExactGreedyTourSaid : Prop := fnExactGreedyTourRow.holds Try.pinned (OpenSpec.ofChange fnExactGreedyTourSpec)

/-- ITS FALSE NEIGHBOUR: 'it returns false'. Refute it at one input. -/
def fnExactGreedyTourWrong : ChangeSpec := { name := "fnExactGreedyTour", fn := fun _ => fun
  | [d1, d2, d3, d4] => { results := [.lit (.bool false)], args := [d1, d2, d3, d4] }
  | _ => none }
def FnExactGreedyTourWrongFalsely : Prop := fnExactGreedyTourRow.holds Try.pinned (OpenSpec.ofChange fnExactGreedyTourWrong)

/-- 'laws.FnExactBestTour': WHATEVER THE INPUT: true; the input reads as it did. -/
def fnExactBestTourSpec : ChangeSpec := { name := "fnExactBestTour", fn := fun _ => fun
  | [d1, d2, d3, d4] => { results := [.lit (.bool true)], args := [d1, d2, d3, d4] }
  | _ => none }
def fnExactBestTourRow : OpenClaim := { program := "ytidcfohlhamgmaa", sum := "7079a742b1d4c466ea5cacadb646b04a20b8cf94abc2e01d6d0bc373b5ef90c6", func := "loop.example/g00938/laws.FnExactBestTour", spec := "fnExactBestTour", unfollowed := true, recurses := true, apart := false }
def FnExactBestTourSaid : Prop := fnExactBestTourRow.holds Try.pinned (OpenSpec.ofChange fnExactBestTourSpec)

/-- ITS FALSE NEIGHBOUR: 'it returns false'. Refute it at one input. -/
def fnExactBestTourWrong : ChangeSpec := { name := "fnExactBestTour", fn := fun _ => fun
  | [d1, d2, d3, d4] => { results := [.lit (.bool false)], args := [d1, d2, d3, d4] }
  | _ => none }
def FnExactBestTourWrongFalsely : Prop := fnExactBestTourRow.holds Try.pinned (OpenSpec.ofChange fnExactBestTourWrong)

/-- 'laws.FnScores': WHATEVER THE INPUT: true; the input reads as it did. -/
def fnScoresSpec : ChangeSpec := { name := "fnScores", fn := fun _ => fun
  | [d] => { results := [.lit (.bool true)], args := [d] }
  | _ => none }
def fnScoresRow : OpenClaim := { program := "ytidcfohlhamgmaa", sum := "7079a742b1d4c466ea5cacadb646b04a20b8cf94abc2e01d6d0bc373b5ef90c6", func := "loop.example/g00938/laws.FnScores", spec := "fnScores", unfollowed := true, recurses := true, apart := false }
def FnScoresSaid : Prop := fnScoresRow.holds Try.pinned (OpenSpec.ofChange fnScoresSpec)

/-- ITS FALSE NEIGHBOUR: 'it returns false'. Refute it at one input. -/
def fnScoresWrong : ChangeSpec := { name := "fnScores", fn := fun _ => fun
  | [d] => { results := [.lit (.bool false)], args := [d] }
  | _ => none }
def FnScoresWrongFalsely : Prop := fnScoresRow.holds Try.pinned (OpenSpec.ofChange fnScoresWrong)

/-- 'laws.FnTours': WHATEVER THE INPUT: true; the input reads as it did. -/
def fnToursSpec : ChangeSpec := { name := "fnTours", fn := fun _ => fun
  | [d] => { results := [.lit (.bool true)], args := [d] }
  | _ => none }
def fnToursRow : OpenClaim := { program := "ytidcfohlhamgmaa", sum := "7079a742b1d4c466ea5cacadb646b04a20b8cf94abc2e01d6d0bc373b5ef90c6", func := "loop.example/g00938/laws.FnTours", spec := "fnTours", unfollowed := true, recurses := true, apart := false }
def FnToursSaid : Prop := fnToursRow.holds Try.pinned (OpenSpec.ofChange fnToursSpec)

/-- ITS FALSE NEIGHBOUR: 'it returns false'. Refute it at one input. -/
def fnToursWrong : ChangeSpec := { name := "fnTours", fn := fun _ => fun
  | [d] => { results := [.lit (.bool false)], args := [d] }
  | _ => none }
def FnToursWrongFalsely : Prop := fnToursRow.holds Try.pinned (OpenSpec.ofChange fnToursWrong)

/- THE SECOND FORM. 'bulk': how many values and letters a reading holds, each counted each time it is reached (what is shared counts as often as it is met; a slice's spare places count too). A statement '..UptoSaid' is the law's where the arguments, and the package variables that the reading takes, are together of bulk at most 1048576: NARROWER than '..Said'. Prove '..Said' where nothing that the law and all that it calls make is longer than what came in: it says more and counts as full. Else prove '..UptoSaid'. A law counts once. -/
mutual
def uptoBulk {H : Type} : DataW H → Nat
  | .lit (.string bytes) => bytes.length + 1
  | .lit _ => 1
  | .nil => 1
  | .ptr d => uptoBulk d + 1
  | .slice elems spare => uptoBulkAll elems + uptoBulkAll spare + 1
  | .agg parts => uptoBulkAll parts + 1
  | .iface _ d => uptoBulk d + 1
  | .map entries => uptoBulkEntries entries + 1
  | .held _ => 1
def uptoBulkAll {H : Type} : List (DataW H) → Nat
  | [] => 0
  | d :: r => uptoBulk d + uptoBulkAll r
def uptoBulkEntries {H : Type} : List (Lit × DataW H) → Nat
  | [] => 0
  | x :: r => uptoBulkEntry x + uptoBulkEntries r
def uptoBulkEntry {H : Type} : Lit × DataW H → Nat
  | (.string bytes, d) => bytes.length + uptoBulk d + 1
  | (_, d) => uptoBulk d + 1
 end
def uptoSmall : (H : Type) → List (DataW H) → Bool := fun _ ds => decide (uptoBulkAll ds ≤ 1048576)
def OpenSpec.upto (s : _root_.Go.ChangeSpec) : _root_.Go.OpenSpec := { _root_.Go.OpenSpec.ofChange s with cond := some uptoSmall }

/-- 'laws.FnExactTourTime', WHERE WHAT IT READS IS OF BULK AT MOST 1048576: true; the input reads as it did. -/
def fnExactTourTimeUptoRow : OpenClaim := { program := "ytidcfohlhamgmaa", sum := "7079a742b1d4c466ea5cacadb646b04a20b8cf94abc2e01d6d0bc373b5ef90c6", func := "loop.example/g00938/laws.FnExactTourTime", spec := "fnExactTourTime", unfollowed := true, recurses := true, apart := false, narrowed := true }
def FnExactTourTimeUptoSaid : Prop := fnExactTourTimeUptoRow.holds Try.pinned (OpenSpec.upto fnExactTourTimeSpec)

/-- 'laws.FnExactTourScore', WHERE WHAT IT READS IS OF BULK AT MOST 1048576: true; the input reads as it did. -/
def fnExactTourScoreUptoRow : OpenClaim := { program := "ytidcfohlhamgmaa", sum := "7079a742b1d4c466ea5cacadb646b04a20b8cf94abc2e01d6d0bc373b5ef90c6", func := "loop.example/g00938/laws.FnExactTourScore", spec := "fnExactTourScore", unfollowed := true, recurses := true, apart := false, narrowed := true }
def FnExactTourScoreUptoSaid : Prop := fnExactTourScoreUptoRow.holds Try.pinned (OpenSpec.upto fnExactTourScoreSpec)

/-- 'laws.FnExactGreedyTour', WHERE WHAT IT READS IS OF BULK AT MOST 1048576: true; the input reads as it did. -/
def fnExactGreedyTourUptoRow : OpenClaim := { program := "ytidcfohlhamgmaa", sum := "7079a742b1d4c466ea5cacadb646b04a20b8cf94abc2e01d6d0bc373b5ef90c6", func := "loop.example/g00938/laws.FnExactGreedyTour", spec := "fnExactGreedyTour", unfollowed := true, recurses := true, apart := false, narrowed := true }
def FnExactGreedyTourUptoSaid : Prop := fnExactGreedyTourUptoRow.holds Try.pinned (OpenSpec.upto fnExactGreedyTourSpec)

/-- 'laws.FnExactBestTour', WHERE WHAT IT READS IS OF BULK AT MOST 1048576: true; the input reads as it did. -/
def fnExactBestTourUptoRow : OpenClaim := { program := "ytidcfohlhamgmaa", sum := "7079a742b1d4c466ea5cacadb646b04a20b8cf94abc2e01d6d0bc373b5ef90c6", func := "loop.example/g00938/laws.FnExactBestTour", spec := "fnExactBestTour", unfollowed := true, recurses := true, apart := false, narrowed := true }
def FnExactBestTourUptoSaid : Prop := fnExactBestTourUptoRow.holds Try.pinned (OpenSpec.upto fnExactBestTourSpec)

/-- 'laws.FnScores', WHERE WHAT IT READS IS OF BULK AT MOST 1048576: true; the input reads as it did. -/
def fnScoresUptoRow : OpenClaim := { program := "ytidcfohlhamgmaa", sum := "7079a742b1d4c466ea5cacadb646b04a20b8cf94abc2e01d6d0bc373b5ef90c6", func := "loop.example/g00938/laws.FnScores", spec := "fnScores", unfollowed := true, recurses := true, apart := false, narrowed := true }
def FnScoresUptoSaid : Prop := fnScoresUptoRow.holds Try.pinned (OpenSpec.upto fnScoresSpec)

/-- 'laws.FnTours', WHERE WHAT IT READS IS OF BULK AT MOST 1048576: true; the input reads as it did. -/
def fnToursUptoRow : OpenClaim := { program := "ytidcfohlhamgmaa", sum := "7079a742b1d4c466ea5cacadb646b04a20b8cf94abc2e01d6d0bc373b5ef90c6", func := "loop.example/g00938/laws.FnTours", spec := "fnTours", unfollowed := true, recurses := true, apart := false, narrowed := true }
def FnToursUptoSaid : Prop := fnToursUptoRow.holds Try.pinned (OpenSpec.upto fnToursSpec)

end Rows
end Go.Proofs.Ytidcfohlhamgmaa
