/-
  No cell of these rows narrows 'for every input' (looked for: loops, veiled, ifaces, maps, wideKeys, modest, calm, conditions, laid).
  DERIVED. THE GIVEN ROWS OF THIS SEAT. 2 by the template 'for every input the law returns true; each argument reads behind the call as it read before'; 0 by the template 'total and deterministic' (their statements: YtemencnfackplaaTotals.lean).
  GIVEN WITH THE SEED: the statements are not yours to turn. If you find one false, say at which input.
  Laid BY PROGRAM, IN A SANDBOX (cutbox-rows.mjs): the forced cells as the released guide's own fill.sh prints them over the translation f82bbb61f70e6a20… (all of the seat's roots in one cut). By AI agents, Wed Nov 11 2026. No macro, syntax, notation, axiom, sorry.
-/
import Derived.Test.YtemencnfackplaaChecked
import GoSem.Claim
import GoSem.ClaimJoined
import GoSem.ClaimMapViews
import Derived.JoinedTies
import Derived.KernelRfl
namespace Go.Proofs.Ytemencnfackplaa
/- THE CELL 'sum', in the pinned program and in every row, IS THE sha256 OF THE DUMP (.gsa) THAT YtemencnfackplaaProg.lean LOADS. Nothing in Lean hashes anything: it is a label: what it is worth is what the hold of that sum in a sandbox is worth. -/
noncomputable def Try.pinned : Pinned := { name := "ytemencnfackplaa", sum := "f82bbb61f70e6a20d5792d3c21d3731b24369ca05514b71ad7fe9f2470c1147b", checked := Try.checked }
namespace Rows
def none {H : Type} : Left H := { results := [], args := [] }

/-- 'laws.FnExactAddMark': WHATEVER THE INPUT: true; the input reads as it did. -/
def fnExactAddMarkSpec : ChangeSpec := { name := "fnExactAddMark", fn := fun _ => fun
  | [d1, d2] => { results := [.lit (.bool true)], args := [d1, d2] }
  | _ => none }
def fnExactAddMarkRow : OpenClaim := { program := "ytemencnfackplaa", sum := "f82bbb61f70e6a20d5792d3c21d3731b24369ca05514b71ad7fe9f2470c1147b", func := "loop.example/g00938/laws.FnExactAddMark", spec := "fnExactAddMark", inPlace := ["slices.overlaps[loop.example/g00938/impl.ClockMark]"], apart := false }
def FnExactAddMarkSaid : Prop := fnExactAddMarkRow.holds Try.pinned (OpenSpec.ofChange fnExactAddMarkSpec)

/-- ITS FALSE NEIGHBOUR: 'it returns false'. Refute it at one input. -/
def fnExactAddMarkWrong : ChangeSpec := { name := "fnExactAddMark", fn := fun _ => fun
  | [d1, d2] => { results := [.lit (.bool false)], args := [d1, d2] }
  | _ => none }
def FnExactAddMarkWrongFalsely : Prop := fnExactAddMarkRow.holds Try.pinned (OpenSpec.ofChange fnExactAddMarkWrong)

/-- 'laws.FnClocks': WHATEVER THE INPUT: true; the input reads as it did. -/
def fnClocksSpec : ChangeSpec := { name := "fnClocks", fn := fun _ => fun
  | [d] => { results := [.lit (.bool true)], args := [d] }
  | _ => none }
def fnClocksRow : OpenClaim := { program := "ytemencnfackplaa", sum := "f82bbb61f70e6a20d5792d3c21d3731b24369ca05514b71ad7fe9f2470c1147b", func := "loop.example/g00938/laws.FnClocks", spec := "fnClocks", inPlace := ["slices.overlaps[loop.example/g00938/impl.ClockMark]"], apart := false }
def FnClocksSaid : Prop := fnClocksRow.holds Try.pinned (OpenSpec.ofChange fnClocksSpec)

/-- ITS FALSE NEIGHBOUR: 'it returns false'. Refute it at one input. -/
def fnClocksWrong : ChangeSpec := { name := "fnClocks", fn := fun _ => fun
  | [d] => { results := [.lit (.bool false)], args := [d] }
  | _ => none }
def FnClocksWrongFalsely : Prop := fnClocksRow.holds Try.pinned (OpenSpec.ofChange fnClocksWrong)

/- THE SECOND FORM. 'bulk': how many values and letters a reading holds, each counted each time it is reached (what is shared counts as often as it is met; a slice's spare places count too). A statement '..UptoSaid' is the law's where the arguments, and the package variables that the reading takes, are together of bulk at most 1048576: NARROWER than '..Said'. Prove '..Said' where nothing that the law and all that it calls make is longer than what came in: it says more and counts as full. Else prove '..UptoSaid'. A law counts once. -/
mutual
def uptoBulk {H : Type} : DataW H → Nat
  | .lit (.string bytes) => bytes.length + 1
  | .lit _ => 1
  | .nil => 1
  | .ptr d => uptoBulk d + 1
  | .slice elems spare => uptoBulkAll elems + uptoBulkAll spare + 1
  | .agg parts => uptoBulkAll parts + 1
  | .iface _ d => uptoBulk d + 1
  | .map entries => uptoBulkEntries entries + 1
  | .held _ => 1
def uptoBulkAll {H : Type} : List (DataW H) → Nat
  | [] => 0
  | d :: r => uptoBulk d + uptoBulkAll r
def uptoBulkEntries {H : Type} : List (Lit × DataW H) → Nat
  | [] => 0
  | x :: r => uptoBulkEntry x + uptoBulkEntries r
def uptoBulkEntry {H : Type} : Lit × DataW H → Nat
  | (.string bytes, d) => bytes.length + uptoBulk d + 1
  | (_, d) => uptoBulk d + 1
 end
def uptoSmall : (H : Type) → List (DataW H) → Bool := fun _ ds => decide (uptoBulkAll ds ≤ 1048576)
def OpenSpec.upto (s : _root_.Go.ChangeSpec) : _root_.Go.OpenSpec := { _root_.Go.OpenSpec.ofChange s with cond := some uptoSmall }

/-- 'laws.FnExactAddMark', WHERE WHAT IT READS IS OF BULK AT MOST 1048576: true; the input reads as it did. -/
def fnExactAddMarkUptoRow : OpenClaim := { program := "ytemencnfackplaa", sum := "f82bbb61f70e6a20d5792d3c21d3731b24369ca05514b71ad7fe9f2470c1147b", func := "loop.example/g00938/laws.FnExactAddMark", spec := "fnExactAddMark", inPlace := ["slices.overlaps[loop.example/g00938/impl.ClockMark]"], apart := false, narrowed := true }
def FnExactAddMarkUptoSaid : Prop := fnExactAddMarkUptoRow.holds Try.pinned (OpenSpec.upto fnExactAddMarkSpec)

/-- 'laws.FnClocks', WHERE WHAT IT READS IS OF BULK AT MOST 1048576: true; the input reads as it did. -/
def fnClocksUptoRow : OpenClaim := { program := "ytemencnfackplaa", sum := "f82bbb61f70e6a20d5792d3c21d3731b24369ca05514b71ad7fe9f2470c1147b", func := "loop.example/g00938/laws.FnClocks", spec := "fnClocks", inPlace := ["slices.overlaps[loop.example/g00938/impl.ClockMark]"], apart := false, narrowed := true }
def FnClocksUptoSaid : Prop := fnClocksUptoRow.holds Try.pinned (OpenSpec.upto fnClocksSpec)

end Rows
end Go.Proofs.Ytemencnfackplaa
