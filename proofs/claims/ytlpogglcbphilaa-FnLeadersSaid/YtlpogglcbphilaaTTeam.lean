/-
  Proved here: teams and slices of teams: how they are read, copied, compared, measured.
  Conditions: the lengths fit an int.
-/
import Derived.Test.YtlpogglcbphilaaGRow
import Derived.Test.YtlpogglcbphilaaTIntS
namespace Go.Proofs.Ytlpogglcbphilaa
open Go.ChangeShapes Go.WideShapes Go.ChangeAt Go.RowKit Go.Joins Go.Deep

structure TeamD where
  num : Int
  legs : List Int
instance : Inhabited TeamD := ⟨⟨0, []⟩⟩
def TeamD.val (h : TeamD) (ao : Option Addr) (ac : Nat) : Value := .agg #[.int .i64 h.num, .slice ao h.legs.length ac]
def TeamD.eqB (x y : TeamD) : Bool := x.num == y.num && eqL eqI x.legs y.legs
theorem TeamD.eqB_iff (x y : TeamD) : x.eqB y = true ↔ x = y := by
  cases x; cases y; simp [TeamD.eqB, eqL_iff eqI_iff]
def TeamD.cd (x : TeamD) : Nat → CD
  | 0 => .v (.int .i64 x.num)
  | _ => .l x.legs
def tsC (ts : List TeamD) : Nat → Nat → CD := fun k => (nth ts k).cd
theorem teams_at {w : World} {b off k : Nat} {ts : List TeamD} (H : ∀ j, j < 2 → CellIs w ⟨b, off + k * 2 + j, none⟩ (tsC ts k j)) :
    ∃ ao ac, w.cell? ⟨b, off + k * 2, none⟩ = some (.int .i64 (nth ts k).num) ∧ w.cell? ⟨b, off + k * 2 + 1, none⟩ = some (.slice ao (nth ts k).legs.length ac) ∧
      RowAt w ao 1 (nth ts k).legs.length (ic (nth ts k).legs) ∧ (nth ts k).legs.length ≤ 9223372036854775807 ∧ (nth ts k).legs.length ≤ ac := by
  have e0 := H 0 (by decide)
  obtain ⟨ao, ac, e1, r1, c1, n1⟩ := H 1 (by decide)
  exact ⟨ao, ac, e0, e1, r1, n1, c1⟩

theorem infoTeam : (Try.prog.info? 51).map (fun i => (i.zero, i.size, i.bytes)) = some (some (.agg #[.int .i64 0, .slice none 0 0]), 2, 32) := by kernel_rfl

end Go.Proofs.Ytlpogglcbphilaa
