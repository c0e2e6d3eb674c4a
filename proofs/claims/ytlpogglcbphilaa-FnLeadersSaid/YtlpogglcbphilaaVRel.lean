/-
  Proved here: the laws' own comparisons of pairs and of teams, at equal lists.
  Conditions: the lengths fit an int.
-/
import Derived.Test.YtlpogglcbphilaaVeq
import Derived.Test.YtlpogglcbphilaaRel9
import Derived.Test.YtlpogglcbphilaaTmV
namespace Go.Proofs.Ytlpogglcbphilaa
open Go.RowKit

theorem run_neq_A2 (a b : Int) (w : World) : (binOp .neq 43 (.agg #[.int .i64 a, .int .i64 b]) (.agg #[.int .i64 a, .int .i64 b])).run Try.prog w = .ok (.bool false) w := by
  obtain ⟨i0, hi, hz0, hz1, hz2⟩ := info_parts infoInt
  have u0 := run_underlying Try.underlying43
  have u1 := run_underlying Try.underlying3
  have h : ∀ d : Nat, (Op.equalIn (d + 2) 43 (.agg #[.int .i64 a, .int .i64 b]) (.agg #[.int .i64 a, .int .i64 b])).run Try.prog w = .ok true w := fun d => by
    simp [Op.equalIn, u0, u1, typeInfo, hi, sizeOf, hz1, List.range', isAgg, part]
  simp only [binOp]
  simp [Op.equal, Op.maxDepth, h 9998]

theorem laws_vPairs {ao bo : Option Addr} {ac bc : Nat} {xs : List Par} {w : World} (h : RowAt w ao 2 xs.length (fun k => (nth xs k).c)) (h' : RowAt w bo 2 xs.length (fun k => (nth xs k).c)) (hn : xs.length ≤ 9223372036854775807) :
    Calls Try.prog 22 #[.slice ao xs.length ac, .slice bo xs.length bc] w fun e w' => e = .returned (.bool true) ∧ Ext w w' := by
  go_enter Try.func22, Try.ntmps22
  go_wp2
  go_loopw [5] (fun i wr => ∃ k : Nat, k ≤ xs.length ∧ i = .int .i64 k ∧ Ext w wr) (fun i _ => xs.length - (intOf i).toNat)
  case atStart => exact ⟨0, Nat.zero_le _, rfl, Ext.refl _⟩
  case round =>
    obtain ⟨k, hk, rfl, hx⟩ := hrel
    by_cases hlt : k < xs.length
    · obtain ⟨b, off, rfl, hcell⟩ := h (by omega)
      obtain ⟨b', off', rfl, hcell'⟩ := h' (by omega)
      have d0 : wr.cell? ⟨b, off + k * 2, none⟩ = some (.int .i64 (nth xs k).a) := hx.cells (hcell k hlt 0 (by decide))
      have d1 : wr.cell? ⟨b, off + k * 2 + 1, none⟩ = some (.int .i64 (nth xs k).b) := hx.cells (hcell k hlt 1 (by decide))
      have d2 : wr.cell? ⟨b', off' + k * 2, none⟩ = some (.int .i64 (nth xs k).a) := hx.cells (hcell' k hlt 0 (by decide))
      have d3 : wr.cell? ⟨b', off' + k * 2 + 1, none⟩ = some (.int .i64 (nth xs k).b) := hx.cells (hcell' k hlt 1 (by decide))
      have hk0 : (0 : Int) ≤ (k : Int) := by omega
      have hk1 : (k : Int) < (xs.length : Int) := by omega
      have HNE := fun w => run_neq_A2 (nth xs k).a (nth xs k).b w
      clear hcell hcell'
      go_wp2
      go_quiet (fail)
      go_wp2
      go_roundw
      case rel => exact ⟨k + 1, by omega, by go_num, hx.trans (Ext.drewQ _ _)⟩
      case measure => simp [intOf] <;> omega
    · have hkn : k = xs.length := by omega
      subst hkn
      go_wp2
      go_ret
      exact ⟨rfl, hx⟩

set_option maxHeartbeats 1000000 in
theorem laws_vTeams {ao bo : Option Addr} {ac bc : Nat} {xs : List TeamD} {w : World} (h : GRow w ao 2 xs.length (tsC xs)) (h' : GRow w bo 2 xs.length (tsC xs)) (hn : xs.length ≤ 9223372036854775807) :
    Calls Try.prog 29 #[.slice ao xs.length ac, .slice bo xs.length bc] w fun e w' => e = .returned (.bool true) ∧ Ext w w' := by
  go_enter Try.func29, Try.ntmps29
  go_wp2
  go_loopw [5] (fun i wr => ∃ k : Nat, k ≤ xs.length ∧ i = .int .i64 k ∧ Ext w wr) (fun i _ => xs.length - (intOf i).toNat)
  case atStart => exact ⟨0, Nat.zero_le _, rfl, Ext.refl _⟩
  case round =>
    obtain ⟨k, hk, rfl, hx⟩ := hrel
    by_cases hlt : k < xs.length
    · obtain ⟨b, off, rfl, hcell⟩ := h (by omega)
      obtain ⟨b', off', rfl, hcell'⟩ := h' (by omega)
      obtain ⟨a1, c1, d0, d1, r1, n1, l1⟩ := teams_at (fun j hj => (hcell k hlt j hj).ext hx)
      obtain ⟨a3, c3, d2, d3, r3, n3, l3⟩ := teams_at (fun j hj => (hcell' k hlt j hj).ext hx)
      have hq := fun x (hX : Ext wr x) => laws_vInts (w := x) (ac := c1) (bc := c3) (xs := (nth xs k).legs) (r1.ext hX) (r3.ext hX) n1
      have g0 := Grow.cells d0
      have g1 := Grow.cells d1
      have g2 := Grow.cells d2
      have g3 := Grow.cells d3
      have hk0 : (0 : Int) ≤ (k : Int) := by omega
      have hk1 : (k : Int) < (xs.length : Int) := by omega
      clear hcell hcell' h h' d0 d1 d2 d3
      go_wp2
      refine wp_region_ext (by kernel_rfl) (by kernel_rfl) ?_
      repeat (go_big_quiet_step ((go_at_call 14; with_reducible exact Calls.ext_of (hq _ (Grow.h _)))))
      refine wpQuiet_nil ?_
      rintro _ ⟨⟨w1, hx1⟩, rfl⟩
      clear g0 g1 g2 g3
      go_wp2
      go_roundw
      case rel => exact ⟨k + 1, by omega, by go_num, (by repeat (first | (with_reducible exact Ext.refl _) | (with_reducible assumption) | with_reducible refine Ext.drew ?_ | with_reducible refine Ext.alloc ?_ _ | with_reducible refine Ext.setCell ?_ (by first | (simp; done) | (simp; omega) | omega) _ | with_reducible refine Ext.trans ?_ (by with_reducible assumption)))⟩
      case measure => simp [intOf] <;> omega
    · have hkn : k = xs.length := by omega
      subst hkn
      go_wp2
      go_ret
      exact ⟨rfl, hx⟩

end Go.Proofs.Ytlpogglcbphilaa
