/-
  Proved here: what marking a card and looking at its marks do.
  Conditions: the number of punches is at most 2^40.
-/
import Derived.Test.YtckgjpaccgpdpaaDoorTCard
import Derived.Test.YtckgjpaccgpdpaaDoorMPunch
namespace Go.Proofs.YtckgjpaccgpdpaaDoor
open Go.RowKit

theorem grown_of_alloc {w w' : World} {o : Obj} {row : Option Nat} (h : (w.alloc o).grownBy w' row) : w.grownBy w' row :=
  ⟨h.os, h.tape, h.output, Nat.le_trans (by simp) h.size, fun k hk hne => (h.block k (by simp; omega) hne).trans (Below.heap_alloc w o k hk)⟩

theorem laws_markCard {c : CardD} {B0 : Nat} {ao : Option Addr} {cap : Nat} {cc : Nat → Nat → Value} {k0 : Int} {w : World} (h : FreshAt B0 w ao 2 c.ps.length cc) (hn : c.ps.length ≤ 1099511627776) (h0 : 0 ≤ k0) (h1 : k0 ≤ 1099511627776) :
    Calls Tryd.prog 12 #[c.val ao cap, .int .i64 k0] w fun e w' => e = .returned (.int .i64 (k0 + 2 * c.ps.length)) ∧ w.grownBy w' (blk ao) ∧ FreshAt B0 w' ao 2 c.ps.length (mkPch k0) := by
  obtain ⟨a, b, f, ps⟩ := c
  dsimp only [CardD.val] at h hn ⊢
  go_enter Tryd.func12, Tryd.ntmps12
  go_wp2_with fail
  refine (laws_markPunchS (h.ext ((Ext.refl _).alloc _)) hn h0 h1).mono ?_; rintro e w1 ⟨rfl, hg, hF⟩
  go_wp2
  go_ret
  exact ⟨rfl, grown_of_alloc hg, hF⟩

theorem laws_heldCard {c : CardD} {ao : Option Addr} {cap : Nat} {k0 : Int} {w : World} (h : RowAt w ao 2 c.ps.length (mkPch k0)) (hn : c.ps.length ≤ 1099511627776) (h0 : 0 ≤ k0) (h1 : k0 ≤ 1099511627776) :
    Calls Tryd.prog 13 #[c.val ao cap, .int .i64 k0] w fun e w' => e = .returned (.int .i64 (k0 + 2 * c.ps.length)) ∧ Ext w w' := by
  obtain ⟨a, b, f, ps⟩ := c
  dsimp only [CardD.val] at h hn ⊢
  go_enter Tryd.func13, Tryd.ntmps13
  go_wp2_with fail
  refine (laws_heldPunchS (h.ext ((Ext.refl _).alloc _)) hn h0 h1).mono ?_; rintro e w1 ⟨rfl, hx1⟩
  go_wp2
  go_ret
  exact ⟨rfl, (by repeat (first | (with_reducible exact Ext.refl _) | (with_reducible assumption) | with_reducible refine Ext.drew ?_ | with_reducible refine Ext.alloc ?_ _ | with_reducible refine Ext.setCell ?_ (by first | (simp; done) | (simp; omega) | omega) _ | with_reducible refine Ext.trans ?_ (by with_reducible assumption)))⟩

end Go.Proofs.YtckgjpaccgpdpaaDoor
