/-
  Proved here: a slice that the call appends to is a fresh row.
  Conditions: none beyond those in each statement.
-/
import Derived.Test.YtckgjpaccgpdpaaGreatDoorBase
namespace Go.Proofs.YtckgjpaccgpdpaaGreatDoor
open Go.RowKit

theorem own_fresh {w : World} {base : Nat} {e : TypeId} {s : Nat} {v : Value} {n : Nat} {cs : List Value} {c : Nat → Nat → Value} (h : w.ownsRow base e s v n cs)
    (hc : ∀ k j, k < n → j < s → cs[k * s + j]? = some (c k j)) : ∃ ao cap, v = .slice ao n cap ∧ FreshAt base w ao s n c := by
  have hb := h.lt
  rcases h.2 with ⟨rfl, rfl⟩ | ⟨g, cap, cur, rfl, _, hg, hnc, _, _, _⟩
  · exact ⟨none, 0, rfl, ⟨fun hn => by omega, fun a e => (by cases e), fun b off e => (by cases e)⟩⟩
  · refine ⟨some ⟨g, 0, none⟩, cap, rfl, ⟨fun _ => ⟨g, 0, rfl, fun k hk j hj => ?_⟩, fun a e => ?_, fun b off e j => ?_⟩⟩
    · have h1 : (k + 1) * s ≤ n * s := Nat.mul_le_mul_right _ hk
      rw [Nat.add_mul] at h1
      have := h.cellAt (k * s + j) (by omega)
      rw [hc k j hk hj] at this
      simpa using this
    · injection e with e; subst e
      exact hb _ rfl
    · injection e with e; injection e with e1 e2; subst e1
      exact h.frozenAt j

/-- what an append to such a slice does to old memory -/
theorem own_ext {a w w' : World} {e : TypeId} {s : Nat} {v : Value} {n : Nat} {cs : List Value} (h : Ext a w) (ho : w.ownsRow a.heap.size e s v n cs) (hg : w.grownBy w' v.ownBlock) : Ext a w' :=
  Below.grown h hg h.size (fun k hk => (ho.lt k hk).1)

theorem Ext.grownBy {w w' : World} (h : Ext w w') : w.grownBy w' none := ⟨h.os, h.tape, h.output, h.size, fun k hk _ => h.block k hk⟩
theorem own_kept {a w w' : World} {e : TypeId} {s : Nat} {v : Value} {n : Nat} {cs : List Value} (ho : w.ownsRow a.heap.size e s v n cs) (hx : Ext w w') : w'.ownsRow a.heap.size e s v n cs := by
  refine ho.kept hx.grownBy ?_
  cases e : v.ownBlock
  · exact .inl rfl
  · exact .inr (by simp)
theorem own_ints {xs : List Int} : ∀ k j, k < xs.length → j < 1 → (xs.map (Value.int .i64))[k * 1 + j]? = some (.int .i64 (nth xs k)) := by
  intro k j hk hj
  obtain rfl : j = 0 := by omega
  simp [nth, List.getD, hk]

end Go.Proofs.YtckgjpaccgpdpaaGreatDoor
