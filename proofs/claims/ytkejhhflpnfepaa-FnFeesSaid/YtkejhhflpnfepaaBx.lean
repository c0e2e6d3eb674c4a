/-
  Proved here: a block of the call's own that holds a struct, seen by its cells; the cursor's choice among written texts.
  Conditions: none beyond those in each statement.
-/
import Derived.Test.YtkejhhflpnfepaaCurL
namespace Go.Proofs.Ytkejhhflpnfepaa
open Go.RowKit

/-- block K holds the values vs -/
structure Bx (w : World) (K : Nat) (vs : List Value) : Prop where
  lt : K < w.heap.size
  c : ∀ j v, vs[j]? = some v → w.cell? ⟨K, j, none⟩ = some v
  fr : ∀ j, w.frozen? ⟨K, j, none⟩ = false
theorem Bx.of {w : World} {cs : Array Value} {T : TypeId} : Bx (w.alloc (.cells cs T)) w.heap.size cs.toList :=
  ⟨by simp, fun j v h => by rw [World.cell?_alloc_new]; simpa using h, fun j => by go_simp⟩
theorem Bx.curs {w w' : World} {B K : Nat} {vs : List Value} (h : Bx w K vs) (ht : Touch w w' (Span B (B + 1))) (hK : B ≠ K) : Bx w' K vs :=
  ⟨Nat.lt_of_lt_of_le h.lt ht.size, fun j v e => (ht.cell h.lt (fun hs => by have h1 := hs.1; have h2 := hs.2; omega)).trans (h.c j v e), fun j => (ht.frozen h.lt (fun hs => by have h1 := hs.1; have h2 := hs.2; omega)).trans (h.fr j)⟩
theorem Bx.ext {w w' : World} {K : Nat} {vs : List Value} (h : Bx w K vs) (hx : Ext w w') : Bx w' K vs :=
  ⟨Nat.lt_of_lt_of_le h.lt hx.size, fun j v e => hx.cells (h.c j v e), fun j => (hx.frozenr _ _ h.lt).trans (h.fr j)⟩
theorem Bx.other {w : World} {B C o : Nat} {vs : List Value} (h : Bx w B vs) (hne : C ≠ B) {u : Value} : Bx (w.setCell ⟨C, o, none⟩ u) B vs :=
  ⟨by simpa [World.setCell] using h.lt, fun j v e => (World.cell?_setCell_other _ _ _ _ (fun e => hne (by injection e))).trans (h.c j v e), fun j => by rw [World.frozen?_setCell]; exact h.fr j⟩
theorem Bx.set {w : World} {B i : Nat} {vs us : List Value} (h : Bx w B vs) (hi : i < vs.length) (u : Value) (hu : us = vs.set i u) : Bx (w.setCell ⟨B, i, none⟩ u) B us := by
  subst hu
  refine ⟨by simpa [World.setCell] using h.lt, fun j v e => ?_, fun j => by rw [World.frozen?_setCell]; exact h.fr j⟩
  rw [List.getElem?_set] at e
  by_cases e1 : i = j
  · subst e1
    rw [if_pos rfl, if_pos hi] at e
    injection e with e
    subst e
    exact World.cell?_setCell_same _ _ _ (h.c i _ (List.getElem?_eq_getElem hi))
  · rw [if_neg e1] at e
    exact (World.cell?_setCell_other _ _ _ _ (fun e2 => e1 (by injection e2))).trans (h.c j v e)

/-- texts, one cell each -/
def scc (xs : List ByteArray) : Nat → Nat → Value := fun k _ => .string (nth xs k)
theorem lit_strs {w : World} {cs : Array Value} {T : TypeId} (vs : List ByteArray) (h : cs.toList = vs.map Value.string) : RowAt (w.alloc (.cells cs T)) (some ⟨w.heap.size, 0, none⟩) 1 vs.length (scc vs) := fun _ => ⟨w.heap.size, 0, rfl, fun k hk j hj => by
  obtain rfl : j = 0 := by omega
  rw [World.cell?_alloc_new]
  have e : cs[k]? = some (.string (nth vs k)) := by
    rw [← Array.getElem?_toList, h, List.getElem?_map]
    simp [nth, hk]
  simpa [scc] using e⟩

theorem cu_of {B n cap : Nat} {ao : Option Addr} {xs : List ByteArray} {w : World} (h : Cu w B n) (hn : n ≤ 1000000) (hr : RowAt w ao 1 xs.length (scc xs)) (h1 : 1 ≤ xs.length) (h2 : xs.length ≤ 200) (hlo : ∀ a, ao = some a → B < a.block) :
    Calls Try.prog 71 #[.pointer (some ⟨B, 0, none⟩), .slice ao xs.length cap] w fun e w' => ∃ i : Nat, i < xs.length ∧ e = .returned (.string (nth xs i)) ∧ Cu w' B (n + 1) ∧ Touch w w' (Span B (B + 1)) := by
  have H := cu_pick (N := xs.length) h hn (by omega) (by omega)
  clear h
  obtain ⟨b, off, rfl, hcell⟩ := hr (by omega)
  have hcell : ∀ k, k < xs.length → w.cell? ⟨b, off + k, none⟩ = some (.string (nth xs k)) := fun k hk => by
    have := hcell k hk 0 (by decide)
    simpa [scc] using this
  have hB := hlo _ rfl
  have hbl : b < w.heap.size := World.block_lt_of_cell? _ _ (hcell 0 (by omega))
  go_enter Try.func71, Try.ntmps71
  go_wp2_with fail
  refine H.mono ?_; rintro e w1 ⟨x, rfl, hb, hc, ht⟩
  have HC2 := Lib.hid hc; clear hc
  have HT := Lib.hid ht; clear ht
  obtain ⟨i, rfl⟩ := Int.eq_ofNat_of_zero_le hb.1
  have hi : i < xs.length := by omega
  have d0 : w1.cell? ⟨b, off + i, none⟩ = some (.string (nth xs i)) := (HT.out.cell hbl (fun hs => by have h6 := hs.2; have h7 : B < b := hB; omega)).trans (hcell i hi)
  have hi0 : (0 : Int) ≤ (i : Int) := by omega
  have hi1 : (i : Int) < (xs.length : Int) := by omega
  clear hcell hb
  go_wp2
  go_ret
  exact ⟨i, hi, rfl, HC2.out, HT.out⟩

theorem cu_lits {B n : Nat} {w : World} {cs : Array Value} {T : TypeId} (xs : List ByteArray) (h : Cu w B n) (hn : n ≤ 1000000) (hcs : cs.toList = xs.map Value.string) (hb : ∀ i, i < xs.length → (nth xs i).size ≤ 11) (h1 : 1 ≤ xs.length) (h2 : xs.length ≤ 200) :
    Calls Try.prog 71 #[.pointer (some ⟨B, 0, none⟩), .slice (some ⟨w.heap.size, 0, none⟩) xs.length xs.length] (w.alloc (.cells cs T)) fun e w' => ∃ x : ByteArray, e = .returned (.string x) ∧ x.size ≤ 11 ∧ Cu w' B (n + 1) ∧ Touch w w' (Span B (B + 1)) := by
  refine (cu_of (xs := xs) (h.ext ((Ext.refl w).alloc _)) hn (lit_strs xs hcs) h1 h2 (fun a e => by injection e with e; subst e; exact h.lt)).mono ?_
  rintro e w' ⟨i, hi', rfl, hc, ht⟩
  exact ⟨nth xs i, rfl, hb i hi', hc, (Touch.of_ext ((Ext.refl w).alloc _)).trans ht⟩

end Go.Proofs.Ytkejhhflpnfepaa
