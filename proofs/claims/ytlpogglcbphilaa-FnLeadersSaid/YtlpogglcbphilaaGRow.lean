/-
  Proved here: rows whose cells are plain values or slices of ints: how they are read, copied into a made slice, kept.
  Conditions: none beyond those in each statement.
-/
import Derived.Test.YtlpogglcbphilaaInts
namespace Go.Proofs.Ytlpogglcbphilaa
open Go.RowKit

/-- what a cell holds: a plain value, or a slice of ints -/
inductive CD where
  | v (u : Value)
  | l (xs : List Int)
def CellIs (w : World) (a : Addr) : CD → Prop
  | .v u => w.cell? a = some u
  | .l xs => ∃ ao cap, w.cell? a = some (.slice ao xs.length cap) ∧ RowAt w ao 1 xs.length (ic xs) ∧ xs.length ≤ cap ∧ xs.length ≤ 9223372036854775807
/-- the same, the slice in memory from B0 on -/
def CellF (B0 : Nat) (w : World) (a : Addr) : CD → Prop
  | .v u => w.cell? a = some u
  | .l xs => ∃ ao cap, w.cell? a = some (.slice ao xs.length cap) ∧ FreshAt B0 w ao 1 xs.length (ic xs) ∧ xs.length ≤ cap ∧ xs.length ≤ 9223372036854775807
theorem CellF.is {B0 : Nat} {w : World} {a : Addr} : ∀ {d : CD}, CellF B0 w a d → CellIs w a d
  | .v _, h => h
  | .l _, ⟨ao, cap, h1, h2, h3, h4⟩ => ⟨ao, cap, h1, h2.row, h3, h4⟩
theorem CellIs.ext {w w' : World} {a : Addr} (hx : Ext w w') : ∀ {d : CD}, CellIs w a d → CellIs w' a d
  | .v _, h => hx.cells h
  | .l _, ⟨ao, cap, h1, h2, h3, h4⟩ => ⟨ao, cap, hx.cells h1, h2.ext hx, h3, h4⟩
theorem CellF.ext {B0 : Nat} {w w' : World} {a : Addr} (hx : Ext w w') : ∀ {d : CD}, CellF B0 w a d → CellF B0 w' a d
  | .v _, h => hx.cells h
  | .l _, ⟨ao, cap, h1, h2, h3, h4⟩ => ⟨ao, cap, hx.cells h1, h2.ext hx, h3, h4⟩
theorem CellF.set {B0 : Nat} {w : World} {a p : Addr} {u : Value} (hp : p.block < B0) (hne : p ≠ a) : ∀ {d : CD}, CellF B0 w a d → CellF B0 (w.setCell p u) a d
  | .v _, h => (World.cell?_setCell_other _ _ _ _ hne).trans h
  | .l _, ⟨ao, cap, h1, h2, h3, h4⟩ => ⟨ao, cap, (World.cell?_setCell_other _ _ _ _ hne).trans h1, h2.setCell hp u, h3, h4⟩

/-- n elements of s cells each lie at an address: element k's cell j holds 'c k j' -/
def GRow (w : World) (ao : Option Addr) (s n : Nat) (c : Nat → Nat → CD) : Prop :=
  0 < n → ∃ b off, ao = some ⟨b, off, none⟩ ∧ ∀ k, k < n → ∀ j, j < s → CellIs w ⟨b, off + k * s + j, none⟩ (c k j)
theorem GRow.ext {w w' : World} {ao : Option Addr} {s n : Nat} {c : Nat → Nat → CD} (h : GRow w ao s n c) (hx : Ext w w') : GRow w' ao s n c := fun hn =>
  let ⟨b, off, e, H⟩ := h hn
  ⟨b, off, e, fun k hk j hj => (H k hk j hj).ext hx⟩

/-- Block B is being filled: m of its n * s cells are done. -/
structure GFill (w wr : World) (B s n m : Nat) (c : Nat → Nat → CD) : Prop where
  ext : Ext w wr
  base : w.heap.size ≤ B
  size : B < wr.heap.size
  cell : ∀ j, j < n * s → ∃ u, wr.cell? ⟨B, j, none⟩ = some u
  free : ∀ j, wr.frozen? ⟨B, j, none⟩ = false
  done : ∀ i j, j < s → i * s + j < m → CellF (B + 1) wr ⟨B, i * s + j, none⟩ (c i j)

theorem GFill.kept {w wr w' : World} {B s n m : Nat} {c : Nat → Nat → CD} (h : GFill w wr B s n m c) (hx : Ext wr w') : GFill w w' B s n m c where
  ext := h.ext.trans hx
  base := h.base
  size := Nat.lt_of_lt_of_le h.size hx.size
  cell := fun j hj => let ⟨u, hu⟩ := h.cell j hj; ⟨u, hx.cells hu⟩
  free := fun j => (hx.frozenr _ _ h.size).trans (h.free j)
  done := fun i j hj hi => (h.done i j hj hi).ext hx

theorem GFill.start {w w1 : World} {e : TypeId} {s n : Nat} {xs : List Value} {c : Nat → Nat → CD} (hn : w1.ownsRow w.heap.size e s (.slice (some ⟨w.heap.size, 0, none⟩) n n) n xs) (hg : w.grownBy w1 none) :
    GFill w w1 w.heap.size s n 0 c where
  ext := (Below.refl _ _).grown hg (Nat.le_refl _) (fun k hk => by cases hk)
  base := Nat.le_refl _
  size := (hn.lt _ rfl).2
  cell := fun j hj => by
    rw [hn.cellAt j hj]
    have hl := hn.1
    exact ⟨_, List.getElem?_eq_getElem (by omega)⟩
  free := fun j => hn.frozenAt j
  done := fun i j _ h => by omega

theorem GFill.put {w wr : World} {B s n m : Nat} {c : Nat → Nat → CD} (h : GFill w wr B s n m c) {i j : Nat} (hj : j < s) (hm : m = i * s + j) (hi : i < n) {u : Value}
    (hq : ∀ w', w'.cell? ⟨B, m, none⟩ = some u → (∀ {ao xs}, FreshAt (B + 1) wr ao 1 xs.length (ic xs) → FreshAt (B + 1) w' ao 1 xs.length (ic xs)) → CellF (B + 1) w' ⟨B, m, none⟩ (c i j)) :
    GFill w (wr.setCell ⟨B, m, none⟩ u) B s n (m + 1) c := by
  have hlt : m < n * s := by
    have h1 : (i + 1) * s ≤ n * s := Nat.mul_le_mul_right _ hi
    rw [Nat.add_mul] at h1
    omega
  obtain ⟨u0, hu⟩ := h.cell m hlt
  refine ⟨h.ext.setCell h.base _, h.base, by simpa [World.setCell] using h.size, fun j' hj' => ?_, fun j' => ?_, fun i' j' hj' hlt' => ?_⟩
  · by_cases e : m = j'
    · subst e; exact ⟨_, World.cell?_setCell_same wr _ _ hu⟩
    · obtain ⟨v, hv⟩ := h.cell j' hj'
      exact ⟨v, (World.cell?_setCell_other _ _ _ _ (fun e' => e (by injection e'))).trans hv⟩
  · rw [World.frozen?_setCell]; exact h.free j'
  · by_cases e : m = i' * s + j'
    · rw [hm] at e
      obtain ⟨rfl, rfl⟩ := mul_add_inj hj hj' e
      rw [← hm]
      exact hq _ (World.cell?_setCell_same wr _ _ hu) (fun hf => hf.setCell (by simp) _)
    · exact (h.done i' j' hj' (by omega)).set (by simp) (fun e' => e (by injection e'))

theorem GFill.put_v {w wr : World} {B s n m : Nat} {c : Nat → Nat → CD} (h : GFill w wr B s n m c) {i j : Nat} (hj : j < s) (hm : m = i * s + j) (hi : i < n) {u : Value} (hc : c i j = .v u) :
    GFill w (wr.setCell ⟨B, m, none⟩ u) B s n (m + 1) c := h.put hj hm hi fun w' h1 _ => by rw [hc]; exact h1
theorem GFill.put_l {w wr : World} {B s n m : Nat} {c : Nat → Nat → CD} (h : GFill w wr B s n m c) {i j : Nat} (hj : j < s) (hm : m = i * s + j) (hi : i < n) {xs : List Int} {ao : Option Addr} {cap : Nat} (hc : c i j = .l xs)
    (hf : FreshAt (B + 1) wr ao 1 xs.length (ic xs)) (h1 : xs.length ≤ cap) (h2 : xs.length ≤ 9223372036854775807) :
    GFill w (wr.setCell ⟨B, m, none⟩ (.slice ao xs.length cap)) B s n (m + 1) c := h.put hj hm hi fun w' h3 h4 => by rw [hc]; exact ⟨ao, cap, h3, h4 hf, h1, h2⟩

theorem GFill.row {w wr : World} {B s n m : Nat} {c : Nat → Nat → CD} (h : GFill w wr B s n m c) (hm : m = n * s) : GRow wr (some ⟨B, 0, none⟩) s n c := fun _ => ⟨B, 0, rfl, fun k hk j hj => by
  have h1 : (k + 1) * s ≤ n * s := Nat.mul_le_mul_right _ hk
  rw [Nat.add_mul] at h1
  have := (h.done k j hj (by omega)).is
  simpa using this⟩

end Go.Proofs.Ytlpogglcbphilaa
