/-
  Proved here: small laws on worlds that only grow ('Ext'), on regions that draw their order and call functions that make memory, and on cells.
  Conditions: none beyond those in each statement.
-/
import Derived.WalkKit
import Derived.WalkSpells
import Derived.WalkLawsBesides
import Derived.Deep.QuietTactic
import Derived.BigQuiet
import Derived.Lib.Hide
namespace Go.Proofs.YtckgjpaccgpdpaaGreatDoor
open Go.RowKit

/-- What was there is as it was. -/
def Ext (w w' : World) : Prop := Below w.heap.size w w'

theorem Ext.refl (w : World) : Ext w w := Below.refl _ _
theorem Ext.trans {a b c : World} (h : Ext a b) (k : Ext b c) : Ext a c := Below.trans h (Below.mono k (Below.size h))
theorem Ext.drew {a w : World} (h : Ext a w) : Ext a w.drew := Below.drew h
theorem Ext.alloc {a w : World} (h : Ext a w) (o : Obj) : Ext a (w.alloc o) := Below.alloc h (Below.size h) o
theorem Ext.setCell {a w : World} (h : Ext a w) {p : Addr} (hp : a.heap.size ≤ p.block) (u : Value) : Ext a (w.setCell p u) := Below.setCell h hp u
theorem Ext.size {a w : World} (h : Ext a w) : a.heap.size ≤ w.heap.size := Below.size h
theorem Ext.cellr {a w : World} (h : Ext a w) : ∀ b o, b < a.heap.size → w.cell? ⟨b, o, none⟩ = a.cell? ⟨b, o, none⟩ := fun _ _ hb => Below.cell h (p := ⟨_, _, none⟩) hb
theorem Ext.frozenr {a w : World} (h : Ext a w) : ∀ b o, b < a.heap.size → w.frozen? ⟨b, o, none⟩ = a.frozen? ⟨b, o, none⟩ := fun _ _ hb => Below.frozen h (p := ⟨_, _, none⟩) hb
theorem Ext.grew {a w : World} (h : Ext a w) {b : Nat} (hb : b < a.heap.size) : b < w.heap.size := Nat.lt_of_lt_of_le hb h.size
theorem Ext.cells {a w : World} (h : Ext a w) {p : Addr} {v : Value} (hp : a.cell? p = some v) : w.cell? p = some v :=
  (Below.cell h (World.block_lt_of_cell? _ _ hp)).trans hp

theorem cell_put (w : World) (a : Addr) (v : Value) : (w.setCell a v).cell? a = if (w.cell? a).isSome then some v else none := by
  cases h : w.cell? a with
  | some u => simpa using World.cell?_setCell_same w a v h
  | none =>
    simp only [Option.isSome_none, Bool.false_eq_true, if_false]
    unfold World.cell? World.setCell at *
    simp only [Array.getElem?_modify]
    cases e : w.heap[a.block]? with
    | none => simp
    | some o => cases o with
      | cells c t f => simp_all
      | _ => simp

/-- A world that has grown out of another. -/
structure Grow (w0 : World) where
  w : World
  h : Ext w0 w

instance (w0 : World) : Nonempty (Grow w0) := ⟨⟨w0, Ext.refl w0⟩⟩

theorem Grow.cells {w0 : World} {p : Addr} {v : Value} (hp : w0.cell? p = some v) : ∀ x : Grow w0, x.w.cell? p = some v := fun x => x.h.cells hp

/-- ONE WALK, in the text's order, serves every order: the callees may make memory, and hand back a plain value. -/
theorem wp_region_ext {P : Program} {id : Nat} {Q : Exit → Act → World → Prop} {a : Act} {w : World} {l : List Oper} (hm : P.follows .mixedOrders = true) (hB : Region.lexB .any l.toArray = true)
    (h : wpQuiet P l.toArray (fun w' => ∃ x : Grow w, w' = x.w) (fun a' => ∀ w', (∃ x : Grow w, w' = x.w) → Q .normal a' w') l a) : (Code.region id l.toArray true).wp P Q a w :=
  wp_region_quiet (C := fun w' => ∃ x : Grow w, w' = x.w) hm hB ⟨⟨w.drew, (Ext.refl w).drew⟩, rfl⟩ (by simpa using h)

theorem Calls.ext_of {P : Program} {f : FuncId} {args : Array Value} {w0 : World} {x : Grow w0} {v : Value}
    (h : Calls P f args x.w fun e w' => e = .returned v ∧ Ext x.w w') : Calls P f args x.w fun e w'' => e = .returned v ∧ ∃ y : Grow w0, w'' = y.w :=
  h.mono fun _ w' ⟨he, hm⟩ => ⟨he, ⟨w', x.h.trans hm⟩, rfl⟩
theorem Calls.ext_of_same {P : Program} {f : FuncId} {args : Array Value} {w0 : World} {x : Grow w0} {v : Value}
    (h : Calls P f args x.w fun e w' => e = .returned v ∧ x.w = w') : Calls P f args x.w fun e w'' => e = .returned v ∧ ∃ y : Grow w0, w'' = y.w :=
  h.mono fun _ _ ⟨he, hm⟩ => ⟨he, x, hm.symm⟩


/-- Number k of a list. -/
def nth {α : Type} [Inhabited α] (xs : List α) (k : Nat) : α := xs.getD k default

/-- n elements of s cells each lie at an address: element k's cell j holds 'c k j'. -/
def RowAt (w : World) (ao : Option Addr) (s n : Nat) (c : Nat → Nat → Value) : Prop :=
  0 < n → ∃ b off, ao = some ⟨b, off, none⟩ ∧ ∀ k, k < n → ∀ j, j < s → w.cell? ⟨b, off + k * s + j, none⟩ = some (c k j)

theorem RowAt.ext {w w' : World} {ao : Option Addr} {s n : Nat} {c : Nat → Nat → Value} (h : RowAt w ao s n c) (hx : Ext w w') : RowAt w' ao s n c := fun hn =>
  let ⟨b, off, e, H⟩ := h hn
  ⟨b, off, e, fun k hk j hj => hx.cells (H k hk j hj)⟩

/-- All of the first n hold. -/
def upto (p : Nat → Bool) : Nat → Bool
  | 0 => true
  | k + 1 => upto p k && p k
theorem upto_zero (p : Nat → Bool) : upto p 0 = true := rfl
theorem upto_succ {p : Nat → Bool} {k : Nat} (h : upto p k = true) (h' : p k = true) : upto p (k + 1) = true := by simp [upto, h, h']
theorem upto_false {p : Nat → Bool} {n k : Nat} (hk : k < n) (h : p k = false) : upto p n = false := by
  induction n with
  | zero => omega
  | succ n ih =>
    by_cases e : k = n
    · subst e; simp [upto, h]
    · simp [upto, ih (by omega)]
theorem upto_true {p : Nat → Bool} {n : Nat} : upto p n = true ↔ ∀ k, k < n → p k = true := by
  induction n with
  | zero => simp [upto]
  | succ n ih =>
    simp only [upto, Bool.and_eq_true, ih]
    constructor
    · rintro ⟨h, h'⟩ k hk
      by_cases e : k = n
      · subst e; exact h'
      · exact h k (by omega)
    · exact fun h => ⟨fun k hk => h k (by omega), h n (by omega)⟩
theorem upto_congr {p q : Nat → Bool} {n : Nat} (h : ∀ k, k < n → p k = q k) : upto p n = upto q n := by
  induction n with
  | zero => rfl
  | succ n ih => simp only [upto, ih (fun k hk => h k (by omega)), h n (by omega)]

/-- Two lists are alike by a test. -/
def eqL {α : Type} [Inhabited α] (q : α → α → Bool) (xs ys : List α) : Bool := decide (xs.length = ys.length) && upto (fun k => q (nth xs k) (nth ys k)) xs.length
theorem nth_ext {α : Type} [Inhabited α] {xs ys : List α} (hl : xs.length = ys.length) (h : ∀ k, k < xs.length → nth xs k = nth ys k) : xs = ys := by
  refine List.ext_getElem hl fun k h1 h2 => ?_
  have := h k h1
  simpa [nth, List.getD, List.getElem?_eq_getElem h1, List.getElem?_eq_getElem h2] using this
theorem eqL_iff {α : Type} [Inhabited α] {q : α → α → Bool} (hq : ∀ a b, q a b = true ↔ a = b) {xs ys : List α} : eqL q xs ys = true ↔ xs = ys := by
  simp only [eqL, Bool.and_eq_true, decide_eq_true_eq, upto_true, hq]
  exact ⟨fun ⟨h1, h2⟩ => nth_ext h1 h2, fun h => by subst h; exact ⟨rfl, fun _ _ => rfl⟩⟩

/-- what is left of a room of x behind n values -/
def szI (n : Nat) (x : Int) : Int := if (n : Int) ≤ x then x - n else -1

theorem ret_b {a b : Bool} (h : a = b) : Ending.returned (.bool a) = .returned (.bool b) := by rw [h]
theorem ret_i {k : IntKind} {a b : Int} (h : a = b) : Ending.returned (.int k a) = .returned (.int k b) := by rw [h]

theorem ret_ii {k : IntKind} {a b a' b' : Int} (h : a = a') (h' : b = b') : Ending.returned (.tuple #[.int k a, .int k b]) = .returned (.tuple #[.int k a', .int k b']) := by rw [h, h']
theorem ret_ib {k : IntKind} {a a' : Int} {b b' : Bool} (h : a = a') (h' : b = b') : Ending.returned (.tuple #[.int k a, .bool b]) = .returned (.tuple #[.int k a', .bool b']) := by rw [h, h']
theorem ret_iib {k : IntKind} {a b a' b' : Int} {c c' : Bool} (h : a = a') (h' : b = b') (h'' : c = c') : Ending.returned (.tuple #[.int k a, .int k b, .bool c]) = .returned (.tuple #[.int k a', .int k b', .bool c']) := by rw [h, h', h'']
theorem wrap_div {a b : Nat} (h : a ≤ 9223372036854775807) : wrap64 ((a : Int) / (b : Int)) = (a : Int) / (b : Int) := by
  have h1 : ((a / b : Nat) : Int) = (a : Int) / (b : Int) := Int.natCast_ediv a b
  have h2 : a / b ≤ a := Nat.div_le_self a b
  rw [← h1]
  clear h1
  generalize a / b = q at *
  exact IntWalk.wrap64_in _ ⟨by omega, by omega⟩

/-- a ≤ n ≤ b -/
def inB (n a b : Int) : Bool := decide (a ≤ n) && decide (n ≤ b)
theorem inB_iff {n a b : Int} : inB n a b = true ↔ a ≤ n ∧ n ≤ b := by simp [inB]
theorem inB_no {n a b : Int} : inB n a b = false ↔ n < a ∨ b < n := by
  rw [Bool.eq_false_iff, ne_eq, inB_iff]; omega


/-- Block B0 = the first that the call made is being filled: m of its n * s cells are done. -/
structure Fill (w wr : World) (B s n m : Nat) (c : Nat → Nat → Value) : Prop where
  ext : Ext w wr
  base : w.heap.size ≤ B
  size : B < wr.heap.size
  cell : ∀ j, j < n * s → ∃ u, wr.cell? ⟨B, j, none⟩ = some u
  free : ∀ j, wr.frozen? ⟨B, j, none⟩ = false
  done : ∀ i j, j < s → i * s + j < m → wr.cell? ⟨B, i * s + j, none⟩ = some (c i j)

theorem Fill.kept {w wr w' : World} {B s n m : Nat} {c : Nat → Nat → Value} (h : Fill w wr B s n m c) (hx : Ext wr w') : Fill w w' B s n m c where
  ext := h.ext.trans hx
  base := h.base
  size := Nat.lt_of_lt_of_le h.size hx.size
  cell := fun j hj => let ⟨u, hu⟩ := h.cell j hj; ⟨u, hx.cells hu⟩
  free := fun j => (hx.frozenr _ _ h.size).trans (h.free j)
  done := fun i j hj hi => hx.cells (h.done i j hj hi)

theorem Fill.start {w w1 : World} {e : TypeId} {s n : Nat} {xs : List Value} {c : Nat → Nat → Value} (hn : w1.ownsRow w.heap.size e s (.slice (some ⟨w.heap.size, 0, none⟩) n n) n xs) (hg : w.grownBy w1 none) :
    Fill w w1 w.heap.size s n 0 c where
  ext := (Below.refl _ _).grown hg (Nat.le_refl _) (fun k hk => by cases hk)
  base := Nat.le_refl _
  size := (hn.lt _ rfl).2
  cell := fun j hj => by
    rw [hn.cellAt j hj]
    have hl := hn.1
    exact ⟨_, List.getElem?_eq_getElem (by omega)⟩
  free := fun j => hn.frozenAt j
  done := fun i j _ h => by omega

theorem mul_add_inj {s i j i' j' : Nat} (hj : j < s) (hj' : j' < s) (h : i * s + j = i' * s + j') : i = i' ∧ j = j' := by
  have h1 : (i * s + j) / s = i := by rw [Nat.add_comm, Nat.add_mul_div_right _ _ (by omega), Nat.div_eq_of_lt hj]; omega
  have h2 : (i' * s + j') / s = i' := by rw [Nat.add_comm, Nat.add_mul_div_right _ _ (by omega), Nat.div_eq_of_lt hj']; omega
  have e : i = i' := by rw [← h1, ← h2, h]
  subst e
  exact ⟨rfl, by omega⟩

theorem Fill.put {w wr : World} {B s n m : Nat} {c : Nat → Nat → Value} (h : Fill w wr B s n m c) {i j : Nat} (hj : j < s) (hm : m = i * s + j) (hi : i < n) :
    Fill w (wr.setCell ⟨B, m, none⟩ (c i j)) B s n (m + 1) c := by
  have hlt : m < n * s := by
    have h1 : (i + 1) * s ≤ n * s := Nat.mul_le_mul_right _ hi
    rw [Nat.add_mul] at h1
    omega
  obtain ⟨u, hu⟩ := h.cell m hlt
  refine ⟨h.ext.setCell h.base _, h.base, by simpa [World.setCell] using h.size, fun j' hj' => ?_, fun j' => ?_, fun i' j' hj' hlt' => ?_⟩
  · by_cases e : m = j'
    · subst e; exact ⟨_, World.cell?_setCell_same wr _ _ hu⟩
    · obtain ⟨v, hv⟩ := h.cell j' hj'
      exact ⟨v, (World.cell?_setCell_other _ _ _ _ (fun e' => e (by injection e'))).trans hv⟩
  · rw [World.frozen?_setCell]; exact h.free j'
  · by_cases e : m = i' * s + j'
    · rw [hm] at e
      obtain ⟨rfl, rfl⟩ := mul_add_inj hj hj' e
      rw [← hm]
      exact World.cell?_setCell_same wr _ _ hu
    · exact (World.cell?_setCell_other _ _ _ _ (fun e' => e (by injection e'))).trans (h.done i' j' hj' (by omega))

/-- A slice value in new memory: n elements of s cells, block from B0 on, none frozen. -/
structure FreshAt (B0 : Nat) (w : World) (ao : Option Addr) (s n : Nat) (c : Nat → Nat → Value) : Prop where
  row : RowAt w ao s n c
  base : ∀ a, ao = some a → B0 ≤ a.block ∧ a.block < w.heap.size
  free : ∀ b off, ao = some ⟨b, off, none⟩ → ∀ j, w.frozen? ⟨b, j, none⟩ = false

theorem Fill.fresh {w wr : World} {B s n m : Nat} {c : Nat → Nat → Value} (h : Fill w wr B s n m c) (hm : m = n * s) : FreshAt w.heap.size wr (some ⟨B, 0, none⟩) s n c where
  row := fun _ => ⟨B, 0, rfl, fun k hk j hj => by
    have h1 : (k + 1) * s ≤ n * s := Nat.mul_le_mul_right _ hk
    rw [Nat.add_mul] at h1
    have := h.done k j hj (by omega)
    simpa using this⟩
  base := fun a e => by injection e with e; subst e; exact ⟨h.base, h.size⟩
  free := fun b off e j => by injection e with e; injection e with e1 e2; subst e1; exact h.free j

theorem FreshAt.mono {B0 B1 : Nat} {w : World} {ao : Option Addr} {s n : Nat} {c : Nat → Nat → Value} (h : FreshAt B0 w ao s n c) (hb : B1 ≤ B0) : FreshAt B1 w ao s n c where
  row := h.row
  base := fun a e => ⟨Nat.le_trans hb (h.base a e).1, (h.base a e).2⟩
  free := h.free

theorem FreshAt.setCell {B0 : Nat} {w : World} {ao : Option Addr} {s n : Nat} {c : Nat → Nat → Value} (h : FreshAt B0 w ao s n c) {p : Addr} (hp : p.block < B0) (v : Value) : FreshAt B0 (w.setCell p v) ao s n c where
  row := fun hn => by
    obtain ⟨b, off, e, H⟩ := h.row hn
    have := (h.base _ e).1
    refine ⟨b, off, e, fun k hk j hj => (World.cell?_setCell_other _ _ _ _ (fun e' => ?_)).trans (H k hk j hj)⟩
    rw [e'] at hp
    exact absurd hp (by simpa using this)
  base := fun a e => by simpa [World.setCell] using h.base a e
  free := fun b off e j => by rw [World.frozen?_setCell]; exact h.free b off e j

theorem FreshAt.ext {B0 : Nat} {w w' : World} {ao : Option Addr} {s n : Nat} {c : Nat → Nat → Value} (h : FreshAt B0 w ao s n c) (hx : Ext w w') : FreshAt B0 w' ao s n c where
  row := h.row.ext hx
  base := fun a e => ⟨(h.base a e).1, Nat.lt_of_lt_of_le (h.base a e).2 hx.size⟩
  free := fun b off e j => (hx.frozenr b j (h.base _ e).2).trans (h.free b off e j)

end Go.Proofs.YtckgjpaccgpdpaaGreatDoor
