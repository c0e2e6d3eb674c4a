/-
  Proved here (plain lists): valid entries; an entry put into a list, taken out of it, replaced in it; classes and their sizes; late entries.
  Conditions: none beyond those in each statement.
-/
import Derived.Test.YtkejhhflpnfepaaTEntry
import Derived.Test.YtkejhhflpnfepaaIdx
import Derived.Test.YtkejhhflpnfepaaAsc
namespace Go.Proofs.Ytkejhhflpnfepaa
open Go.RowKit

def entB (x : Ent) : Bool := inB x.runner 1 999 && inB x.cls 1 99 && inB x.day 0 365 && inB x.paid 0 100000
/-- entry k is valid, and after entry k - 1 -/
def okEnt (xs : List Ent) (k : Nat) : Bool := entB (nth xs k) && !(decide (0 < k) && decide ((nth xs k).runner ≤ (nth xs (k - 1)).runner))
def entsB (xs : List Ent) : Bool := upto (okEnt xs) xs.length && decide (xs.length ≤ 12)
theorem okEnt_a {xs : List Ent} {k : Nat} (h : entB (nth xs k) = false) : okEnt xs k = false := by simp [okEnt, h]
theorem okEnt_b {xs : List Ent} {k : Nat} (h : 0 < k) (h2 : (nth xs k).runner ≤ (nth xs (k - 1)).runner) : okEnt xs k = false := by
  unfold okEnt; rw [decide_eq_true h, decide_eq_true h2]; simp
theorem okEnt_c {xs : List Ent} {k : Nat} (h : entB (nth xs k) = true) (h2 : ¬ (nth xs k).runner ≤ (nth xs (k - 1)).runner) : okEnt xs k = true := by
  unfold okEnt; rw [h, decide_eq_false h2]; simp
theorem okEnt_d {xs : List Ent} {k : Nat} (h : entB (nth xs k) = true) (h2 : ¬ 0 < k) : okEnt xs k = true := by
  unfold okEnt; rw [h, decide_eq_false h2]; simp

theorem entsB_len {xs : List Ent} (h : entsB xs = true) : xs.length ≤ 12 := by
  unfold entsB at h; rw [Bool.and_eq_true] at h; simpa using h.2
theorem entsB_at {xs : List Ent} (h : entsB xs = true) {k : Nat} (hk : k < xs.length) : entB (nth xs k) = true := by
  unfold entsB at h; rw [Bool.and_eq_true, upto_true] at h
  have := h.1 k hk
  unfold okEnt at this; rw [Bool.and_eq_true] at this
  exact this.1
theorem entsB_step {xs : List Ent} (h : entsB xs = true) {k : Nat} (hk : k + 1 < xs.length) : (nth xs k).runner < (nth xs (k + 1)).runner := by
  unfold entsB at h; rw [Bool.and_eq_true, upto_true] at h
  have := h.1 (k + 1) hk
  unfold okEnt at this; rw [Bool.and_eq_true] at this
  simpa using this.2
theorem entsB_lt {xs : List Ent} (h : entsB xs = true) {j k : Nat} (hj : j < k) (hk : k < xs.length) : (nth xs j).runner < (nth xs k).runner := by
  induction k with
  | zero => omega
  | succ k ih =>
    have h1 := entsB_step h hk
    by_cases e : j = k
    · subst e; exact h1
    · have := ih (by omega) (by omega); omega
structure EntOk (x : Ent) : Prop where
  r : 1 ≤ x.runner ∧ x.runner ≤ 999
  c : 1 ≤ x.cls ∧ x.cls ≤ 99
  d : 0 ≤ x.day ∧ x.day ≤ 365
  p : 0 ≤ x.paid ∧ x.paid ≤ 100000
theorem entB_ok {x : Ent} (h : entB x = true) : EntOk x := by
  unfold entB at h
  simp only [Bool.and_eq_true, inB_iff] at h
  exact ⟨h.1.1.1, h.1.1.2, h.1.2, h.2⟩

section
variable {α : Type} [Inhabited α]
/-- the place of a new element in a list that rises by f -/
def insAtG (f : α → Int) (xs : List α) (s : Int) : Nat := (xs.takeWhile fun m => decide (f m < s)).length
theorem insAtG_is {f : α → Int} {xs : List α} {s : Int} : ∀ {k : Nat}, k ≤ xs.length → (∀ j, j < k → f (nth xs j) < s) → (k < xs.length → ¬ f (nth xs k) < s) → insAtG f xs s = k := by
  induction xs with
  | nil => intro k hk _ _; simp [insAtG]; simp at hk; omega
  | cons m xs ih =>
    intro k hk h1 h2
    cases k with
    | zero =>
      have := h2 (by simp)
      have hm : ¬ f m < s := by simpa [nth] using this
      simp [insAtG, hm]
    | succ k =>
      have hm : f m < s := by simpa [nth] using h1 0 (by omega)
      have := ih (k := k) (by simpa using hk) (fun j hj => by simpa [nth] using h1 (j + 1) (by omega)) (fun hlt => by simpa [nth] using h2 (by simpa using hlt))
      simp only [insAtG] at this ⊢
      rw [List.takeWhile_cons, if_pos (by simpa using hm), List.length_cons, this]
omit [Inhabited α] in
theorem insAtG_le (f : α → Int) (xs : List α) (s : Int) : insAtG f xs s ≤ xs.length := by
  have : xs.takeWhile (fun m => decide (f m < s)) ++ xs.dropWhile (fun m => decide (f m < s)) = xs := List.takeWhile_append_dropWhile
  have h := congrArg List.length this
  rw [List.length_append] at h
  unfold insAtG
  omega
theorem nth_insL_lt {xs : List α} {i k : Nat} {x : α} (hi : i ≤ xs.length) (hk : k < i) : nth (insL xs i x) k = nth xs k := by
  unfold nth List.getD insL
  rw [List.getElem?_append_left (by simp; omega), List.getElem?_take_of_lt hk]
theorem nth_insL_at {xs : List α} {i : Nat} {x : α} (hi : i ≤ xs.length) : nth (insL xs i x) i = x := by
  unfold nth List.getD insL
  rw [List.getElem?_append_right (by simp; omega)]
  simp [Nat.min_eq_left hi]
theorem nth_set {xs : List α} {i k : Nat} {x : α} (hi : i < xs.length) : nth (xs.set i x) k = if k = i then x else nth xs k := by
  unfold nth List.getD
  rw [List.getElem?_set]
  by_cases e : i = k
  · subst e; simp [hi]
  · have : ¬ k = i := fun h => e h.symm
    simp [e, this]
/-- a list without an element -/
def delL (xs : List α) (i : Nat) : List α := xs.take i ++ xs.drop (i + 1)
omit [Inhabited α] in
theorem delL_len {xs : List α} {i : Nat} (hi : i < xs.length) : (delL xs i).length = xs.length - 1 := by simp [delL]; omega
omit [Inhabited α] in
theorem delL_insL {xs : List α} {i : Nat} {x : α} (hi : i ≤ xs.length) : delL (insL xs i x) i = xs := by
  unfold delL insL
  have hl : (xs.take i).length = i := by simp; omega
  rw [List.take_append_of_le_length (by omega), List.take_of_length_le (by omega), List.drop_append, List.drop_eq_nil_of_le (by omega)]
  simp [hl]
end

/-- the entry of a runner -/
def entIx (xs : List Ent) (r : Int) : Int := idxU (fun k => (nth xs k).runner == r) xs.length
theorem entIx_at {xs : List Ent} {k : Nat} (h : entsB xs = true) (hk : k < xs.length) : entIx xs (nth xs k).runner = k :=
  idxU_at hk (by simp) (fun j hj => by have := entsB_lt h hj hk; simp; omega)

def entL (xs : List Ent) (x : Ent) : List Ent := insL xs (insAtG Ent.runner xs x.runner) x
def enB (xs : List Ent) (x : Ent) : Bool := entsB xs && entsB (entL xs x)
def enL (xs : List Ent) (x : Ent) : List Ent := if enB xs x then entL xs x else []
theorem entL_len (xs : List Ent) (x : Ent) : (entL xs x).length = xs.length + 1 := insL_len (insAtG_le _ _ _)

/-- what RefundFor hands back -/
def refB (xs : List Ent) (r d : Int) : Bool := entsB xs && (decide (0 ≤ entIx xs r) && (inB d 0 365 && decide ((nth xs (entIx xs r).toNat).day ≤ d)))
def refL (xs : List Ent) (r d : Int) : List Ent := if refB xs r d then delL xs (entIx xs r).toNat else []
def refP (xs : List Ent) (r d : Int) : Int := if refB xs r d then (if 300 ≤ d then (nth xs (entIx xs r).toNat).paid / 2 else (nth xs (entIx xs r).toNat).paid) else 0

theorem ref_of_enter {xs : List Ent} {x : Ent} (h : enB xs x = true) :
    refB (enL xs x) x.runner x.day = true ∧ refL (enL xs x) x.runner x.day = xs ∧ refP (enL xs x) x.runner x.day = (if 300 ≤ x.day then x.paid / 2 else x.paid) ∧ EntOk x := by
  have h0 := h
  unfold enB at h
  rw [Bool.and_eq_true] at h
  have hL : enL xs x = entL xs x := by unfold enL; rw [h0]; rfl
  have hi := insAtG_le Ent.runner xs x.runner
  have hat : nth (entL xs x) (insAtG Ent.runner xs x.runner) = x := nth_insL_at hi
  have hlt : insAtG Ent.runner xs x.runner < (entL xs x).length := by rw [entL_len]; omega
  have hix : entIx (entL xs x) x.runner = (insAtG Ent.runner xs x.runner : Nat) := by
    have := entIx_at h.2 hlt
    rw [hat] at this
    exact this
  have hok := entsB_at h.2 hlt
  rw [hat] at hok
  have hE := entB_ok hok
  have hB : refB (entL xs x) x.runner x.day = true := by
    unfold refB
    rw [h.2, hix]
    simp only [Int.toNat_natCast, hat, Bool.and_eq_true, decide_eq_true_eq, inB_iff]
    exact ⟨trivial, by omega, hE.d, Int.le_refl _⟩
  rw [hL]
  refine ⟨hB, ?_, ?_, hE⟩
  · unfold refL
    rw [hB, hix]
    exact delL_insL hi
  · unfold refP
    rw [hB, hix]
    simp only [Int.toNat_natCast, hat, if_true]

/-- what a replaced entry gives -/
def setB (xs : List Ent) (i : Nat) (e : Ent) : Bool := entsB (xs.set i e)
def setL (xs : List Ent) (i : Nat) (e : Ent) : List Ent := if setB xs i e then xs.set i e else []
def chgB0 (xs : List Ent) (r d : Int) : Bool := entsB xs && (decide (0 ≤ entIx xs r) && decide ((nth xs (entIx xs r).toNat).day ≤ d))
def chgE (xs : List Ent) (r c d : Int) : Ent := { nth xs (entIx xs r).toNat with cls := c, day := d }
def chgB (xs : List Ent) (r c d : Int) : Bool := chgB0 xs r d && setB xs (entIx xs r).toNat (chgE xs r c d)
def chgL (xs : List Ent) (r c d : Int) : List Ent := if chgB0 xs r d then setL xs (entIx xs r).toNat (chgE xs r c d) else []
def payB0 (xs : List Ent) (r p : Int) : Bool := entsB xs && (decide (0 ≤ entIx xs r) && inB p 1 100000)
def payE (xs : List Ent) (r p : Int) : Ent := { nth xs (entIx xs r).toNat with paid := (nth xs (entIx xs r).toNat).paid + p }
def payB (xs : List Ent) (r p : Int) : Bool := payB0 xs r p && setB xs (entIx xs r).toNat (payE xs r p)
def payL (xs : List Ent) (r p : Int) : List Ent := if payB0 xs r p then setL xs (entIx xs r).toNat (payE xs r p) else []

theorem pay_at {xs : List Ent} {r p : Int} {k : Nat} (hk : k < (payL xs r p).length) : k < xs.length ∧ (((nth (payL xs r p) k).runner = r → (nth (payL xs r p) k).paid - (nth xs k).paid = p)) ∧ EntOk (nth (payL xs r p) k) ∧ EntOk (nth xs k) := by
  unfold payL at hk ⊢
  split at hk
  · rename_i h0
    rw [if_pos h0]
    have hB0 := h0
    unfold payB0 at h0
    simp only [Bool.and_eq_true, decide_eq_true_eq] at h0
    obtain ⟨hv, hi0, hp⟩ := h0
    unfold setL at hk ⊢
    split at hk
    · rename_i hs
      rw [if_pos hs]
      rw [List.length_set] at hk
      rcases idxU_cases (fun k => (nth xs k).runner == r) xs.length with ⟨e, _⟩ | ⟨i, hi, e, hr, hbef⟩
      · unfold entIx at hi0; omega
      · have hix : (entIx xs r).toNat = i := by unfold entIx; rw [e]; simp
        have hs' : entsB (xs.set i (payE xs r p)) = true := by unfold setB at hs; rw [hix] at hs; exact hs
        have hok := entsB_at hs' (k := k) (by rw [List.length_set]; exact hk)
        rw [hix]
        refine ⟨hk, fun hrr => ?_, entB_ok hok, entB_ok (entsB_at hv hk)⟩
        rw [nth_set hi] at hrr ⊢
        by_cases e2 : k = i
        · subst e2
          rw [if_pos rfl]
          unfold payE
          rw [hix]
          simp only
          omega
        · rw [if_neg e2] at hrr
          have hri : (nth xs i).runner = r := by simpa using hr
          rcases Nat.lt_or_ge k i with h | h
          · have := entsB_lt hv h hi; omega
          · have := entsB_lt hv (show i < k by omega) hk; omega
    · simp at hk
  · simp at hk

/-- late entries -/
def lateU (xs : List Ent) : Nat → List Int
  | 0 => []
  | k + 1 => if 300 ≤ (nth xs k).day then lateU xs k ++ [(nth xs k).runner] else lateU xs k
def lateL (xs : List Ent) : List Int := if entsB xs then lateU xs xs.length else []
theorem lateU_len (xs : List Ent) (k : Nat) : (lateU xs k).length ≤ k := by
  induction k with
  | zero => simp [lateU]
  | succ k ih =>
    rw [lateU]
    split
    · rw [List.length_append]; simp; omega
    · omega

/-- how many of the first n are of a class -/
def cntC (xs : List Ent) (c : Int) : Nat → Nat
  | 0 => 0
  | k + 1 => cntC xs c k + if (nth xs k).cls = c then 1 else 0
theorem cntC_le (xs : List Ent) (c : Int) (k : Nat) : cntC xs c k ≤ k := by
  induction k with
  | zero => simp [cntC]
  | succ k ih => rw [cntC]; split <;> omega
theorem cntC_pos {xs : List Ent} {c : Int} : ∀ {n : Nat}, 0 < cntC xs c n ↔ ∃ k, k < n ∧ (nth xs k).cls = c := by
  intro n
  induction n with
  | zero => simp [cntC]
  | succ n ih =>
    rw [cntC]
    constructor
    · intro h
      by_cases e : (nth xs n).cls = c
      · exact ⟨n, by omega, e⟩
      · rw [if_neg e] at h
        obtain ⟨k, hk, e2⟩ := ih.1 h
        exact ⟨k, by omega, e2⟩
    · rintro ⟨k, hk, e⟩
      by_cases e2 : k = n
      · subst e2; rw [if_pos e]; omega
      · have := ih.2 ⟨k, by omega, e⟩; omega
/-- the classes among 1 .. k, ascending -/
def clsU (xs : List Ent) : Nat → List Int
  | 0 => []
  | k + 1 => if 0 < cntC xs ((k : Int) + 1) xs.length then clsU xs k ++ [(k : Int) + 1] else clsU xs k
def szU (xs : List Ent) : Nat → List Int
  | 0 => []
  | k + 1 => if 0 < cntC xs ((k : Int) + 1) xs.length then szU xs k ++ [(cntC xs ((k : Int) + 1) xs.length : Int)] else szU xs k
theorem clsU_mem {xs : List Ent} {z : Int} : ∀ n, z ∈ clsU xs n ↔ (1 ≤ z ∧ z ≤ n) ∧ 0 < cntC xs z xs.length := by
  intro n
  induction n with
  | zero => simp [clsU]; omega
  | succ n ih =>
    rw [clsU]
    split
    · rename_i h
      rw [List.mem_append, ih, List.mem_singleton]
      constructor
      · rintro (⟨h1, h2⟩ | h1)
        · exact ⟨by omega, h2⟩
        · subst h1; exact ⟨by omega, h⟩
      · rintro ⟨h1, h2⟩
        by_cases e : z = (n : Int) + 1
        · exact .inr e
        · exact .inl ⟨by omega, h2⟩
    · rename_i h
      rw [ih]
      constructor
      · rintro ⟨h1, h2⟩; exact ⟨by omega, h2⟩
      · rintro ⟨h1, h2⟩
        by_cases e : z = (n : Int) + 1
        · subst e; exact absurd h2 h
        · exact ⟨by omega, h2⟩
theorem clsU_asc (xs : List Ent) : ∀ n, AscI (clsU xs n) := by
  intro n
  induction n with
  | zero => exact List.Pairwise.nil
  | succ n ih =>
    rw [clsU]
    split
    · show List.Pairwise _ _
      rw [List.pairwise_append]
      refine ⟨ih, by simp, fun a ha b hb => ?_⟩
      have := (clsU_mem n).1 ha
      simp only [List.mem_singleton] at hb
      omega
    · exact ih
/-- the classes of the first n entries, put one by one -/
def putU (xs : List Ent) : Nat → List Int
  | 0 => []
  | k + 1 => if hasI (putU xs k) (putU xs k).length (nth xs k).cls then putU xs k else putL (putU xs k) (nth xs k).cls
theorem putU_mem {xs : List Ent} {z : Int} : ∀ n, z ∈ putU xs n ↔ ∃ k, k < n ∧ (nth xs k).cls = z := by
  intro n
  induction n with
  | zero => simp [putU]
  | succ n ih =>
    have key : (z ∈ putU xs n ∨ z = (nth xs n).cls) ↔ ∃ k, k < n + 1 ∧ (nth xs k).cls = z := by
      rw [ih]
      constructor
      · rintro (⟨k, hk, e⟩ | e)
        · exact ⟨k, by omega, e⟩
        · exact ⟨n, by omega, e.symm⟩
      · rintro ⟨k, hk, e⟩
        by_cases e2 : k = n
        · subst e2; exact .inr e.symm
        · exact .inl ⟨k, by omega, e⟩
    rw [putU, ← key]
    split
    · rename_i h
      rw [hasI_mem] at h
      constructor
      · exact .inl
      · rintro (h1 | h1)
        · exact h1
        · subst h1; exact h
    · rw [putL_eq, mem_putR]
theorem putU_asc (xs : List Ent) : ∀ n, AscI (putU xs n) := by
  intro n
  induction n with
  | zero => exact List.Pairwise.nil
  | succ n ih =>
    rw [putU]
    split
    · exact ih
    · rw [putL_eq]; exact asc_putR ih
theorem putU_len (xs : List Ent) : ∀ n, (putU xs n).length ≤ n := by
  intro n
  induction n with
  | zero => simp [putU]
  | succ n ih =>
    rw [putU]
    split
    · omega
    · have := putL_len (putU xs n) (nth xs n).cls; omega
theorem putU_cls {xs : List Ent} (h : entsB xs = true) : putU xs xs.length = clsU xs 99 := by
  refine asc_ext (putU_asc _ _) (clsU_asc _ _) fun z => ?_
  rw [putU_mem, clsU_mem, cntC_pos]
  constructor
  · rintro ⟨k, hk, e⟩
    have := (entB_ok (entsB_at h hk)).c
    exact ⟨by omega, k, hk, e⟩
  · rintro ⟨_, k, hk, e⟩; exact ⟨k, hk, e⟩
theorem szU_map (xs : List Ent) : ∀ n, szU xs n = (clsU xs n).map fun c => (cntC xs c xs.length : Int) := by
  intro n
  induction n with
  | zero => rfl
  | succ n ih =>
    rw [szU, clsU]
    split
    · rw [ih, List.map_append]; rfl
    · exact ih
def clsL (xs : List Ent) : List Int := if entsB xs then clsU xs 99 else []
def sizL (xs : List Ent) : List Int := if entsB xs then szU xs 99 else []
/-- the sizes' sum counts entries -/
def cntTo (xs : List Ent) (c : Int) : Nat → Nat
  | 0 => 0
  | k + 1 => cntTo xs c k + if 1 ≤ (nth xs k).cls ∧ (nth xs k).cls ≤ c then 1 else 0
theorem cntTo_succ (xs : List Ent) (c : Nat) : ∀ k, cntTo xs ((c : Int) + 1) k = cntTo xs c k + cntC xs ((c : Int) + 1) k := by
  intro k
  induction k with
  | zero => rfl
  | succ k ih =>
    rw [cntTo, cntTo, cntC, ih]
    by_cases h1 : (nth xs k).cls = (c : Int) + 1
    · rw [if_pos (by omega), if_neg (by omega), if_pos h1]; omega
    · by_cases h2 : 1 ≤ (nth xs k).cls ∧ (nth xs k).cls ≤ (c : Int)
      · rw [if_pos (by omega), if_pos h2, if_neg h1]; omega
      · rw [if_neg (by omega), if_neg h2, if_neg h1]; omega
theorem cntTo_zero (xs : List Ent) : ∀ k, cntTo xs ((0 : Nat) : Int) k = 0 := by
  intro k
  induction k with
  | zero => rfl
  | succ k ih => rw [cntTo, ih, if_neg (by omega)]
theorem cntTo_all {xs : List Ent} (h : entsB xs = true) : ∀ k, k ≤ xs.length → cntTo xs ((99 : Nat) : Int) k = k := by
  intro k
  induction k with
  | zero => intro _; rfl
  | succ k ih =>
    intro hk
    have := (entB_ok (entsB_at h (show k < xs.length by omega))).c
    rw [cntTo, ih (by omega), if_pos (by omega)]
theorem szU_sum (xs : List Ent) : ∀ n, (szU xs n).sum = (cntTo xs (n : Int) xs.length : Int) := by
  intro n
  induction n with
  | zero => rw [cntTo_zero]; rfl
  | succ n ih =>
    rw [szU]
    have e := cntTo_succ xs n xs.length
    have e1 : ((n + 1 : Nat) : Int) = (n : Int) + 1 := by omega
    split
    · rename_i h
      rw [List.sum_append, ih, e1, e]; simp
    · rename_i h
      rw [ih, e1, e]
      have : cntC xs ((n : Int) + 1) xs.length = 0 := by omega
      rw [this]; simp
theorem sizL_sum {xs : List Ent} (h : entsB xs = true) : (sizL xs).sum = (xs.length : Int) := by
  unfold sizL
  rw [if_pos h, szU_sum, cntTo_all h _ (Nat.le_refl _)]
theorem clsU_len (xs : List Ent) (n : Nat) : (clsU xs n).length ≤ n := by
  induction n with
  | zero => simp [clsU]
  | succ n ih =>
    rw [clsU]
    split
    · rw [List.length_append]; simp; omega
    · omega

end Go.Proofs.Ytkejhhflpnfepaa
