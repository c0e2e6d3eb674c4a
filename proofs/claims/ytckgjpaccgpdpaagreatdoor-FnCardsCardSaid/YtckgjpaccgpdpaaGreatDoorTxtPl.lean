/-
  Proved here (plain lists): numerals and their reading back; a text split at a byte; the text of a card and what its words are.
  Conditions: none beyond those in each statement.
-/
import Derived.Test.YtckgjpaccgpdpaaGreatDoorCards1
import Derived.Lib.ItoaLen
import Derived.Lib.AtoiBound
import Derived.Lib.SplitLaws
namespace Go.Proofs.YtckgjpaccgpdpaaGreatDoor
open Go.RowKit

theorem digit_fin : ∀ d : Fin 10, Lib.digitVal (UInt8.ofNat (48 + d.val)) = some d.val := by decide +kernel
theorem digit_of {d : Nat} (h : d < 10) : Lib.digitVal (UInt8.ofNat (48 + d)) = some d := digit_fin ⟨d, h⟩
theorem dec_of_digits (u : Nat) : ∀ (acc : Nat) (r : List UInt8), Lib.decFrom acc (Lib.decDigits u ++ r) = Lib.decFrom (acc * 10 ^ Lib.nDigits u + u) r := by
  induction u using Nat.strongRecOn with
  | _ u ih =>
    intro acc r
    by_cases h : u < 10
    · rw [Lib.decDigits_one h, Lib.nDigits_small h]
      simp only [List.cons_append, List.nil_append, Lib.decFrom, digit_of h]
    · rw [Lib.decDigits, dif_neg h, Lib.nDigits_big h, List.append_assoc, ih (u / 10) (by omega)]
      simp only [List.cons_append, List.nil_append, Lib.decFrom, digit_of (Nat.mod_lt u (by decide : 0 < 10))]
      congr 1
      rw [Nat.pow_succ, Nat.add_mul, Nat.mul_assoc]
      omega
theorem digits_all (u : Nat) : ∀ b ∈ Lib.decDigits u, 48 ≤ b.toNat ∧ b.toNat ≤ 57 := by
  induction u using Nat.strongRecOn with
  | _ u ih =>
    intro b hb
    have one : ∀ d, d < 10 → 48 ≤ (UInt8.ofNat (48 + d)).toNat ∧ (UInt8.ofNat (48 + d)).toNat ≤ 57 := fun d hd => by
      have e : (UInt8.ofNat (48 + d)).toNat = 48 + d := by simp [UInt8.toNat_ofNat]; omega
      omega
    by_cases h : u < 10
    · rw [Lib.decDigits_one h, List.mem_singleton] at hb
      subst hb
      exact one u h
    · rw [Lib.decDigits, dif_neg h, List.mem_append, List.mem_singleton] at hb
      rcases hb with hb | rfl
      · exact ih (u / 10) (by omega) b hb
      · exact one _ (Nat.mod_lt _ (by decide))
theorem digits_cons (u : Nat) : ∃ b r, Lib.decDigits u = b :: r ∧ 48 ≤ b.toNat ∧ b.toNat ≤ 57 := by
  have h := Lib.decDigits_length u
  have h2 := Lib.nDigits_pos u
  cases e : Lib.decDigits u with
  | nil => rw [e] at h; simp at h; omega
  | cons b r => exact ⟨b, r, rfl, digits_all u b (by rw [e]; simp)⟩
theorem decNat_digits (u : Nat) : Lib.decNat (Lib.decDigits u) = some u := by
  obtain ⟨b, r, e, _⟩ := digits_cons u
  have h := dec_of_digits u 0 []
  rw [List.append_nil] at h
  unfold Lib.decNat
  rw [h, e]
  simp [Lib.decFrom]
/-- a number's text is read back -/
theorem atoi_itoa (n : Int) : Lib.atoi (Lib.itoa n) = some n := by
  unfold Lib.itoa
  split
  · rename_i h
    simp only [Lib.atoi, decNat_digits]
    simp
    omega
  · rename_i h
    obtain ⟨b, r, e, h1, h2⟩ := digits_cons n.toNat
    have hd := decNat_digits n.toNat
    rw [e] at hd ⊢
    have n1 : (b == 45) = false := by
      rw [beq_eq_false_iff_ne]; rintro rfl; simp at h1
    have n2 : (b == 43) = false := by
      rw [beq_eq_false_iff_ne]; rintro rfl; simp at h1
    simp only [Lib.atoi, n1, n2, hd]
    simp
    omega
theorem itoa_inj {m n : Int} (h : Lib.itoa m = Lib.itoa n) : m = n := by
  have h1 := atoi_itoa m
  rw [h, atoi_itoa n] at h1
  exact (Option.some.inj h1).symm
theorem itoa_bytes (n : Int) : ∀ b ∈ Lib.itoa n, b = 45 ∨ 48 ≤ b.toNat ∧ b.toNat ≤ 57 := by
  intro b hb
  unfold Lib.itoa at hb
  split at hb
  · rcases List.mem_cons.1 hb with rfl | h
    · exact .inl rfl
    · exact .inr (digits_all _ b h)
  · exact .inr (digits_all _ b hb)
theorem itoa_no {n : Int} {c : UInt8} (h1 : c ≠ 45) (h2 : ¬ (48 ≤ c.toNat ∧ c.toNat ≤ 57)) : c ∉ Lib.itoa n := fun h => by
  rcases itoa_bytes n c h with h | h
  · exact h1 h
  · exact h2 h
theorem nDigits_le {k : Nat} : ∀ {u : Nat}, u < 10 ^ (k + 1) → Lib.nDigits u ≤ k + 1 := by
  induction k with
  | zero => intro u h; rw [Lib.nDigits_small (by simpa using h)]; exact Nat.le_refl _
  | succ k ih =>
    intro u h
    by_cases h1 : u < 10
    · rw [Lib.nDigits_small h1]; omega
    · rw [Lib.nDigits_big h1]
      have := ih (u := u / 10) (by rw [Nat.pow_succ] at h; omega)
      omega
theorem itoa_len {n : Int} (h1 : -999999 ≤ n) (h2 : n ≤ 999999) : (Lib.itoa n).length ≤ 7 ∧ 1 ≤ (Lib.itoa n).length ∧ (0 ≤ n → (Lib.itoa n).length ≤ 6) := by
  unfold Lib.itoa
  split
  · rename_i h
    have := nDigits_le (k := 5) (u := n.natAbs) (by have e : 10 ^ (5 + 1) = 1000000 := rfl; rw [e]; omega)
    rw [List.length_cons, Lib.decDigits_length]
    refine ⟨by omega, by omega, fun h3 => by omega⟩
  · rename_i h
    have := nDigits_le (k := 5) (u := n.toNat) (by have e : 10 ^ (5 + 1) = 1000000 := rfl; rw [e]; omega)
    have := Lib.nDigits_pos n.toNat
    rw [Lib.decDigits_length]
    refine ⟨by omega, by omega, fun h3 => by omega⟩

/-- the number that a text is, as its own numeral -/
def numOf (l : List UInt8) : Option Int := match Lib.atoi l with
  | some n => if (-999999 ≤ n ∧ n ≤ 999999) ∧ Lib.itoa n = l then some n else none
  | none => none
theorem numOf_iff {l : List UInt8} {n : Int} : numOf l = some n ↔ (-999999 ≤ n ∧ n ≤ 999999) ∧ Lib.itoa n = l := by
  constructor
  · intro h
    unfold numOf at h
    split at h
    · split at h
      · rename_i h2
        obtain rfl := Option.some.inj h
        exact h2
      · cases h
    · cases h
  · rintro ⟨h1, h2⟩
    unfold numOf
    rw [← h2, atoi_itoa]
    simp [h1]
theorem numOf_none {l : List UInt8} (h : ∀ n, -999999 ≤ n → n ≤ 999999 → Lib.itoa n ≠ l) : numOf l = none := by
  cases e : numOf l with
  | none => rfl
  | some n =>
    obtain ⟨⟨h1, h2⟩, h3⟩ := numOf_iff.1 e
    exact absurd h3 (h n h1 h2)
theorem numOf_itoa {n : Int} (h1 : -999999 ≤ n) (h2 : n ≤ 999999) : numOf (Lib.itoa n) = some n := numOf_iff.2 ⟨⟨h1, h2⟩, rfl⟩
theorem numOf_nil : numOf [] = none := rfl

/-- a text's parts between the bytes c -/
def spl (c : UInt8) : List UInt8 → List (List UInt8)
  | [] => [[]]
  | b :: l => if b = c then [] :: spl c l else match spl c l with
    | [] => [[b]]
    | h :: t => (b :: h) :: t
theorem spl_ne (c : UInt8) : ∀ l, spl c l ≠ []
  | [] => by simp [spl]
  | b :: l => by
    unfold spl
    split
    · simp
    · split <;> simp
theorem spl_free {c : UInt8} : ∀ {a : List UInt8}, c ∉ a → spl c a = [a]
  | [], _ => rfl
  | b :: a, h => by
    simp only [List.mem_cons, not_or] at h
    unfold spl
    rw [if_neg (fun e => h.1 e.symm), spl_free h.2]
theorem spl_cut {c : UInt8} {r : List UInt8} : ∀ {a : List UInt8}, c ∉ a → spl c (a ++ c :: r) = a :: spl c r
  | [], _ => by simp [spl]
  | b :: a, h => by
    simp only [List.mem_cons, not_or] at h
    rw [List.cons_append]
    conv => lhs; unfold spl
    rw [if_neg (fun e => h.1 e.symm), spl_cut h.2]
/-- a text has the byte first behind a free part, or not at all -/
theorem free_cut (c : UInt8) : ∀ l : List UInt8, c ∉ l ∨ ∃ a r, l = a ++ c :: r ∧ c ∉ a
  | [] => .inl (by simp)
  | b :: l => by
    by_cases h : b = c
    · exact .inr ⟨[], l, by rw [h]; rfl, by simp⟩
    · rcases free_cut c l with h2 | ⟨a, r, rfl, h2⟩
      · exact .inl (by simp only [List.mem_cons, not_or]; exact ⟨fun e => h e.symm, h2⟩)
      · exact .inr ⟨b :: a, r, rfl, by simp only [List.mem_cons, not_or]; exact ⟨fun e => h e.symm, h2⟩⟩
theorem spl_len (c : UInt8) (n : Nat) : ∀ l : List UInt8, l.length ≤ n → (spl c l).length = l.count c + 1 := by
  induction n with
  | zero => intro l h; cases l with
    | nil => rfl
    | cons => simp at h
  | succ n ih =>
    intro l hl
    rcases free_cut c l with h | ⟨a, r, rfl, h⟩
    · rw [spl_free h, List.count_eq_zero.2 h]; rfl
    · simp at hl
      rw [spl_cut h, List.length_cons, ih r (by omega), List.count_append, List.count_eq_zero.2 h, List.count_cons_self]
      omega
theorem index_free {c : UInt8} : ∀ {a : List UInt8}, c ∉ a → Lib.index a [c] = -1
  | [], _ => rfl
  | b :: a, h => by
    simp only [List.mem_cons, not_or] at h
    have e : (c == b) = false := by rw [beq_eq_false_iff_ne]; exact h.1
    simp [Lib.index, List.isPrefixOf, e, index_free h.2]
theorem index_cut {c : UInt8} {r : List UInt8} : ∀ {a : List UInt8}, c ∉ a → Lib.index (a ++ c :: r) [c] = (a.length : Int)
  | [], _ => by simp [Lib.index, List.isPrefixOf]
  | b :: a, h => by
    simp only [List.mem_cons, not_or] at h
    have e : (c == b) = false := by rw [beq_eq_false_iff_ne]; exact h.1
    rw [List.cons_append]
    unfold Lib.index
    rw [index_cut h.2]
    simp [List.isPrefixOf, e]
    try omega
theorem splitK_spl (c : UInt8) : ∀ (k : Nat) (s : List UInt8), s.count c = k → Lib.splitK [c] 0 k s = spl c s := by
  intro k
  induction k with
  | zero =>
    intro s h
    rw [spl_free (List.count_eq_zero.1 h)]; rfl
  | succ k ih =>
    intro s h
    rcases free_cut c s with h2 | ⟨a, r, rfl, h2⟩
    · rw [List.count_eq_zero.2 h2] at h; omega
    · rw [List.count_append, List.count_eq_zero.2 h2, List.count_cons_self] at h
      unfold Lib.splitK
      rw [index_cut h2, spl_cut h2]
      have e : ((a.length : Int) == -1) = false := by rw [beq_eq_false_iff_ne]; omega
      rw [e]
      simp only [Bool.false_eq_true, if_false, Int.toNat_natCast, Nat.add_zero, List.length_singleton]
      rw [List.take_left, show a ++ c :: r = (a ++ [c]) ++ r by simp, show a.length + 1 = (a ++ [c]).length by simp, List.drop_left, ih r (by omega)]
theorem cut_free {c : UInt8} {a : List UInt8} (h : c ∉ a) : Lib.cut a [c] = (a, [], false) := by
  unfold Lib.cut; rw [index_free h]; rfl
theorem cut_cut {c : UInt8} {a r : List UInt8} (h : c ∉ a) : Lib.cut (a ++ c :: r) [c] = (a, r, true) := by
  unfold Lib.cut
  rw [index_cut h, if_pos (by omega)]
  simp

/-- a string of its bytes -/
def bsOf (l : List UInt8) : ByteArray := ⟨l.toArray⟩
theorem bsOf_data (s : ByteArray) : bsOf s.data.toList = s := by cases s; simp [bsOf]
theorem data_bsOf (l : List UInt8) : (bsOf l).data.toList = l := by simp [bsOf]
theorem bsOf_inj {a b : List UInt8} (h : bsOf a = bsOf b) : a = b := by rw [← data_bsOf a, h, data_bsOf]
theorem bsOf_append (a b : List UInt8) : bsOf (a ++ b) = bsOf a ++ bsOf b := by
  apply ByteArray.ext; simp [bsOf]
theorem bsOf_size (l : List UInt8) : (bsOf l).size = l.length := by simp [bsOf, ByteArray.size]

def startW : List UInt8 := [115, 116, 97, 114, 116]
def finishW : List UInt8 := [102, 105, 110, 105, 115, 104]
def noneW : List UInt8 := [110, 111, 110, 101]
def finT (c : CardD) : List UInt8 := if c.finish = -1 then noneW else Lib.itoa c.finish
def pT (p : Pch) : List UInt8 := Lib.itoa p.code ++ 64 :: Lib.itoa p.time
def psT : List Pch → List UInt8
  | [] => []
  | p :: ps => 32 :: (pT p ++ psT ps)
def headT (c : CardD) : List UInt8 := Lib.itoa c.number ++ 32 :: (startW ++ 32 :: (Lib.itoa c.start ++ 32 :: (finishW ++ 32 :: finT c)))
def cardT (c : CardD) : List UInt8 := headT c ++ psT c.ps
theorem psT_append : ∀ (a b : List Pch), psT (a ++ b) = psT a ++ psT b
  | [], b => rfl
  | p :: a, b => by simp [psT, psT_append a b]
theorem psT_succ {ps : List Pch} {k : Nat} (h : k < ps.length) : psT (ps.take (k + 1)) = psT (ps.take k) ++ 32 :: pT (nth ps k) := by
  have e : nth ps k = ps[k] := by simp [nth, List.getD, List.getElem?_eq_getElem h]
  rw [List.take_add_one, List.getElem?_eq_getElem h, psT_append, e]
  simp [psT]
theorem no32 {n : Int} : (32 : UInt8) ∉ Lib.itoa n := itoa_no (by decide) (by decide)
theorem no64 {n : Int} : (64 : UInt8) ∉ Lib.itoa n := itoa_no (by decide) (by decide)
theorem pT_no32 (p : Pch) : (32 : UInt8) ∉ pT p := by
  unfold pT
  simp only [List.mem_append, List.mem_cons, not_or]
  exact ⟨no32, by decide, no32⟩
theorem finT_no32 (c : CardD) : (32 : UInt8) ∉ finT c := by
  unfold finT
  split
  · decide
  · exact no32
theorem spl_psT : ∀ (ps : List Pch) (a : List UInt8), (32 : UInt8) ∉ a → spl 32 (a ++ psT ps) = a :: ps.map pT
  | [], a, h => by rw [psT, List.append_nil, spl_free h]; rfl
  | p :: ps, a, h => by rw [psT, spl_cut h, spl_psT ps _ (pT_no32 p)]; rfl
/-- the words of a card's text -/
theorem spl_cardT (c : CardD) : spl 32 (cardT c) = Lib.itoa c.number :: startW :: Lib.itoa c.start :: finishW :: finT c :: c.ps.map pT := by
  unfold cardT headT
  simp only [List.append_assoc, List.cons_append]
  rw [spl_cut no32, spl_cut (by decide), spl_cut no32, spl_cut (by decide), spl_psT _ _ (finT_no32 c)]
theorem spl_pT (p : Pch) : spl 64 (pT p) = [Lib.itoa p.code, Lib.itoa p.time] := by
  unfold pT
  rw [spl_cut no64, spl_free no64]
theorem cut_pT (p : Pch) : Lib.cut (pT p) [64] = (Lib.itoa p.code, Lib.itoa p.time, true) := by
  unfold pT
  rw [cut_cut no64]

end Go.Proofs.YtckgjpaccgpdpaaGreatDoor
