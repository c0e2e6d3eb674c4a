/-
  Proved here (plain lists): the heats that SeedHeats fills.
  Conditions: those in each statement.
-/
import Derived.Test.YtpafiongiffakaaRound1
namespace Go.Proofs.Ytpafiongiffakaa
open Go.RowKit

/-- the heat of runner number i -/
def snake (h i : Nat) : Nat := if i % (2 * h) < h then i % (2 * h) else 2 * h - 1 - i % (2 * h)
theorem snake_lt {h i : Nat} (hh : 0 < h) : snake h i < h := by
  unfold snake
  have := Nat.mod_lt i (show 0 < 2 * h by omega)
  split <;> omega
theorem snake_impl {h i : Nat} (hh : 0 < h) : snake h i = if i / h % 2 = 1 then h - 1 - i % h else i % h := by
  have e : i % (2 * h) = i % h + h * (i / h % 2) := by rw [Nat.mul_comm 2 h, Nat.mod_mul]
  have h1 := Nat.mod_lt i hh
  have h2 : i / h % 2 = 0 ∨ i / h % 2 = 1 := by omega
  unfold snake
  rw [e]
  rcases h2 with h2 | h2 <;> rw [h2]
  · simp [h1]
  · rw [if_neg (by omega), if_pos rfl]; omega
/-- the heats behind runner number i - 1 -/
def seedU (xs : List Int) (h : Nat) : Nat → List (List Int)
  | 0 => List.replicate h []
  | i + 1 => (seedU xs h i).set (snake h i) (nth (seedU xs h i) (snake h i) ++ [nth xs i])
theorem seedU_len (xs : List Int) (h i : Nat) : (seedU xs h i).length = h := by
  induction i with
  | zero => simp [seedU]
  | succ i ih => simp [seedU, ih]
def lenU (h : Nat) : Nat → List Nat
  | 0 => List.replicate h 0
  | i + 1 => (lenU h i).set (snake h i) ((lenU h i).getD (snake h i) 0 + 1)
theorem lenU_eq (xs : List Int) {h : Nat} (hh : 0 < h) (i : Nat) : (seedU xs h i).map List.length = lenU h i := by
  induction i with
  | zero => simp [seedU, lenU]
  | succ i ih =>
    have hl := seedU_len xs h i
    have hs := snake_lt (i := i) hh
    rw [seedU, lenU, ← ih, List.map_set]
    congr 1
    simp [nth, hl, hs]
theorem nth_len {xs : List Int} {h i k : Nat} (hh : 0 < h) (hk : k < h) : (nth (seedU xs h i) k).length = (lenU h i).getD k 0 := by
  have hl := seedU_len xs h i
  rw [← lenU_eq xs hh]
  simp [nth, hl, hk]
theorem nth_set {α : Type} [Inhabited α] {R : List α} {j k : Nat} {v : α} (hk : k < R.length) : nth (R.set j v) k = if j = k then v else nth R k := by
  simp only [nth, List.getD, List.getElem?_set]
  split
  · rename_i e; subst e; simp [hk]
  · rfl
def lensOk (h n : Nat) : Bool := (List.range h).all fun k => decide (2 ≤ (lenU h n).getD k 0) && decide ((lenU h n).getD k 0 ≤ 6)
def lensLe (h n : Nat) : Bool := (List.range h).all fun k => decide ((lenU h n).getD k 0 ≤ 6)
theorem lens_chk : ((List.range 5).all fun h => (List.range 25).all fun n => decide (h = 0) || (decide (6 * h < n) || ((lensOk h n == decide (2 * h ≤ n)) && lensLe h n))) = true := by decide +kernel
theorem lens_at {h n : Nat} (h1 : h < 5) (h0 : 0 < h) (h2 : n < 25) (h3 : n ≤ 6 * h) : lensOk h n = decide (2 * h ≤ n) ∧ lensLe h n = true := by
  have := lens_chk
  rw [List.all_eq_true] at this
  have := this h (List.mem_range.2 h1)
  rw [List.all_eq_true] at this
  have := this n (List.mem_range.2 h2)
  simp only [Bool.or_eq_true, decide_eq_true_eq, Bool.and_eq_true, beq_iff_eq] at this
  rcases this with e | e | e
  · omega
  · omega
  · exact e
theorem len_all (h : Nat) (h1 : h < 5) (h0 : 0 < h) (n : Nat) (h2 : n < 25) (h3 : n ≤ 6 * h) : (∀ k, k < h → 2 ≤ (lenU h n).getD k 0 ∧ (lenU h n).getD k 0 ≤ 6) ↔ 2 * h ≤ n := by
  have := (lens_at h1 h0 h2 h3).1
  rw [Bool.eq_iff_iff, decide_eq_true_eq] at this
  rw [← this]
  simp [lensOk, List.all_eq_true]
theorem len_le (h : Nat) (h1 : h < 5) (h0 : 0 < h) (n : Nat) (h2 : n < 25) (h3 : n ≤ 6 * h) (k : Nat) (hk : k < h) : (lenU h n).getD k 0 ≤ 6 := by
  have := (lens_at h1 h0 h2 h3).2
  simp only [lensLe, List.all_eq_true, decide_eq_true_eq, List.mem_range] at this
  exact this k hk

def seedHead (xs : List Int) (h : Int) : Bool := inB h 1 4 && inB xs.length 0 (6 * h) && onceU xs xs.length && upto (fun k => inB (nth xs k) 1 999) xs.length
def seedB (xs : List Int) (h : Int) : Bool := seedHead xs h && decide (2 * h ≤ xs.length)
def seedL (xs : List Int) (h : Int) : List (List Int) := if seedB xs h then seedU xs h.toNat xs.length else []
def okHeats (R : List (List Int)) (k : Nat) : Bool := inB (nth R k).length 2 6
theorem seed_fin {xs : List Int} {h : Nat} (hd : seedHead xs h = true) : upto (okHeats (seedU xs h xs.length)) h = decide (2 * (h : Int) ≤ xs.length) := by
  simp only [seedHead, Bool.and_eq_true, inB_iff] at hd
  obtain ⟨⟨⟨h1, h2⟩, _⟩, _⟩ := hd
  have := len_all h (by omega) (by omega) xs.length (by omega) (by omega)
  rw [Bool.eq_iff_iff, upto_true, decide_eq_true_eq]
  constructor
  · intro hh
    have := this.1 (fun k hk => by
      have := hh k hk
      rw [okHeats, inB_iff, nth_len (by omega) hk] at this
      omega)
    omega
  · intro hh k hk
    have := this.2 (by omega) k hk
    rw [okHeats, inB_iff, nth_len (by omega) hk]
    omega
theorem seed_bounds {xs : List Int} {h : Int} : (seedL xs h).length ≤ 1000 ∧ ∀ k, k < (seedL xs h).length → (nth (seedL xs h) k).length ≤ 1000 := by
  unfold seedL
  split
  · rename_i hv
    simp only [seedB, seedHead, Bool.and_eq_true, inB_iff, decide_eq_true_eq] at hv
    obtain ⟨⟨⟨⟨h1, h2⟩, _⟩, _⟩, h3⟩ := hv
    obtain ⟨n, rfl⟩ : ∃ n : Nat, h = n := ⟨h.toNat, by omega⟩
    simp only [Int.toNat_natCast]
    rw [seedU_len]
    refine ⟨by omega, fun k hk => ?_⟩
    have := len_le n (by omega) (by omega) xs.length (by omega) (by omega) k hk
    rw [nth_len (by omega) hk]
    omega
  · exact ⟨by simp, fun k hk => by simp at hk⟩

end Go.Proofs.Ytpafiongiffakaa
