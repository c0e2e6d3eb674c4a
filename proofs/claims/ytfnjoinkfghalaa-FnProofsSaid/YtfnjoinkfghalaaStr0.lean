/-
  Proved here: the strongest proof for a visit, said in two ways.
  Conditions: the proofs are valid ones.
-/
import Derived.Test.YtfnjoinkfghalaaProof3
import Derived.Test.YtfnjoinkfghalaaDel
namespace Go.Proofs.Ytfnjoinkfghalaa
open Go.RowKit

/-- not a proof for this visit -/
def notOwn (r c : Int) (x : Prf) : Bool := x.runner != r || (x.code != c || x.against)
def ownL (xs : List Prf) (r c : Int) : List Prf := keptL (notOwn r c) xs
/-- a comes before b -/
def lessP (a b : Prf) : Bool := decide (b.weight < a.weight) || (decide (a.weight = b.weight) && decide (a.kind < b.kind))
/-- the first of the least among the first k -/
def minU (xs : List Prf) : Nat → Prf
  | 0 => nth xs 0
  | k + 1 => if lessP (nth xs k) (minU xs k) then nth xs k else minU xs k
/-- the strongest by kinds -/
def bkU (xs : List Prf) (r c : Int) : Nat → Prf
  | 0 => ⟨0, 0, 0, 0, false⟩
  | k + 1 => if (bkU xs r c k).weight < bestW xs r c k false xs.length then ⟨r, c, k, bestW xs r c k false xs.length, false⟩ else bkU xs r c k

theorem bestW_ge {xs : List Prf} {r c kd : Int} {ag : Bool} {n k : Nat} (hk : k < n) (h : cnt (nth xs k) r c kd ag = true) : (nth xs k).weight ≤ bestW xs r c kd ag n := by
  induction n with
  | zero => omega
  | succ n ih =>
    rw [bestW]
    by_cases e : k = n
    · subst e; rw [if_pos h]; omega
    · have := ih (by omega)
      split <;> omega
theorem bestW_at {xs : List Prf} {r c kd : Int} {ag : Bool} {n : Nat} (h : 0 < bestW xs r c kd ag n) : ∃ k, k < n ∧ cnt (nth xs k) r c kd ag = true ∧ (nth xs k).weight = bestW xs r c kd ag n := by
  induction n with
  | zero => simp [bestW] at h
  | succ n ih =>
    rw [bestW] at h ⊢
    by_cases hc : cnt (nth xs n) r c kd ag = true
    · rw [if_pos hc] at h ⊢
      by_cases hm : bestW xs r c kd ag n ≤ (nth xs n).weight
      · exact ⟨n, by omega, hc, by omega⟩
      · obtain ⟨k, hk, h1, h2⟩ := ih (by omega)
        exact ⟨k, by omega, h1, by omega⟩
    · rw [if_neg hc] at h ⊢
      obtain ⟨k, hk, h1, h2⟩ := ih h
      exact ⟨k, by omega, h1, h2⟩
theorem bkU_ge {xs : List Prf} {r c : Int} : ∀ K kd, kd < K → bestW xs r c (kd : Nat) false xs.length ≤ (bkU xs r c K).weight := by
  intro K
  induction K with
  | zero => intro kd h; omega
  | succ K ih =>
    intro kd h
    rw [bkU]
    by_cases e : kd = K
    · subst e
      split
      · exact Int.le_refl _
      · omega
    · have := ih kd (by omega)
      split
      · simp only; omega
      · exact this
theorem bkU_nonneg {xs : List Prf} {r c : Int} : ∀ K, 0 ≤ (bkU xs r c K).weight := by
  intro K
  induction K with
  | zero => simp [bkU]
  | succ K ih =>
    rw [bkU]
    split
    · simp only; omega
    · exact ih
theorem bkU_at {xs : List Prf} {r c : Int} : ∀ K, 0 < (bkU xs r c K).weight → ∃ kd, kd < K ∧ bkU xs r c K = ⟨r, c, (kd : Nat), bestW xs r c (kd : Nat) false xs.length, false⟩ ∧ ∀ j, j < kd → bestW xs r c (j : Nat) false xs.length < bestW xs r c (kd : Nat) false xs.length := by
  intro K
  induction K with
  | zero => intro h; simp [bkU] at h
  | succ K ih =>
    intro h
    by_cases hlt : (bkU xs r c K).weight < bestW xs r c (K : Nat) false xs.length
    · refine ⟨K, by omega, by rw [bkU, if_pos hlt], fun j hj => ?_⟩
      have := bkU_ge (xs := xs) (r := r) (c := c) K j hj
      omega
    · rw [bkU, if_neg hlt] at h ⊢
      obtain ⟨kd, h1, h2, h3⟩ := ih h
      exact ⟨kd, by omega, h2, h3⟩
theorem minU_mem {xs : List Prf} (h : 0 < xs.length) : ∀ n, n ≤ xs.length → minU xs n ∈ xs := by
  have hm : ∀ k, k < xs.length → nth xs k ∈ xs := fun k hk => by simp [nth, List.getD, hk]
  intro n
  induction n with
  | zero => intro _; exact hm 0 h
  | succ n ih =>
    intro hn
    rw [minU]
    split
    · exact hm n (by omega)
    · exact ih (by omega)
theorem minU_least {xs : List Prf} : ∀ n k, k < n → lessP (nth xs k) (minU xs n) = false := by
  intro n
  induction n with
  | zero => intro k h; omega
  | succ n ih =>
    intro k hk
    rw [minU]
    by_cases hl : lessP (nth xs n) (minU xs n) = true
    · rw [if_pos hl]
      by_cases e : k = n
      · subst e; simp [lessP]
      · have h1 := ih k (by omega)
        simp only [lessP, Bool.or_eq_true, Bool.and_eq_true, decide_eq_true_eq, Bool.or_eq_false_iff, Bool.and_eq_false_iff, decide_eq_false_iff_not] at *
        omega
    · rw [if_neg hl]
      by_cases e : k = n
      · subst e; simpa using hl
      · exact ih k (by omega)
theorem mem_nth {α : Type} [Inhabited α] {xs : List α} {x : α} (h : x ∈ xs) : ∃ k, k < xs.length ∧ nth xs k = x := by
  obtain ⟨k, hk, e⟩ := List.mem_iff_getElem.1 h
  exact ⟨k, hk, by simp [nth, List.getD, hk, e]⟩
theorem own_mem {xs : List Prf} {r c : Int} {x : Prf} : x ∈ ownL xs r c ↔ x ∈ xs ∧ x.runner = r ∧ x.code = c ∧ x.against = false := by
  simp [ownL, keptL, notOwn, List.mem_filter]
theorem own_cnt {xs : List Prf} {r c : Int} {x : Prf} (h : x ∈ ownL xs r c) : cnt x r c x.kind false = true := by
  have := (own_mem.1 h).2
  simp [cnt, this]
theorem cnt_own {xs : List Prf} {r c kd : Int} {x : Prf} (hx : x ∈ xs) (h : cnt x r c kd false = true) : x ∈ ownL xs r c ∧ x.kind = kd := by
  simp only [cnt, Bool.and_eq_true, beq_iff_eq] at h
  exact ⟨own_mem.2 ⟨hx, h.1.1.1, h.1.1.2, h.2⟩, h.1.2⟩

theorem strong_same {xs : List Prf} {r c : Int} (hok : okPrfs xs) (h : 0 < (ownL xs r c).length) : minU (ownL xs r c) (ownL xs r c).length = bkU xs r c 4 ∧ 0 < (bkU xs r c 4).weight := by
  obtain ⟨m, hm⟩ : ∃ m, m = minU (ownL xs r c) (ownL xs r c).length := ⟨_, rfl⟩
  have hmem : m ∈ ownL xs r c := by rw [hm]; exact minU_mem h _ (Nat.le_refl _)
  have hleast : ∀ x, x ∈ ownL xs r c → lessP x m = false := fun x hx => by
    obtain ⟨k, hk, e⟩ := mem_nth hx
    rw [hm, ← e]
    exact minU_least _ k hk
  rw [← hm]
  clear hm
  have hmx := own_mem.1 hmem
  obtain ⟨km, hkm, em⟩ := mem_nth hmx.1
  have hv := hok km hkm
  rw [em] at hv
  obtain ⟨kd, hkd⟩ : ∃ kd : Nat, m.kind = kd := ⟨m.kind.toNat, by omega⟩
  have hcm : cnt (nth xs km) r c kd false = true := by rw [em, ← hkd]; exact own_cnt hmem
  have h1 := bestW_ge hkm hcm
  rw [em] at h1
  have hup : ∀ q : Nat, 0 < bestW xs r c (q : Nat) false xs.length → ∃ x, x ∈ ownL xs r c ∧ x.kind = (q : Nat) ∧ x.weight = bestW xs r c (q : Nat) false xs.length := fun q hq => by
    obtain ⟨k, hk, hc, hw⟩ := bestW_at hq
    have hxm : nth xs k ∈ xs := by simp [nth, List.getD, hk]
    have := cnt_own hxm hc
    exact ⟨_, this.1, this.2, hw⟩
  have h2 : bestW xs r c (kd : Nat) false xs.length = m.weight := by
    obtain ⟨x, hx, _, hw⟩ := hup kd (by omega)
    have hl := hleast x hx
    simp only [lessP, Bool.or_eq_false_iff, Bool.and_eq_false_iff, decide_eq_false_iff_not] at hl
    omega
  have h3 := bkU_ge (xs := xs) (r := r) (c := c) 4 kd (by omega)
  have hpos : 0 < (bkU xs r c 4).weight := by omega
  obtain ⟨kb, hkb, eb, hbb⟩ := bkU_at 4 hpos
  have hwb : (bkU xs r c 4).weight = bestW xs r c (kb : Nat) false xs.length := by rw [eb]
  obtain ⟨x, hx, hxk, hxw⟩ := hup kb (by omega)
  have hl := hleast x hx
  simp only [lessP, Bool.or_eq_false_iff, Bool.and_eq_false_iff, decide_eq_false_iff_not] at hl
  have hwe : bestW xs r c (kb : Nat) false xs.length = m.weight := by omega
  have hke : kb = kd := by
    by_cases hlt : kd < kb
    · have := hbb kd hlt
      omega
    · omega
  refine ⟨?_, hpos⟩
  rw [eb, hwe, hke]
  cases m
  simp_all
theorem strong_none {xs : List Prf} {r c : Int} (h : (ownL xs r c).length = 0) : (bkU xs r c 4).weight = 0 ∧ bkU xs r c 4 = ⟨0, 0, 0, 0, false⟩ := by
  have hz : ∀ q : Nat, ¬ 0 < bestW xs r c (q : Nat) false xs.length := fun q hq => by
    obtain ⟨k, hk, hc, _⟩ := bestW_at hq
    have hxm : nth xs k ∈ xs := by simp [nth, List.getD, hk]
    have := (cnt_own hxm hc).1
    rw [List.eq_nil_of_length_eq_zero h] at this
    cases this
  have hall : ∀ K, bkU xs r c K = ⟨0, 0, 0, 0, false⟩ := by
    intro K
    induction K with
    | zero => rfl
    | succ K ih =>
      have hneg : ¬ (bkU xs r c K).weight < bestW xs r c (K : Nat) false xs.length := by
        have := hz K
        rw [ih]
        exact this
      show (if (bkU xs r c K).weight < bestW xs r c (K : Nat) false xs.length then (⟨r, c, K, bestW xs r c (K : Nat) false xs.length, false⟩ : Prf) else bkU xs r c K) = _
      rw [if_neg hneg, ih]
  have := hall 4
  exact ⟨by rw [this], this⟩

end Go.Proofs.Ytfnjoinkfghalaa
