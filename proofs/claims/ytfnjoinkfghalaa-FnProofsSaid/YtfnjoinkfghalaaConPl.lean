/-
  Proved here (plain lists): contradicted visits by sorted rows and by keys put into an ascending list are the same.
  Conditions: the proofs are valid.
-/
import Derived.Test.YtfnjoinkfghalaaCompS
import Derived.Test.YtfnjoinkfghalaaCmpL
import Derived.Test.YtfnjoinkfghalaaPut
import Derived.Test.YtfnjoinkfghalaaProof4
import Derived.Test.YtfnjoinkfghalaaStr0
namespace Go.Proofs.Ytfnjoinkfghalaa
open Go.RowKit

/-- a row of a runner and a code in a block -/
structure Row2 where
  blk : Nat
  r : Int
  c : Int
instance : Inhabited Row2 := ⟨⟨0, 0, 0⟩⟩
def Row2.v (x : Row2) : Value := .slice (some ⟨x.blk, 0, none⟩) 2 2
def Row2.l (x : Row2) : List Int := [x.r, x.c]
def Row2.key (x : Row2) : Int := 100 * x.r + x.c
def coR (a b : Row2) : Int := cmpLI a.l b.l
def eqR (a b : Row2) : Bool := decide (a.l = b.l)
def okR (a : Row2) : Prop := 0 ≤ a.c ∧ a.c ≤ 99

theorem cmpI_neg {a b : Int} : cmpI a b < 0 ↔ a < b := by unfold cmpI; split <;> (try split) <;> omega
theorem cmpI_zero {a b : Int} : cmpI a b = 0 ↔ a = b := by unfold cmpI; split <;> (try split) <;> omega
theorem coR_neg {a b : Row2} (ha : okR a) (hb : okR b) : coR a b < 0 ↔ a.key < b.key := by
  unfold okR at ha hb
  unfold coR Row2.l Row2.key
  rw [cmpLI]
  by_cases h : cmpI a.r b.r = 0
  · rw [if_neg (by simp [h]), cmpLI]
    have h1 := cmpI_zero.1 h
    by_cases h2 : cmpI a.c b.c = 0
    · rw [if_neg (by simp [h2]), cmpLI]
      have h3 := cmpI_zero.1 h2
      omega
    · rw [if_pos h2, cmpI_neg]; omega
  · rw [if_pos h, cmpI_neg]
    have h1 : a.r ≠ b.r := fun e => h (cmpI_zero.2 e)
    omega
theorem eqR_key {a b : Row2} (ha : okR a) (hb : okR b) : eqR a b = decide (a.key = b.key) := by
  unfold okR at ha hb
  unfold eqR Row2.l Row2.key
  rw [decide_eq_decide]
  simp only [List.cons.injEq, and_true]
  omega
theorem key_back {a : Row2} (ha : okR a) : [a.key / 100, a.key % 100] = a.l := by
  unfold okR at ha
  unfold Row2.l Row2.key
  rw [show (100 * a.r + a.c) / 100 = a.r by omega, show (100 * a.r + a.c) % 100 = a.c by omega]

/-- ascending -/
def AscI (K : List Int) : Prop := K.Pairwise (· < ·)
theorem asc_ext : ∀ {K M : List Int}, AscI K → AscI M → (∀ z, z ∈ K ↔ z ∈ M) → K = M := by
  intro K
  induction K with
  | nil =>
    intro M _ _ h
    cases M with
    | nil => rfl
    | cons m M => have := (h m).2 (by simp); simp at this
  | cons k K ih =>
    intro M hK hM h
    cases M with
    | nil => have := (h k).1 (by simp); simp at this
    | cons m M =>
      unfold AscI at hK hM
      rw [List.pairwise_cons] at hK hM
      have hkm : k = m := by
        have h1 := (h k).1 (by simp)
        have h2 := (h m).2 (by simp)
        simp only [List.mem_cons] at h1 h2
        rcases h1 with h1 | h1
        · exact h1
        · rcases h2 with h2 | h2
          · exact h2.symm
          · have a := hM.1 k h1
            have b := hK.1 m h2
            omega
      subst hkm
      rw [ih hK.2 hM.2 (fun z => ?_)]
      have hz := h z
      simp only [List.mem_cons] at hz
      constructor
      · intro hzK
        rcases hz.1 (.inr hzK) with e | e
        · have := hK.1 z hzK; omega
        · exact e
      · intro hzM
        rcases hz.2 (.inr hzM) with e | e
        · have := hM.1 z hzM; omega
        · exact e

/-- a number put into an ascending list, by recursion -/
def putR : List Int → Int → List Int
  | [], n => [n]
  | k :: ks, n => if k < n then k :: putR ks n else if k = n then k :: ks else n :: k :: ks
theorem putL_eq (K : List Int) (n : Int) : putL K n = putR K n := by
  induction K with
  | nil => rfl
  | cons k K ih =>
    rw [putR]
    by_cases h1 : k < n
    · rw [if_pos h1, ← ih]
      have e : putAt (k :: K) n = putAt K n + 1 := by simp [putAt, h1]
      unfold putL
      rw [e]
      have e2 : nth (k :: K) (putAt K n + 1) = nth K (putAt K n) := rfl
      rw [e2, List.length_cons]
      by_cases h2 : putAt K n < K.length ∧ nth K (putAt K n) = n
      · rw [if_pos h2, if_pos ⟨by omega, h2.2⟩]
      · rw [if_neg h2, if_neg (fun hh => h2 ⟨by omega, hh.2⟩)]
        rfl
    · have e : putAt (k :: K) n = 0 := by simp [putAt, h1]
      rw [if_neg h1]
      unfold putL
      rw [e]
      have e2 : nth (k :: K) 0 = k := rfl
      rw [e2]
      by_cases h2 : k = n
      · rw [if_pos ⟨by simp, h2⟩, if_pos h2]
      · rw [if_neg (fun hh => h2 hh.2), if_neg h2]
        rfl
theorem mem_putR {K : List Int} {n z : Int} : z ∈ putR K n ↔ z ∈ K ∨ z = n := by
  induction K with
  | nil => simp [putR]
  | cons k K ih =>
    rw [putR]
    split
    · simp only [List.mem_cons, ih]; exact or_assoc.symm
    · split
      · rename_i h; subst h; simp only [List.mem_cons]
        constructor
        · exact .inl
        · rintro (h | h)
          · exact h
          · exact .inl h
      · simp only [List.mem_cons]
        constructor
        · rintro (h | h)
          · exact .inr h
          · exact .inl h
        · rintro (h | h)
          · exact .inr h
          · exact .inl h
theorem asc_putR {K : List Int} {n : Int} (h : AscI K) : AscI (putR K n) := by
  induction K with
  | nil => simp [putR, AscI]
  | cons k K ih =>
    have h0 := h
    unfold AscI at h
    rw [List.pairwise_cons] at h
    rw [putR]
    split
    · rename_i h1
      show List.Pairwise _ _
      rw [List.pairwise_cons]
      refine ⟨fun z hz => ?_, ih h.2⟩
      rcases mem_putR.1 hz with h2 | h2
      · exact h.1 z h2
      · omega
    · split
      · exact h0
      · rename_i h1 h2
        show List.Pairwise _ _
        rw [List.pairwise_cons]
        refine ⟨fun z hz => ?_, h0⟩
        rcases List.mem_cons.1 hz with h3 | h3
        · omega
        · have := h.1 z h3; omega

section
variable (xs : List Prf)
/-- proofs i and k speak for and against one visit -/
def hitB (i k : Nat) : Bool := (nth xs i).runner == (nth xs k).runner && (nth xs i).code == (nth xs k).code && (nth xs i).against && !(nth xs k).against
def keyP (p : Prf) : Int := 100 * p.runner + p.code
/-- the keys behind the inner loop's first k rounds -/
def keyU1 (i : Nat) (K : List Int) : Nat → List Int
  | 0 => K
  | k + 1 => if hitB xs i k && !hasI (keyU1 i K k) (keyU1 i K k).length (keyP (nth xs i)) then putL (keyU1 i K k) (keyP (nth xs i)) else keyU1 i K k
def keyU : Nat → List Int
  | 0 => []
  | i + 1 => keyU1 xs i (keyU i) xs.length
/-- contradicted visits -/
def conL : List (List Int) := (keyU xs xs.length).map fun q => [q / 100, q % 100]
end
theorem hasI_mem {K : List Int} {v : Int} : hasI K K.length v = true ↔ v ∈ K := by
  constructor
  · intro h
    by_cases hn : ∃ j, j < K.length ∧ nth K j = v
    · obtain ⟨j, h1, h2⟩ := hn
      rw [← h2]; simp [nth, h1]
    · rw [hasI_no (fun j hj e => hn ⟨j, hj, e⟩)] at h; cases h
  · intro h
    obtain ⟨j, h1, h2⟩ := mem_nth h
    exact hasI_yes h1 h2
theorem keyU1_mem {xs : List Prf} {i : Nat} {K : List Int} {z : Int} : ∀ k, z ∈ keyU1 xs i K k ↔ z ∈ K ∨ (z = keyP (nth xs i) ∧ ∃ j, j < k ∧ hitB xs i j = true) := by
  intro k
  induction k with
  | zero => simp [keyU1]
  | succ k ih =>
    rw [keyU1]
    split
    · rename_i h
      rw [Bool.and_eq_true] at h
      rw [putL_eq, mem_putR, ih]
      constructor
      · rintro ((h1 | ⟨h1, j, h2, h3⟩) | h1)
        · exact .inl h1
        · exact .inr ⟨h1, j, by omega, h3⟩
        · exact .inr ⟨h1, k, by omega, h.1⟩
      · rintro (h1 | ⟨h1, _⟩)
        · exact .inl (.inl h1)
        · exact .inr h1
    · rename_i h
      rw [ih]
      constructor
      · rintro (h1 | ⟨h1, j, h2, h3⟩)
        · exact .inl h1
        · exact .inr ⟨h1, j, by omega, h3⟩
      · rintro (h1 | ⟨h1, j, h2, h3⟩)
        · exact .inl h1
        · by_cases e : j = k
          · subst e
            have : hasI (keyU1 xs i K j) (keyU1 xs i K j).length (keyP (nth xs i)) = true := by
              cases hh : hasI (keyU1 xs i K j) (keyU1 xs i K j).length (keyP (nth xs i))
              · rw [h3, hh] at h; simp at h
              · rfl
            rw [← ih, h1]
            exact hasI_mem.1 this
          · exact .inr ⟨h1, j, by omega, h3⟩
theorem keyU1_asc {xs : List Prf} {i : Nat} {K : List Int} (h : AscI K) : ∀ k, AscI (keyU1 xs i K k) := by
  intro k
  induction k with
  | zero => exact h
  | succ k ih =>
    rw [keyU1]
    split
    · rw [putL_eq]; exact asc_putR ih
    · exact ih
theorem keyU_asc (xs : List Prf) : ∀ i, AscI (keyU xs i) := by
  intro i
  induction i with
  | zero => simp [keyU, AscI]
  | succ i ih => exact keyU1_asc ih _
theorem keyU_mem {xs : List Prf} {z : Int} : ∀ n, z ∈ keyU xs n ↔ ∃ i, i < n ∧ z = keyP (nth xs i) ∧ ∃ j, j < xs.length ∧ hitB xs i j = true := by
  intro n
  induction n with
  | zero => simp [keyU]
  | succ n ih =>
    rw [keyU, keyU1_mem, ih]
    constructor
    · rintro (⟨i, h1, h2⟩ | ⟨h1, h2⟩)
      · exact ⟨i, by omega, h2⟩
      · exact ⟨n, by omega, h1, h2⟩
    · rintro ⟨i, h1, h2, h3⟩
      by_cases e : i = n
      · subst e; exact .inr ⟨h2, h3⟩
      · exact .inl ⟨i, by omega, h2, h3⟩
theorem keyU1_len (xs : List Prf) (i : Nat) (K : List Int) (k : Nat) : (keyU1 xs i K k).length ≤ K.length + k := by
  induction k with
  | zero => simp [keyU1]
  | succ k ih =>
    rw [keyU1]
    split
    · have := putL_len (keyU1 xs i K k) (keyP (nth xs i)); omega
    · omega
theorem keyU_len (xs : List Prf) (i : Nat) : (keyU xs i).length ≤ i * xs.length := by
  induction i with
  | zero => simp [keyU]
  | succ i ih =>
    rw [keyU]
    have := keyU1_len xs i (keyU xs i) xs.length
    rw [Nat.add_mul]
    omega

/-- a sorted row without repeats has ascending keys -/
theorem keep_asc {d : List Row2} {n : Nat} (hn : n ≤ d.length) (hok : ∀ j, j < n → okR (nth d j)) (hs : ∀ p q, p < q → q < n → (nth d p).key ≤ (nth d q).key) :
    AscI ((keepU eqR d n).map Row2.key) ∧ (∀ z, z ∈ (keepU eqR d n).map Row2.key ↔ ∃ j, j < n ∧ z = (nth d j).key) := by
  induction n with
  | zero => simp [keepU, AscI]
  | succ n ih =>
    obtain ⟨h1, h2⟩ := ih (by omega) (fun j hj => hok j (by omega)) (fun p q h1 h2 => hs p q h1 (by omega))
    rw [keepU]
    split
    · rename_i h
      rw [eqR_key (hok n (by omega)) (hok (n - 1) (by omega)), decide_eq_true_eq] at h
      refine ⟨h1, fun z => ?_⟩
      rw [h2]
      constructor
      · rintro ⟨j, hj, e⟩; exact ⟨j, by omega, e⟩
      · rintro ⟨j, hj, e⟩
        by_cases e2 : j = n
        · subst e2; exact ⟨j - 1, by omega, by rw [e, h.2]⟩
        · exact ⟨j, by omega, e⟩
    · rename_i h
      rw [List.map_append, List.map_cons, List.map_nil]
      refine ⟨?_, fun z => ?_⟩
      · unfold AscI at h1 ⊢
        rw [List.pairwise_append]
        refine ⟨h1, by simp, fun a ha b hb => ?_⟩
        obtain rfl : b = (nth d n).key := by simpa using hb
        obtain ⟨j, hj, e⟩ := (h2 a).1 ha
        have h3 : (nth d j).key ≤ (nth d (n - 1)).key := by
          by_cases e2 : j = n - 1
          · subst e2; exact Int.le_refl _
          · exact hs j (n - 1) (by omega) (by omega)
        have h4 := hs (n - 1) n (by omega) (by omega)
        have h5 : (nth d n).key ≠ (nth d (n - 1)).key := fun e3 => h ⟨by omega, by rw [eqR_key (hok n (by omega)) (hok (n - 1) (by omega))]; simpa using e3⟩
        omega
      · simp only [List.mem_append, h2, List.mem_singleton]
        constructor
        · rintro (⟨j, hj, e⟩ | e)
          · exact ⟨j, by omega, e⟩
          · exact ⟨n, by omega, e⟩
        · rintro ⟨j, hj, e⟩
          by_cases e2 : j = n
          · subst e2; exact .inr e
          · exact .inl ⟨j, by omega, e⟩

/-- speaks against this visit -/
def agB (xs : List Prf) (r c : Int) : Bool := decide (bestW xs r c 0 true xs.length ≠ 0) || decide (bestW xs r c 1 true xs.length ≠ 0) || decide (bestW xs r c 2 true xs.length ≠ 0) || decide (bestW xs r c 3 true xs.length ≠ 0)
def conB (xs : List Prf) (k : Nat) : Bool := !(nth xs k).against && agB xs (nth xs k).runner (nth xs k).code
def conU (xs : List Prf) : Nat → List (Int × Int)
  | 0 => []
  | k + 1 => if conB xs k then conU xs k ++ [((nth xs k).runner, (nth xs k).code)] else conU xs k

theorem conU_mem {xs : List Prf} {z : Int × Int} : ∀ n, z ∈ conU xs n ↔ ∃ k, k < n ∧ conB xs k = true ∧ z = ((nth xs k).runner, (nth xs k).code) := by
  intro n
  induction n with
  | zero => simp [conU]
  | succ n ih =>
    rw [conU]
    split
    · rename_i h
      rw [List.mem_append, List.mem_singleton, ih]
      constructor
      · rintro (⟨k, h1, h2⟩ | h1)
        · exact ⟨k, by omega, h2⟩
        · exact ⟨n, by omega, h, h1⟩
      · rintro ⟨k, h1, h2, h3⟩
        by_cases e : k = n
        · subst e; exact .inr h3
        · exact .inl ⟨k, by omega, h2, h3⟩
    · rename_i h
      rw [ih]
      constructor
      · rintro ⟨k, h1, h2⟩; exact ⟨k, by omega, h2⟩
      · rintro ⟨k, h1, h2, h3⟩
        by_cases e : k = n
        · subst e; exact absurd h2 h
        · exact ⟨k, by omega, h2, h3⟩
theorem bestW_pos {xs : List Prf} (hok : okPrfs xs) {r c kd : Int} : bestW xs r c kd true xs.length ≠ 0 ↔ 0 < bestW xs r c kd true xs.length := by
  have := bestW_small (r := r) (c := c) (kd := kd) (ag := true) hok _ (Nat.le_refl _)
  omega
theorem agB_iff {xs : List Prf} (hok : okPrfs xs) {r c : Int} : agB xs r c = true ↔ ∃ i, i < xs.length ∧ (nth xs i).runner = r ∧ (nth xs i).code = c ∧ (nth xs i).against = true := by
  have hcnt : ∀ (x : Prf) (kd : Int), cnt x r c kd true = true ↔ x.runner = r ∧ x.code = c ∧ x.kind = kd ∧ x.against = true := fun x kd => by simp [cnt, and_assoc]
  constructor
  · intro h
    have h1 : ∃ kd : Int, 0 < bestW xs r c kd true xs.length := by
      simp only [agB, Bool.or_eq_true, decide_eq_true_eq] at h
      rcases h with ((h | h) | h) | h
      · exact ⟨0, (bestW_pos hok).1 h⟩
      · exact ⟨1, (bestW_pos hok).1 h⟩
      · exact ⟨2, (bestW_pos hok).1 h⟩
      · exact ⟨3, (bestW_pos hok).1 h⟩
    obtain ⟨kd, h2⟩ := h1
    obtain ⟨i, hi, h3, _⟩ := bestW_at h2
    have h4 := (hcnt _ _).1 h3
    exact ⟨i, hi, h4.1, h4.2.1, h4.2.2.2⟩
  · rintro ⟨i, hi, h1, h2, h3⟩
    have hk := (hok i hi)
    have hge := bestW_ge (xs := xs) (r := r) (c := c) (kd := (nth xs i).kind) (ag := true) hi ((hcnt _ _).2 ⟨h1, h2, rfl, h3⟩)
    have hp : bestW xs r c (nth xs i).kind true xs.length ≠ 0 := by omega
    simp only [agB, Bool.or_eq_true, decide_eq_true_eq]
    have h4 : (nth xs i).kind = 0 ∨ (nth xs i).kind = 1 ∨ (nth xs i).kind = 2 ∨ (nth xs i).kind = 3 := by omega
    rcases h4 with e | e | e | e <;> rw [e] at hp
    · exact .inl (.inl (.inl hp))
    · exact .inl (.inl (.inr hp))
    · exact .inl (.inr hp)
    · exact .inr hp
theorem con_keys {xs : List Prf} (hok : okPrfs xs) {z : Int} : (∃ k, k < xs.length ∧ conB xs k = true ∧ z = keyP (nth xs k)) ↔ z ∈ keyU xs xs.length := by
  rw [keyU_mem]
  constructor
  · rintro ⟨k, hk, h1, h2⟩
    simp only [conB, Bool.and_eq_true, Bool.not_eq_true'] at h1
    obtain ⟨i, hi, h3, h4, h5⟩ := (agB_iff hok).1 h1.2
    refine ⟨i, hi, by rw [h2]; unfold keyP; rw [h3, h4], k, hk, ?_⟩
    simp [hitB, h3, h4, h5, h1.1]
  · rintro ⟨i, hi, h1, j, hj, h2⟩
    simp only [hitB, Bool.and_eq_true, beq_iff_eq, Bool.not_eq_true'] at h2
    refine ⟨j, hj, ?_, by rw [h1]; unfold keyP; rw [h2.1.1.1, h2.1.1.2]⟩
    simp only [conB, Bool.and_eq_true, Bool.not_eq_true']
    exact ⟨h2.2, (agB_iff hok).2 ⟨i, hi, h2.1.1.1, h2.1.1.2, h2.1.2⟩⟩
/-- sorted rows without repeats are the keys' rows -/
theorem con_final {xs : List Prf} {X d : List Row2} (hp : okPrfs xs) (hX : X.map (fun x => (x.r, x.c)) = conU xs xs.length) (hd : d.Perm X) (hs : SortedTo coR d X.length) (hok : ∀ x, x ∈ X → okR x) : (keepU eqR d X.length).map Row2.l = conL xs := by
  have hdl := hd.length_eq
  have hm : ∀ j, j < X.length → nth d j ∈ X := fun j hj => hd.mem_iff.1 (by simp [nth, show j < d.length by omega])
  have hokd : ∀ j, j < X.length → okR (nth d j) := fun j hj => hok _ (hm j hj)
  obtain ⟨h1, h2⟩ := keep_asc (d := d) (n := X.length) (by omega) hokd (fun p q h1 h2 => by
    have h3 := hs p q h1 h2
    rw [coR_neg (hokd q h2) (hokd p (by omega))] at h3
    omega)
  have hK : (keepU eqR d X.length).map Row2.key = keyU xs xs.length := by
    refine asc_ext h1 (keyU_asc _ _) (fun z => ?_)
    rw [h2, ← con_keys hp]
    constructor
    · rintro ⟨j, hj, e⟩
      have h3 : ((nth d j).r, (nth d j).c) ∈ conU xs xs.length := by rw [← hX]; exact List.mem_map.2 ⟨_, hm j hj, rfl⟩
      obtain ⟨k, hk, h4, h5⟩ := (conU_mem _).1 h3
      injection h5 with h6 h7
      exact ⟨k, hk, h4, by rw [e]; unfold keyP Row2.key; rw [h6, h7]⟩
    · rintro ⟨k, hk, h4, h5⟩
      have h3 : ((nth xs k).runner, (nth xs k).code) ∈ X.map (fun x => (x.r, x.c)) := by rw [hX]; exact (conU_mem _).2 ⟨k, hk, h4, rfl⟩
      obtain ⟨x, hx, h6⟩ := List.mem_map.1 h3
      injection h6 with h7 h8
      obtain ⟨j, hj, e⟩ := mem_nth (hd.mem_iff.2 hx)
      exact ⟨j, by omega, by rw [h5, e]; unfold keyP Row2.key; rw [h7, h8]⟩
  unfold conL
  rw [← hK, List.map_map]
  refine List.map_congr_left fun x hx => ?_
  have hxd : x ∈ X := by
    have : ∀ n, n ≤ d.length → ∀ y, y ∈ keepU eqR d n → y ∈ d := by
      intro n
      induction n with
      | zero => intro _ y hy; simp [keepU] at hy
      | succ n ih =>
        intro hn y hy
        rw [keepU] at hy
        split at hy
        · exact ih (by omega) y hy
        · rw [List.mem_append, List.mem_singleton] at hy
          rcases hy with hy | hy
          · exact ih (by omega) y hy
          · subst hy; simp [nth, show n < d.length by omega]
    exact hd.mem_iff.1 (this _ (by omega) x hx)
  exact (key_back (hok x hxd)).symm
theorem keepU_sub {α : Type} [Inhabited α] (q : α → α → Bool) (d : List α) : ∀ n, n ≤ d.length → (keepU q d n).Sublist (d.take n) := by
  intro n
  induction n with
  | zero => intro _; simp [keepU]
  | succ n ih =>
    intro hn
    rw [take_succ_nth (by omega), keepU]
    split
    · exact (ih (by omega)).trans (List.sublist_append_left _ _)
    · exact (ih (by omega)).append (List.Sublist.refl _)

end Go.Proofs.Ytfnjoinkfghalaa
