/-
  Proved here (plain): what the laws of relays ask of the numbers.
  Conditions: those in each statement.
-/
import Derived.Test.YtlpogglcbphilaaRelO2
import Derived.Test.YtlpogglcbphilaaRel8
import Derived.Test.YtlpogglcbphilaaRel10
import Derived.Test.YtlpogglcbphilaaAddLeg1
namespace Go.Proofs.Ytlpogglcbphilaa
open Go.RowKit

theorem stU_mass {t : TeamD} {mass s : Int} {k : Nat} (h1 : 0 ≤ mass) : stU t mass k = some s → s ≤ mass := by
  cases k with
  | zero => intro e; injection e with e; omega
  | succ k =>
    intro e
    cases hs : stU t mass k with
    | none => simp [stU, hs] at e
    | some s' =>
      by_cases h4 : legT t k = 0
      · rw [stU_zero hs h4] at e; cases e
      · by_cases h5 : legT t k < 0
        · rw [stU_neg hs h5] at e; injection e with e; omega
        · rw [stU_pos hs (by omega)] at e; injection e with e; omega

/-- what StartOf and ComesBack tell together -/
theorem rel_form (ts : List TeamD) (legs mass number leg : Int) :
    (gStart ts legs mass number leg = stV none ∧ gBack ts legs mass number leg = stV none) ∨
    ∃ st : Int, gStart ts legs mass number leg = stV (some st) ∧ st ≤ mass ∧ (leg = 0 → st = 0) ∧
      (gBack ts legs mass number leg = stV none ∨
        ∃ back : Int, gBack ts legs mass number leg = stV (some back) ∧ st < back ∧ (0 ≤ leg ∧ leg ≤ 3) ∧ (leg + 1 < legs → ∃ next : Int, gStart ts legs mass number (leg + 1) = stV (some next) ∧ next ≤ back ∧ (next < back → next = mass))) := by
  cases ha : askR ts legs mass number leg
  · exact .inl ⟨gStart_no ha, gBack_no ha⟩
  · obtain ⟨k, m, hr, ht, hm, hk, hf, rfl, hm3, hin⟩ := ask_open ha
    have hg := gStart_at ha hf
    cases hs : stU (nth ts k) mass m with
    | none => exact .inl ⟨by rw [hg, hs], gBack_none hf hs⟩
    | some st =>
      refine .inr ⟨st, by rw [hg, hs], stU_mass (by omega) hs, fun e => ?_, ?_⟩
      · obtain rfl : m = 0 := by omega
        injection hs with e; exact e.symm
      · by_cases hl : legT (nth ts k) m < 1
        · exact .inl (gBack_less hf hl)
        · refine .inr ⟨st + legT (nth ts k) m, gBack_at ha hf hs hl, by omega, ⟨by omega, by omega⟩, fun hlt => ?_⟩
          have hn := stU_pos hs (by omega)
          have ha2 : askR ts legs mass number ((m + 1 : Nat) : Int) = true := by
            simp only [askR, Bool.and_eq_true, decide_eq_true_eq, inB_iff]
            exact ⟨⟨hr, by omega⟩, by omega, by omega⟩
          have hg2 := gStart_at ha2 hf
          rw [hn] at hg2
          refine ⟨min mass (st + legT (nth ts k) m), ?_, by omega, fun h => by omega⟩
          rw [← hg2]; congr 1

/-- the times in the order -/
def tmK (ts : List TeamD) (legs : Int) (i : Nat) : Int := tkey (nth (insF tkey (ts.filter (doneT legs))) i)
def lastK (ts : List TeamD) (legs : Int) : Nat → Int
  | 0 => 0
  | i + 1 => tmK ts legs i

section
variable {α : Type} [Inhabited α] (K : α → Int)
def SortedK (A : List α) : Prop := ∀ i j, i < j → j < A.length → K (nth A i) ≤ K (nth A j)
theorem posR_ge (A : List α) (x : α) (n : Nat) : ∀ j, posR K A x n ≤ j → j < n → K x < K (nth A j) := by
  induction n with
  | zero => intro j _ h; omega
  | succ n ih =>
    intro j h1 h2
    rw [posR] at h1
    by_cases hc : K x < K (nth A n)
    · rw [if_pos hc] at h1
      by_cases e : j = n
      · subst e; exact hc
      · exact ih j h1 (by omega)
    · rw [if_neg hc] at h1; omega
theorem posR_lt (A : List α) (x : α) (n : Nat) : 0 < posR K A x n → K (nth A (posR K A x n - 1)) ≤ K x := by
  induction n with
  | zero => intro h; simp [posR] at h
  | succ n ih =>
    intro h
    rw [posR] at h ⊢
    by_cases hc : K x < K (nth A n)
    · rw [if_pos hc] at h ⊢; exact ih h
    · rw [if_neg hc, Nat.add_sub_cancel]; omega
theorem nth_insP (A : List α) (x : α) (i : Nat) : nth (insP K A x) i = if i < posR K A x A.length then nth A i else if i = posR K A x A.length then x else nth A (i - 1) := by
  have hp := posR_le K A x A.length
  unfold insP
  generalize posR K A x A.length = p at *
  by_cases h1 : i < p
  · rw [if_pos h1, nth_app_lt (by simp; omega), nth_take h1]
  · rw [if_neg h1, nth_app_ge (by simp; omega), List.length_take, Nat.min_eq_left hp]
    by_cases h2 : i = p
    · subst h2; rw [if_pos rfl, Nat.sub_self]; rfl
    · rw [if_neg h2, show i - p = (i - p - 1) + 1 by omega]
      simp only [nth, List.getD, List.getElem?_cons_succ, List.getElem?_drop]
      rw [show p + (i - p - 1) = i - 1 by omega]
theorem insP_sorted {A : List α} (h : SortedK K A) (x : α) : SortedK K (insP K A x) := by
  intro i j hij hj
  rw [insP_len] at hj
  rw [nth_insP, nth_insP]
  have h1 := posR_ge K A x A.length
  have h2 := posR_lt K A x A.length
  have h3 := posR_le K A x A.length
  generalize posR K A x A.length = p at *
  by_cases ci : i < p
  · rw [if_pos ci]
    by_cases cj : j < p
    · rw [if_pos cj]; exact h i j hij (by omega)
    · rw [if_neg cj]
      by_cases ej : j = p
      · rw [if_pos ej]
        have := h2 (by omega)
        by_cases e : i = p - 1
        · rw [e]; exact this
        · exact Int.le_trans (h i (p - 1) (by omega) (by omega)) this
      · rw [if_neg ej]
        by_cases e : i = j - 1
        · rw [e]; exact Int.le_refl _
        · exact h i (j - 1) (by omega) (by omega)
  · rw [if_neg ci, if_neg (show ¬ j < p by omega), if_neg (show ¬ j = p by omega)]
    by_cases ei : i = p
    · rw [if_pos ei]
      exact Int.le_of_lt (h1 (j - 1) (by omega) (by omega))
    · rw [if_neg ei]
      exact h (i - 1) (j - 1) (by omega) (by omega)
theorem insF_sorted (L : List α) : SortedK K (insF K L) := by
  refine rev_ind (p := fun L => SortedK K (insF K L)) L (fun i j _ hj => by simp [insF] at hj) fun L x ih => ?_
  rw [insF_snoc]
  exact insP_sorted K ih x
/-- the first of the order -/
theorem insP_first {A : List α} (h : SortedK K A) (x : α) : nth (insP K A x) 0 = if A.length = 0 ∨ K x < K (nth A 0) then x else nth A 0 := by
  rw [nth_insP]
  have h1 := posR_ge K A x A.length
  have h2 := posR_lt K A x A.length
  have h3 := posR_le K A x A.length
  generalize posR K A x A.length = p at *
  by_cases hp : 0 < p
  · rw [if_pos hp]
    have h4 := h2 hp
    have h5 : K (nth A 0) ≤ K x := by
      by_cases e : p - 1 = 0
      · rw [e] at h4; exact h4
      · exact Int.le_trans (h 0 (p - 1) (by omega) (by omega)) h4
    rw [if_neg (by omega)]
  · obtain rfl : p = 0 := by omega
    rw [if_neg (by omega), if_pos rfl]
    by_cases hA : A.length = 0
    · rw [if_pos (.inl hA)]
    · rw [if_pos (.inr (h1 0 (Nat.le_refl _) (by omega)))]
end

theorem done_key {t : TeamD} {legs : Int} (hok : TeamOk t legs) (h : doneT legs t = true) : t.legs.length = (legs - 1).toNat + 1 ∧ tkey t = sumU t.legs ((legs - 1).toNat + 1) ∧ 0 ≤ tkey t ∧ 0 < legT t (legs - 1).toNat := by
  have h1 : 0 < legT t (legs - 1).toNat := by simpa [doneT] using h
  have h2 : (legs - 1).toNat < t.legs.length := Classical.byContradiction fun hn => by rw [legT_out hn] at h1; omega
  have h3 := hok.len
  have h4 := hok.l4
  have h5 : t.legs.length = (legs - 1).toNat + 1 := by omega
  exact ⟨h5, by unfold tkey; rw [h5], (sum_bd hok _ (Nat.le_refl _)).1, h1⟩

theorem ord_at {ts : List TeamD} {legs : Int} {i : Nat} (hi : i < (insF tkey (ts.filter (doneT legs))).length) : ∃ q, q < ts.length ∧ nth (insF tkey (ts.filter (doneT legs))) i = nth ts q ∧ doneT legs (nth ts q) = true := by
  have h1 : nth (insF tkey (ts.filter (doneT legs))) i ∈ insF tkey (ts.filter (doneT legs)) := by simp [nth, hi]
  generalize nth (insF tkey (ts.filter (doneT legs))) i = y at h1
  have h2 := List.mem_filter.1 (insF_mem tkey h1)
  obtain ⟨q, hq, e⟩ := List.mem_iff_getElem.1 h2.1
  have e2 : nth ts q = y := by simp [nth, hq, e]
  exact ⟨q, hq, e2.symm, by rw [e2]; exact h2.2⟩

theorem relL_len (ts : List TeamD) (legs : Int) : (relL ts legs).length ≤ 8 := by
  unfold relL
  split
  · rename_i h
    rw [List.length_map, insF_len]
    exact Nat.le_trans (List.length_filter_le _ _) (teamsB_at h).2.1
  · simp

theorem order_times {ts : List TeamD} {legs : Int} {i : Nat} (hi : i < (relL ts legs).length) : gTime ts legs (nth (relL ts legs) i) = .tuple #[.int .i64 (tmK ts legs i), .bool true] ∧ lastK ts legs i ≤ tmK ts legs i ∧ I64 (nth (relL ts legs) i) := by
  cases hb : teamsB ts legs
  · unfold relL at hi
    rw [hb] at hi
    simp at hi
  · have hL : relL ts legs = (insF tkey (ts.filter (doneT legs))).map TeamD.num := by unfold relL; rw [hb]; rfl
    rw [hL] at hi ⊢
    rw [List.length_map] at hi
    obtain ⟨q, hq, e, hd⟩ := ord_at hi
    have hok := teamOk hb hq
    have hk := done_key hok hd
    rw [nth_mapT hi, e]
    have hf := fdT_num hb hq
    refine ⟨?_, ?_, ?_⟩
    · unfold gTime doneB tmK
      rw [hb, hf, e]
      have h0 : decide (0 < legT (nth ts q) (legs - 1).toNat) = true := by simpa using hk.2.2.2
      have h1 : decide ((0 : Int) ≤ (q : Int)) = true := by simp
      simp only [Int.toNat_natCast, h0, h1, Bool.and_self, if_true]
      rfl
    · cases i with
      | zero => show 0 ≤ tkey _; rw [e]; exact hk.2.2.1
      | succ i => exact insF_sorted tkey (ts.filter (doneT legs)) i (i + 1) (Nat.lt_succ_self _) hi
    · have := hok.num
      exact ⟨by omega, by omega⟩

theorem msU_mem {t : TeamD} {mass : Int} {p : Par} : ∀ {n : Nat}, p ∈ msU t mass n → ∃ q, q < n ∧ msB t mass q = true ∧ p = ⟨t.num, (q : Int) + 1⟩ := by
  intro n
  induction n with
  | zero => intro h; simp [msU] at h
  | succ n ih =>
    intro h
    rw [msU] at h
    split at h
    · rename_i hb
      rw [List.mem_append, List.mem_singleton] at h
      rcases h with h | h
      · obtain ⟨q, hq, h1⟩ := ih h
        exact ⟨q, by omega, h1⟩
      · exact ⟨n, by omega, hb, h⟩
    · obtain ⟨q, hq, h1⟩ := ih h
      exact ⟨q, by omega, h1⟩
theorem msA_mem {ts : List TeamD} {mass : Int} {n : Nat} {p : Par} : ∀ {k : Nat}, p ∈ msA ts mass n k → ∃ i, i < k ∧ p ∈ msU (nth ts i) mass n := by
  intro k
  induction k with
  | zero => intro h; simp [msA] at h
  | succ k ih =>
    intro h
    rw [msA, List.mem_append] at h
    rcases h with h | h
    · obtain ⟨i, hi, h1⟩ := ih h
      exact ⟨i, by omega, h1⟩
    · exact ⟨k, by omega, h⟩
theorem msB_start {t : TeamD} {mass : Int} {q : Nat} (h : msB t mass q = true) : stU t mass (q + 1) = some mass := by
  cases hs : stU t mass q with
  | none => rw [msB_none hs] at h; cases h
  | some s =>
    by_cases h1 : legT t q < 0
    · exact stU_neg hs h1
    · by_cases h2 : legT t q = 0
      · rw [msB_zero hs h2] at h; cases h
      · rw [msB_pos hs (by omega), decide_eq_true_eq] at h
        rw [stU_pos hs (by omega)]
        congr 1; omega
theorem mass_starts {ts : List TeamD} {legs mass : Int} {i : Nat} (hi : i < (msL ts legs mass).length) : gStart ts legs mass (nth (msL ts legs mass) i).a (nth (msL ts legs mass) i).b = stV (some mass) ∧ I64 (nth (msL ts legs mass) i).a ∧ I64 (nth (msL ts legs mass) i).b := by
  have hm : nth (msL ts legs mass) i ∈ msL ts legs mass := by simp [nth, hi]
  generalize nth (msL ts legs mass) i = p at hm
  unfold msL at hm
  split at hm
  · rename_i hr
    have hr2 := hr
    simp only [relB, Bool.and_eq_true, inB_iff] at hr2
    obtain ⟨k, hk, hp⟩ := msA_mem hm
    obtain ⟨q, hq, hb, rfl⟩ := msU_mem hp
    have hf := fdT_num hr2.1 hk
    have hl := (teamsB_at hr2.1).1
    have hok := teamOk hr2.1 hk
    have ha : askR ts legs mass (nth ts k).num ((q + 1 : Nat) : Int) = true := by
      simp only [askR, Bool.and_eq_true, decide_eq_true_eq, inB_iff]
      exact ⟨⟨hr, by omega⟩, by omega, by omega⟩
    have hg := gStart_at ha hf
    rw [msB_start hb] at hg
    have := hok.num
    exact ⟨hg, ⟨by show _ ≤ (nth ts k).num; omega, by show (nth ts k).num ≤ _; omega⟩, by show _ ≤ (q : Int) + 1; omega, by show (q : Int) + 1 ≤ _; omega⟩
  · simp at hm

theorem lead_ord {ts : List TeamD} {legs : Int} (hb : teamsB ts legs = true) : ∀ k, k ≤ ts.length →
    leadU ts (legs - 1).toNat k = if (ordA ts legs k).length = 0 then (0, -1) else ((nth (ordA ts legs k) 0).num, tkey (nth (ordA ts legs k) 0)) := by
  intro k
  induction k with
  | zero => intro _; simp [leadU, ordA, insF]
  | succ k ih =>
    intro hk
    have h1 := ih (by omega)
    have hok := teamOk hb (show k < ts.length by omega)
    cases hd : doneT legs (nth ts k)
    · have hn : ¬ 0 < legT (nth ts k) (legs - 1).toNat := by simpa [doneT] using hd
      rw [leadU_no hn, h1, ordA_no (by omega) hd]
    · have hkey := done_key hok hd
      have hs : SortedK tkey (ordA ts legs k) := insF_sorted tkey ((ts.take k).filter (doneT legs))
      rw [ordA_yes (by omega) hd, insP_len]
      have hne : ¬ (ordA ts legs k).length + 1 = 0 := by omega
      rw [if_neg hne, insP_first tkey hs]
      by_cases h0 : (ordA ts legs k).length = 0
      · rw [if_pos (.inl h0)]
        rw [if_pos h0] at h1
        rw [leadU_less hkey.2.2.2 (.inl (by rw [h1]; decide)), ← hkey.2.1]
      · rw [if_neg h0] at h1
        obtain ⟨q, hq, hqe⟩ := ordA_at (show 0 < (ordA ts legs k).length by omega)
        have hpos : 0 ≤ tkey (nth (ordA ts legs k) 0) := by
          rw [hqe]; exact (sum_bd (teamOk hb hq) _ (Nat.le_refl _)).1
        by_cases hlt : tkey (nth ts k) < tkey (nth (ordA ts legs k) 0)
        · rw [leadU_less hkey.2.2.2 (.inr (by rw [h1, ← hkey.2.1]; exact hlt)), ← hkey.2.1]
          rw [if_pos (.inr hlt)]
        · rw [leadU_more (by rw [h1]; show ¬ tkey _ < 0; omega) (by rw [h1, ← hkey.2.1]; exact hlt), h1]
          have h2 : ¬ ((ordA ts legs k).length = 0 ∨ tkey (nth ts k) < tkey (nth (ordA ts legs k) 0)) := by
            rintro (h | h)
            · exact h0 h
            · exact hlt h
          rw [if_neg h2]

theorem lead_form (ts : List TeamD) (legs mass leg : Int) : (gLead ts legs mass leg = .tuple #[.int .i64 0, .bool false]) ∨ ∃ l : Int, (gLead ts legs mass leg = .tuple #[.int .i64 l, .bool false]) ∨ gLead ts legs mass leg = .tuple #[.int .i64 l, .bool true] ∧ (1 ≤ legs ∧ legs ≤ 4) ∧ (leg = legs - 1 → teamsB ts legs = true ∧ 0 < (relL ts legs).length ∧ nth (relL ts legs) 0 = l) := by
  unfold gLead
  split
  · rename_i h
    rw [Bool.and_eq_true, inB_iff] at h
    have hr := h.1
    simp only [relB, Bool.and_eq_true, inB_iff] at hr
    refine .inr ⟨(leadU ts leg.toNat ts.length).1, ?_⟩
    by_cases hd : 0 ≤ (leadU ts leg.toNat ts.length).2
    · refine .inr ⟨by rw [decide_eq_true hd], (teamsB_at hr.1).1, fun e => ?_⟩
      subst e
      have hl := lead_ord hr.1 ts.length (Nat.le_refl _)
      have hL : relL ts legs = (ordA ts legs ts.length).map TeamD.num := by unfold relL ordA; rw [hr.1, List.take_length]; rfl
      by_cases h0 : (ordA ts legs ts.length).length = 0
      · rw [if_pos h0] at hl
        rw [hl] at hd
        exact absurd hd (by decide)
      · rw [if_neg h0] at hl
        rw [hl, hL, List.length_map]
        exact ⟨hr.1, by omega, nth_mapT (by omega)⟩
    · exact .inl (by rw [decide_eq_false hd])
  · exact .inl rfl

theorem fast_min {ts : List TeamD} {m : Nat} : ∀ {n : Nat} {b l : Int}, fastU ts m n = some (b, l) → ∀ k, k < n → 0 < legT (nth ts k) m → l ≤ legT (nth ts k) m := by
  intro n
  induction n with
  | zero => intro b l h k hk; omega
  | succ n ih =>
    intro b l h k hk h0
    by_cases hn : 0 < legT (nth ts n) m
    · cases hf : fastU ts m n with
      | none =>
        rw [fastU_first hn hf] at h
        injection h with h; injection h with h1 h2
        by_cases e : k = n
        · subst e; omega
        · exfalso
          have : ∀ j, j ≤ n → fastU ts m j = none → ∀ i, i < j → ¬ 0 < legT (nth ts i) m := by
            intro j
            induction j with
            | zero => intro _ _ i hi; omega
            | succ j ihj =>
              intro hj he i hi hp
              by_cases hjp : 0 < legT (nth ts j) m
              · cases hfj : fastU ts m j with
                | none => rw [fastU_first hjp hfj] at he; cases he
                | some p =>
                  obtain ⟨b', l'⟩ := p
                  rw [fastU, if_pos hjp, hfj] at he
                  simp only at he
                  split at he <;> cases he
              · rw [fastU_no hjp] at he
                by_cases ei : i = j
                · subst ei; exact hjp hp
                · exact ihj (by omega) he i (by omega) hp
          exact this n (Nat.le_refl _) hf k (by omega) h0
      | some p =>
        obtain ⟨b', l'⟩ := p
        by_cases hlt : legT (nth ts n) m < l'
        · rw [fastU_less hn hf hlt] at h
          injection h with h; injection h with h1 h2
          by_cases e : k = n
          · subst e; omega
          · have := ih hf k (by omega) h0; omega
        · rw [fastU_more hn hf hlt] at h
          injection h with h; injection h with h1 h2
          by_cases e : k = n
          · subst e; omega
          · have := ih hf k (by omega) h0; omega
    · rw [fastU_no hn] at h
      by_cases e : k = n
      · subst e; exact absurd h0 hn
      · exact ih h k (by omega) h0

theorem fast_form (ts : List TeamD) (legs leg : Int) : gFast ts legs leg = fastV none ∨ ∃ b l : Int, gFast ts legs leg = fastV (some (b, l)) ∧ ∃ m : Nat, leg = (m : Int) ∧ m ≤ 3 ∧ ∀ k, k < ts.length → 0 < legT (nth ts k) m → l ≤ legT (nth ts k) m := by
  unfold gFast
  split
  · rename_i h
    rw [Bool.and_eq_true, inB_iff] at h
    have hl := (teamsB_at h.1).1
    obtain ⟨m, rfl⟩ : ∃ m : Nat, leg = (m : Int) := ⟨leg.toNat, by omega⟩
    cases hf : fastU ts (m : Int).toNat ts.length with
    | none => exact .inl rfl
    | some p =>
      obtain ⟨b, l⟩ := p
      exact .inr ⟨b, l, rfl, m, rfl, by omega, fun k hk => by simpa using fast_min hf k hk⟩
  · exact .inl rfl

/-- an added leg is the last one -/
theorem leg_last {ts : List TeamD} {legs number time : Int} {k : Nat} (hk : k < (legL ts legs number time).length) (hn : (nth (legL ts legs number time) k).num = number) :
    ∃ l0, (nth (legL ts legs number time) k).legs = l0 ++ [time] := by
  unfold legL at hk hn ⊢
  split at hk
  · rename_i hb
    rw [if_pos hb] at hn ⊢
    have hb2 := hb
    simp only [legB, Bool.and_eq_true, decide_eq_true_eq] at hb2
    obtain ⟨i, hi, hfi⟩ := fdT_at hb2.1.2
    rw [hfi] at hn ⊢
    simp only [Int.toNat_natCast] at hn ⊢
    rw [legAt_len] at hk
    rw [legAt_nth hk] at hn ⊢
    by_cases e : i = k
    · rw [if_pos e]; exact ⟨_, rfl⟩
    · exfalso
      rw [if_neg e] at hn
      have := fdT_num hb2.1.1 hk
      rw [hn, hfi] at this
      omega
  · simp at hk
theorem legL_len (ts : List TeamD) (legs number time : Int) : (legL ts legs number time).length ≤ ts.length := by
  unfold legL
  split
  · rw [legAt_len]; omega
  · simp

end Go.Proofs.Ytlpogglcbphilaa
