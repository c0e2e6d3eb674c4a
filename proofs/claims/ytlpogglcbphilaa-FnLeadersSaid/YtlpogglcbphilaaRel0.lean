/-
  Proved here: plain facts on teams of a relay: valid teams, legs, starts.
  Conditions: none beyond those in each statement.
-/
import Derived.Test.YtlpogglcbphilaaTTeam
import Derived.Test.YtlpogglcbphilaaIdx
namespace Go.Proofs.Ytlpogglcbphilaa
open Go.RowKit

/-- leg k is well formed behind leg k - 1 -/
def okLeg (l : List Int) (k : Nat) : Bool := inB (nth l k) 0 10000 && !(decide (0 < k) && decide (nth l (k - 1) = 0))
/-- the same, said of leg k and those behind it -/
def okLegI (l : List Int) (n k : Nat) : Bool := inB (nth l k) 0 10000 && !(decide (nth l k = 0) && decide (k + 1 < n))
theorem legs_same (l : List Int) : upto (okLegI l l.length) l.length = upto (okLeg l) l.length := by
  rw [Bool.eq_iff_iff, upto_true, upto_true]
  simp only [okLeg, okLegI, Bool.and_eq_true, Bool.not_eq_true', Bool.and_eq_false_iff, decide_eq_false_iff_not]
  constructor
  · intro h k hk
    refine ⟨(h k hk).1, ?_⟩
    by_cases h0 : 0 < k
    · right
      rcases (h (k - 1) (by omega)).2 with h1 | h1
      · exact h1
      · exact absurd (show k - 1 + 1 < l.length by omega) h1
    · exact .inl h0
  · intro h k hk
    refine ⟨(h k hk).1, ?_⟩
    by_cases h0 : k + 1 < l.length
    · left
      rcases (h (k + 1) h0).2 with h1 | h1
      · exact absurd (show 0 < k + 1 by omega) h1
      · exact h1
    · exact .inr h0
def teamB (t : TeamD) (legs : Int) : Bool := upto (okLeg t.legs) t.legs.length && inB t.num 1 99 && decide ((t.legs.length : Int) ≤ legs)
def stepB (ts : List TeamD) (k : Nat) : Bool := !(decide (0 < k) && decide ((nth ts k).num ≤ (nth ts (k - 1)).num))
def okTeam (ts : List TeamD) (legs : Int) (k : Nat) : Bool := teamB (nth ts k) legs && stepB ts k
def teamsB (ts : List TeamD) (legs : Int) : Bool := upto (okTeam ts legs) ts.length && inB legs 1 4 && decide (ts.length ≤ 8)

theorem teamsB_at {ts : List TeamD} {legs : Int} (h : teamsB ts legs = true) : (1 ≤ legs ∧ legs ≤ 4) ∧ ts.length ≤ 8 ∧ ∀ k, k < ts.length → (1 ≤ (nth ts k).num ∧ (nth ts k).num ≤ 99) ∧ ((nth ts k).legs.length : Int) ≤ legs ∧ ∀ j, j < (nth ts k).legs.length → 0 ≤ nth (nth ts k).legs j ∧ nth (nth ts k).legs j ≤ 10000 := by
  simp only [teamsB, Bool.and_eq_true, decide_eq_true_eq, inB_iff, upto_true] at h
  refine ⟨h.1.2, h.2, fun k hk => ?_⟩
  have h1 := h.1.1 k hk
  simp only [okTeam, teamB, Bool.and_eq_true, decide_eq_true_eq, inB_iff, upto_true] at h1
  refine ⟨h1.1.1.2, h1.1.2, fun j hj => ?_⟩
  have h2 := h1.1.1.1 j hj
  simp only [okLeg, Bool.and_eq_true, inB_iff] at h2
  exact h2.1

/-- the time of leg k, -1 if it has not been run yet -/
def legT (t : TeamD) (k : Nat) : Int := if k < t.legs.length then nth t.legs k else -1
theorem legT_in {t : TeamD} {k : Nat} (h : k < t.legs.length) : legT t k = nth t.legs k := if_pos h
theorem legT_out {t : TeamD} {k : Nat} (h : ¬ k < t.legs.length) : legT t k = -1 := if_neg h
/-- what is known of a team among valid ones -/
structure TeamOk (t : TeamD) (legs : Int) : Prop where
  num : 1 ≤ t.num ∧ t.num ≤ 99
  len : (t.legs.length : Int) ≤ legs
  l4 : 1 ≤ legs ∧ legs ≤ 4
  leg : ∀ j, j < t.legs.length → 0 ≤ nth t.legs j ∧ nth t.legs j ≤ 10000
theorem teamOk {ts : List TeamD} {legs : Int} (h : teamsB ts legs = true) {k : Nat} (hk : k < ts.length) : TeamOk (nth ts k) legs :=
  have h1 := teamsB_at h
  ⟨(h1.2.2 k hk).1, (h1.2.2 k hk).2.1, h1.1, (h1.2.2 k hk).2.2⟩
theorem legT_bd {t : TeamD} {legs : Int} (h : TeamOk t legs) (k : Nat) : -1 ≤ legT t k ∧ legT t k ≤ 10000 := by
  by_cases hk : k < t.legs.length
  · rw [legT_in hk]; have := h.leg k hk; omega
  · rw [legT_out hk]; omega
theorem sum_bd {t : TeamD} {legs : Int} (h : TeamOk t legs) : ∀ k, k ≤ t.legs.length → 0 ≤ sumU t.legs k ∧ sumU t.legs k ≤ 10000 * k := by
  intro k
  induction k with
  | zero => intro _; simp [sumU]
  | succ k ih =>
    intro hk
    have h1 := ih (by omega)
    have h2 := h.leg k (by omega)
    rw [sumU]
    omega

/-- when the runner of leg k starts -/
def stU (t : TeamD) (mass : Int) : Nat → Option Int
  | 0 => some 0
  | k + 1 => match stU t mass k with
    | none => none
    | some s => if legT t k = 0 then none else if legT t k < 0 then some mass else some (min mass (s + legT t k))
theorem stU_zero {t : TeamD} {mass s : Int} {k : Nat} (h : stU t mass k = some s) (h0 : legT t k = 0) : stU t mass (k + 1) = none := by simp [stU, h, h0]
theorem stU_neg {t : TeamD} {mass s : Int} {k : Nat} (h : stU t mass k = some s) (h0 : legT t k < 0) : stU t mass (k + 1) = some mass := by
  have h1 : legT t k ≠ 0 := by omega
  simp [stU, h, h0, h1]
theorem stU_pos {t : TeamD} {mass s : Int} {k : Nat} (h : stU t mass k = some s) (h0 : 0 < legT t k) : stU t mass (k + 1) = some (min mass (s + legT t k)) := by
  have h1 : legT t k ≠ 0 := by omega
  have h2 : ¬ legT t k < 0 := by omega
  simp [stU, h, h1, h2]
theorem stU_none {t : TeamD} {mass : Int} {k : Nat} (h : stU t mass k = none) : ∀ n, k ≤ n → stU t mass n = none := by
  intro n hn
  induction n with
  | zero => obtain rfl : k = 0 := by omega
            exact h
  | succ n ih =>
    by_cases e : k = n + 1
    · subst e; exact h
    · simp [stU, ih (by omega)]
theorem stU_bd {t : TeamD} {mass s : Int} (h1 : 1 ≤ mass) (h2 : mass ≤ 40000) {k : Nat} : stU t mass k = some s → 0 ≤ s ∧ s ≤ 40000 := by
  induction k generalizing s with
  | zero => intro e; injection e with e; omega
  | succ k ih =>
    intro e
    cases hs : stU t mass k with
    | none => simp [stU, hs] at e
    | some s' =>
      have h3 := ih hs
      by_cases h4 : legT t k = 0
      · rw [stU_zero hs h4] at e; cases e
      · by_cases h5 : legT t k < 0
        · rw [stU_neg hs h5] at e; injection e with e; omega
        · rw [stU_pos hs (by omega)] at e; injection e with e; omega

/-- the index of the team with a number -/
def fdT (ts : List TeamD) (number : Int) : Int := idxU (fun k => (nth ts k).num == number) ts.length
def relB (ts : List TeamD) (legs mass : Int) : Bool := teamsB ts legs && inB mass 1 40000
def askR (ts : List TeamD) (legs mass number leg : Int) : Bool := relB ts legs mass && decide (0 ≤ fdT ts number) && inB leg 0 (legs - 1)
def stV : Option Int → Value
  | some s => .tuple #[.int .i64 s, .bool true]
  | none => .tuple #[.int .i64 0, .bool false]
def gStart (ts : List TeamD) (legs mass number leg : Int) : Value := if askR ts legs mass number leg then stV (stU (nth ts (fdT ts number).toNat) mass leg.toNat) else stV none
def backO (ts : List TeamD) (legs mass number leg : Int) : Option Int :=
  if askR ts legs mass number leg then
    match stU (nth ts (fdT ts number).toNat) mass leg.toNat with
    | none => none
    | some s => if legT (nth ts (fdT ts number).toNat) leg.toNat < 1 then none else some (s + legT (nth ts (fdT ts number).toNat) leg.toNat)
  else none
def gBack (ts : List TeamD) (legs mass number leg : Int) : Value := stV (backO ts legs mass number leg)
def doneB (t : TeamD) (legs : Int) : Bool := decide (0 < legT t (legs - 1).toNat)
def gTime (ts : List TeamD) (legs number : Int) : Value :=
  if teamsB ts legs && decide (0 ≤ fdT ts number) && doneB (nth ts (fdT ts number).toNat) legs then .tuple #[.int .i64 (sumU (nth ts (fdT ts number).toNat).legs (nth ts (fdT ts number).toNat).legs.length), .bool true] else .tuple #[.int .i64 0, .bool false]

/-- the leader after a leg among the first k teams, with the sum; -1 if there is none -/
def leadU (ts : List TeamD) (leg : Nat) : Nat → Int × Int
  | 0 => (0, -1)
  | k + 1 => if 0 < legT (nth ts k) leg && (decide ((leadU ts leg k).2 < 0) || decide (sumU (nth ts k).legs (leg + 1) < (leadU ts leg k).2)) then ((nth ts k).num, sumU (nth ts k).legs (leg + 1)) else leadU ts leg k
def gLead (ts : List TeamD) (legs mass leg : Int) : Value :=
  if relB ts legs mass && inB leg 0 (legs - 1) then .tuple #[.int .i64 (leadU ts leg.toNat ts.length).1, .bool (decide (0 ≤ (leadU ts leg.toNat ts.length).2))] else .tuple #[.int .i64 0, .bool false]

/-- the fastest on a leg among the first k teams -/
def fastU (ts : List TeamD) (leg : Nat) : Nat → Option (Int × Int)
  | 0 => none
  | k + 1 => if 0 < legT (nth ts k) leg then
      match fastU ts leg k with
      | none => some ((nth ts k).num, legT (nth ts k) leg)
      | some (b, l) => if legT (nth ts k) leg < l then some ((nth ts k).num, legT (nth ts k) leg) else some (b, l)
    else fastU ts leg k
def fastV : Option (Int × Int) → Value
  | some (b, l) => .tuple #[.int .i64 b, .int .i64 l, .bool true]
  | none => .tuple #[.int .i64 0, .int .i64 0, .bool false]
def gFast (ts : List TeamD) (legs leg : Int) : Value := if teamsB ts legs && inB leg 0 (legs - 1) then fastV (fastU ts leg.toNat ts.length) else fastV none

end Go.Proofs.Ytlpogglcbphilaa
