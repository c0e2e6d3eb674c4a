/-
  Proved here: what cmp.Compare and cmp.Or return at ints; what slices.Compare and slices.Equal return at slices of ints; the first least of a list by two numbers, found in two ways; the greedy tour; slices.Clone, slices.IndexFunc, slices.DeleteFunc and slices.MinFunc at controls; a region that draws its order, whose operations ahead of number n only make the world grow and hand back one value each, and whose operations from number n on can come up in one order alone: one walk of the first n serves every order; what canReach and the functions in canReach and GreedyTour return; what copyInts and the reference's l1Own return; what GreedyTour returns; what the reference's GreedyTour returns.
  Conditions: those in each statement.
-/
import Derived.Test.YtidcfohlhamgmaaOwn
import Derived.Test.YtidcfohlhamgmaaInts
import Derived.Deep.RegionWith
import Derived.Test.YtidcfohlhamgmaaCur1
import Derived.Test.YtidcfohlhamgmaaSearch
import Derived.BigQuiet
import Derived.Test.YtidcfohlhamgmaaTour8
import Derived.Test.YtidcfohlhamgmaaDel
import Derived.Test.YtidcfohlhamgmaaTControl
import Derived.Test.YtidcfohlhamgmaaIdx
import Derived.Test.YtidcfohlhamgmaaOwn3
import Derived.Test.YtidcfohlhamgmaaTouch
import Derived.Lib.SliceRun
import Derived.WalkSpells
import Derived.Test.YtidcfohlhamgmaaBase
import Derived.StillTail
import Derived.Deep.RegionLaw
import Derived.Deep.DeepCutAuto
import Derived.Test.YtidcfohlhamgmaaForm
import Derived.Test.YtidcfohlhamgmaaOwn2
import Derived.Test.YtidcfohlhamgmaaTour10
import Derived.Deep.CutBlock
import Derived.Test.YtidcfohlhamgmaaSco2
namespace Go.Proofs.Ytidcfohlhamgmaa
open Go.RowKit

def cmpI (a b : Int) : Int := if a < b then -1 else if b < a then 1 else 0
def orI (a b : Int) : Int := if a ≠ 0 then a else b

theorem cmp_isNaN {a : Int} {w : World} :
    Calls Try.prog 109 #[.int .i64 a] w fun e w' => e = .returned (.bool false) ∧ w = w' := by
  go_enter Try.func109, Try.ntmps109
  go_wp2
  go_ret
  exact ⟨ret_b (by simp), rfl⟩

theorem cmp_Compare {a b : Int} {w : World} :
    Calls Try.prog 69 #[.int .i64 a, .int .i64 b] w fun e w' => e = .returned (.int .i64 (cmpI a b)) ∧ w = w' := by
  by_cases h1 : a < b
  all_goals by_cases h2 : b < a
  all_goals
    go_enter Try.func69, Try.ntmps69
    go_wp2_with fail
    refine cmp_isNaN.mono ?_; rintro e w1 ⟨rfl, rfl⟩
    go_wp2_with fail
    refine cmp_isNaN.mono ?_; rintro e w1 ⟨rfl, rfl⟩
    go_wp2
    go_ret
    exact ⟨ret_i (by unfold cmpI; split <;> (try split) <;> omega), rfl⟩

theorem cmp_Or {a b : Int} {B : Nat} {w : World} (h0 : w.cell? ⟨B, 0, none⟩ = some (.int .i64 a)) (h1 : w.cell? ⟨B, 1, none⟩ = some (.int .i64 b)) :
    Calls Try.prog 68 #[.slice (some ⟨B, 0, none⟩) 2 2] w fun e w' => e = .returned (.int .i64 (orI a b)) ∧ Ext w w' := by
  have hbl := World.block_lt_of_cell? _ _ h0
  by_cases ha : a = 0
  all_goals by_cases hb : b = 0
  all_goals
    go_enter Try.func68, Try.ntmps68
    go_wp2
    go_loopw [8] (fun i wr => Ext w wr ∧ (i = .int .i64 0 ∨ (a = 0 ∧ i = .int .i64 1) ∨ (a = 0 ∧ b = 0 ∧ i = .int .i64 2))) (fun i _ => 2 - (intOf i).toNat)
    case atStart => exact ⟨Ext.refl _, .inl rfl⟩
    case round =>
      obtain ⟨hx, hh⟩ := hrel
      have g0 := hx.cells h0
      have g1 := hx.cells h1
      have hlw := Nat.lt_of_lt_of_le hbl hx.size
      rcases hh with rfl | ⟨e1, rfl⟩ | ⟨e1, e2, rfl⟩
      all_goals go_wp2
      all_goals first
        | (go_ret; exact ⟨ret_i (by first | (simp [orI, *]; done) | simp_all [orI]), (by repeat (first | (with_reducible exact Ext.refl _) | (with_reducible assumption) | with_reducible refine Ext.drew ?_ | with_reducible refine Ext.alloc ?_ _ | with_reducible refine Ext.setCell ?_ (by first | (simp; done) | (simp; omega) | omega) _ | with_reducible refine Ext.trans ?_ (by with_reducible assumption)))⟩)
        | (exfalso; simp_all; done)
        | (go_roundw
           case rel => exact ⟨(by repeat (first | (with_reducible exact Ext.refl _) | (with_reducible assumption) | with_reducible refine Ext.drew ?_ | with_reducible refine Ext.alloc ?_ _ | with_reducible refine Ext.setCell ?_ (by first | (simp; done) | (simp; omega) | omega) _ | with_reducible refine Ext.trans ?_ (by with_reducible assumption))), by first | exact .inr (.inl ⟨ha, by go_num⟩) | exact .inr (.inr ⟨ha, hb, by go_num⟩)⟩
           case measure => simp [intOf])

theorem cmp_same {a b : Int} {w : World} :
    Calls Try.prog 69 #[.int .i64 a, .int .i64 b] w fun e w' => e = .returned (.int .i64 (cmpI a b)) ∧ w' = w := cmp_Compare.mono fun _ _ ⟨h1, h2⟩ => ⟨h1, h2.symm⟩


/-- the order of two lists: 1, 0 or -1 -/
def cmpLI : List Int → List Int → Int
  | [], [] => 0
  | [], _ :: _ => -1
  | _ :: _, [] => 1
  | x :: xs, y :: ys => if cmpI x y ≠ 0 then cmpI x y else cmpLI xs ys
theorem cmpLI_skip : ∀ {k : Nat} {xs ys : List Int}, k ≤ xs.length → k ≤ ys.length → (∀ j, j < k → cmpI (nth xs j) (nth ys j) = 0) → cmpLI xs ys = cmpLI (xs.drop k) (ys.drop k) := by
  intro k
  induction k with
  | zero => intro xs ys _ _ _; rfl
  | succ k ih =>
    intro xs ys h1 h2 h
    cases xs with
    | nil => simp at h1
    | cons x xs =>
      cases ys with
      | nil => simp at h2
      | cons y ys =>
        have h0 : cmpI x y = 0 := by simpa [nth] using h 0 (by omega)
        rw [cmpLI, if_neg (by simp [h0])]
        exact ih (by simpa using h1) (by simpa using h2) (fun j hj => by simpa [nth] using h (j + 1) (by omega))
theorem drop_nth {xs : List Int} {k : Nat} (h : k < xs.length) : xs.drop k = nth xs k :: xs.drop (k + 1) := by
  rw [List.drop_eq_getElem_cons h]; simp [nth, h]
theorem cmpLI_at {k : Nat} {xs ys : List Int} (h1 : k < xs.length) (h2 : k < ys.length) (h : ∀ j, j < k → cmpI (nth xs j) (nth ys j) = 0) (hn : cmpI (nth xs k) (nth ys k) ≠ 0) : cmpLI xs ys = cmpI (nth xs k) (nth ys k) := by
  rw [cmpLI_skip (by omega) (by omega) h, drop_nth h1, drop_nth h2, cmpLI, if_pos hn]
theorem cmpLI_long {xs ys : List Int} (h1 : ys.length < xs.length) (h : ∀ j, j < ys.length → cmpI (nth xs j) (nth ys j) = 0) : cmpLI xs ys = 1 := by
  rw [cmpLI_skip (by omega) (Nat.le_refl _) h, drop_nth h1, List.drop_length, cmpLI]
theorem cmpLI_end {xs ys : List Int} (h1 : xs.length ≤ ys.length) (h : ∀ j, j < xs.length → cmpI (nth xs j) (nth ys j) = 0) : cmpLI xs ys = if xs.length < ys.length then -1 else 0 := by
  rw [cmpLI_skip (Nat.le_refl _) h1 h, List.drop_length]
  split
  · rename_i h2; rw [drop_nth h2, cmpLI]
  · rename_i h2; rw [List.drop_of_length_le (by omega), cmpLI]

set_option maxHeartbeats 1000000 in
theorem slices_Compare {ao bo : Option Addr} {ac bc : Nat} {xs ys : List Int} {w : World} (h : RowAt w ao 1 xs.length (ic xs)) (h' : RowAt w bo 1 ys.length (ic ys)) (hn : xs.length ≤ 9223372036854775807) (hn' : ys.length ≤ 9223372036854775807) :
    Calls Try.prog 76 #[.slice ao xs.length ac, .slice bo ys.length bc] w fun e w' => e = .returned (.int .i64 (cmpLI xs ys)) ∧ w = w' := by
  go_enter Try.func76, Try.ntmps76
  go_wp2
  go_loop [11] (fun i => ∃ k : Nat, k ≤ xs.length ∧ k ≤ ys.length ∧ i = .int .i64 k ∧ ∀ j, j < k → cmpI (nth xs j) (nth ys j) = 0) (fun i => xs.length - (intOf i).toNat)
  case atStart => exact ⟨0, Nat.zero_le _, Nat.zero_le _, rfl, fun j hj => by omega⟩
  case round =>
    obtain ⟨k, hk, hk', rfl, hb⟩ := hrel
    have HB := Lib.hid hb; clear hb
    by_cases hlt : k < xs.length
    · obtain ⟨b, off, rfl, hcell⟩ := ints_at' h (by omega)
      have d0 := hcell k hlt
      have hk0 : (0 : Int) ≤ (k : Int) := by omega
      have hk1 : (k : Int) < (xs.length : Int) := by omega
      clear hcell
      by_cases hlt2 : k < ys.length
      · obtain ⟨b', off', rfl, hcell'⟩ := ints_at' h' (by omega)
        have d1 := hcell' k hlt2
        have hk2 : ¬ (ys.length : Int) ≤ (k : Int) := by omega
        have hk3 : (k : Int) < (ys.length : Int) := by omega
        clear hcell'
        by_cases hc : cmpI (nth xs k) (nth ys k) = 0
        · have HC := Lib.hid hc
          have hb1 : (cmpI (nth xs k) (nth ys k) != 0) = false := by simp [hc]
          clear hc
          go_wp2_with (go_at_call 69; refine cmp_Compare.mono ?_; rintro e w1 ⟨rfl, rfl⟩)
          go_round
          case rel => exact ⟨k + 1, by omega, by omega, by go_num, fun j hj => by by_cases e : j = k; (subst e; exact HC.out); exact HB.out j (by omega)⟩
          case measure => simp [intOf] <;> omega
        · have HC := Lib.hid hc
          have hb1 : (cmpI (nth xs k) (nth ys k) != 0) = true := by simpa using hc
          clear hc
          go_wp2_with (go_at_call 69; refine cmp_Compare.mono ?_; rintro e w1 ⟨rfl, rfl⟩)
          go_ret
          exact ⟨ret_i (cmpLI_at hlt hlt2 HB.out HC.out).symm, rfl⟩
      · have hk2 : (ys.length : Int) ≤ (k : Int) := by omega
        go_wp2
        go_ret
        exact ⟨ret_i (cmpLI_long (by omega) (fun j hj => HB.out j (by omega))).symm, rfl⟩
    · have hkn : k = xs.length := by omega
      have hk1 : ¬ (k : Int) < (xs.length : Int) := by omega
      have hfin := cmpLI_end (xs := xs) (ys := ys) (by omega) (fun j hj => HB.out j (by omega))
      have HF := Lib.hid hfin; clear hfin hkn
      by_cases hl : xs.length < ys.length
      · have hl2 : (xs.length : Int) < (ys.length : Int) := by omega
        go_wp2
        go_ret
        exact ⟨ret_i (by rw [HF.out, if_pos hl]), rfl⟩
      · have hl2 : ¬ (xs.length : Int) < (ys.length : Int) := by omega
        go_wp2
        go_ret
        exact ⟨ret_i (by rw [HF.out, if_neg hl]), rfl⟩


theorem hasI_in {xs : List Int} {v : Int} : hasI xs xs.length v = true ↔ v ∈ xs := by
  constructor
  · intro h
    refine Classical.byContradiction fun hn => ?_
    rw [hasI_no (fun k hk e => hn (by rw [← e]; simp [nth, hk]))] at h
    cases h
  · intro h
    obtain ⟨k, hk, e⟩ := List.mem_iff_getElem.1 h
    exact hasI_yes hk (by simp [nth, hk, e])
/-- the first least of the first k by an order -/
def minC (q : Ctl → Ctl → Bool) (xs : List Ctl) : Nat → Ctl
  | 0 => nth xs 0
  | k + 1 => if q (nth xs k) (minC q xs k) then nth xs k else minC q xs k
/-- the order by a number, then by the code -/
def lexO (t : Ctl → Int) (a b : Ctl) : Int := orI (cmpI (t a) (t b)) (cmpI a.code b.code)
def lexQ (t : Ctl → Int) (a b : Ctl) : Bool := decide (t a < t b) || (decide (t a = t b) && decide (a.code < b.code))
theorem lexO_less (t : Ctl → Int) (a b : Ctl) : decide (lexO t a b < 0) = lexQ t a b := by
  unfold lexO lexQ orI
  rw [Bool.eq_iff_iff]
  simp only [Bool.or_eq_true, Bool.and_eq_true, decide_eq_true_eq]
  generalize t a = p
  generalize t b = q
  generalize a.code = x
  generalize b.code = y
  unfold cmpI
  by_cases h1 : p < q
  · rw [if_pos h1, if_pos (by decide)]
    simp [h1]
  · rw [if_neg h1]
    by_cases h2 : q < p
    · rw [if_pos h2, if_pos (by decide)]
      simp [h1]; omega
    · rw [if_neg h2, if_neg (by decide)]
      by_cases h3 : x < y
      · rw [if_pos h3]; simp [h3]; omega
      · rw [if_neg h3]
        by_cases h4 : y < x
        · rw [if_pos h4]; simp [h1]; omega
        · rw [if_neg h4]; simp [h1]; omega
theorem lexQ_iff {t : Ctl → Int} {a b : Ctl} : lexQ t a b = true ↔ (t a < t b ∨ (t a = t b ∧ a.code < b.code)) := by
  unfold lexQ
  simp only [Bool.or_eq_true, Bool.and_eq_true, decide_eq_true_eq]
theorem minC_spec (t : Ctl → Int) (xs : List Ctl) : ∀ k, (∃ j, j < k + 1 ∧ minC (lexQ t) xs (k + 1) = nth xs j) ∧ ∀ j, j < k + 1 → ¬ (t (nth xs j) < t (minC (lexQ t) xs (k + 1)) ∨ (t (nth xs j) = t (minC (lexQ t) xs (k + 1)) ∧ (nth xs j).code < (minC (lexQ t) xs (k + 1)).code)) := by
  intro k
  induction k with
  | zero =>
    have e : minC (lexQ t) xs (0 + 1) = nth xs 0 := by
      rw [minC]
      split <;> rfl
    rw [e]
    refine ⟨⟨0, by omega, rfl⟩, fun j hj => ?_⟩
    obtain rfl : j = 0 := by omega
    omega
  | succ k ih =>
    obtain ⟨⟨j0, hj0, e0⟩, hall⟩ := ih
    rw [minC]
    generalize minC (lexQ t) xs (k + 1) = M at *
    cases hq : lexQ t (nth xs (k + 1)) M
    · refine ⟨⟨j0, by omega, e0⟩, fun j hj => ?_⟩
      show ¬ (t (nth xs j) < t M ∨ (t (nth xs j) = t M ∧ (nth xs j).code < M.code))
      by_cases ej : j = k + 1
      · subst ej
        intro hn
        rw [lexQ_iff.2 hn] at hq; cases hq
      · exact hall j (by omega)
    · refine ⟨⟨k + 1, by omega, rfl⟩, fun j hj => ?_⟩
      show ¬ (t (nth xs j) < t (nth xs (k + 1)) ∨ (t (nth xs j) = t (nth xs (k + 1)) ∧ (nth xs j).code < (nth xs (k + 1)).code))
      have hq := lexQ_iff.1 hq
      by_cases ej : j = k + 1
      · subst ej; omega
      · have := hall j (by omega)
        omega

/-- the first least of the numbers that are allowed, place and number -/
def pkU (p : Nat → Bool) (t : Nat → Int) : Nat → Int × Int
  | 0 => (-1, -1)
  | k + 1 => if p k && (decide ((pkU p t k).2 < 0) || decide (t k < (pkU p t k).2)) then ((k : Int), t k) else pkU p t k
theorem pkU_cases (p : Nat → Bool) (t : Nat → Int) : ∀ n, (∀ k, k < n → p k = true → 0 ≤ t k) → (pkU p t n = (-1, -1) ∧ ∀ k, k < n → p k = false) ∨ ∃ k, k < n ∧ p k = true ∧ pkU p t n = ((k : Int), t k) ∧ ∀ j, j < n → p j = true → t k ≤ t j ∧ (t j = t k → k ≤ j) := by
  intro n
  induction n with
  | zero => intro _; exact .inl ⟨rfl, fun k hk => by omega⟩
  | succ n ih =>
    intro ht
    have ih := ih (fun k hk => ht k (by omega))
    rw [pkU]
    cases hp : p n
    · simp only [Bool.false_and, Bool.false_eq_true, if_false]
      rcases ih with ⟨e, h⟩ | ⟨k, hk, hpk, e, h⟩
      · refine .inl ⟨e, fun k hk => ?_⟩
        by_cases ek : k = n
        · rw [ek]; exact hp
        · exact h k (by omega)
      · refine .inr ⟨k, by omega, hpk, e, fun j hj hpj => ?_⟩
        by_cases ek : j = n
        · rw [ek, hp] at hpj; cases hpj
        · exact h j (by omega) hpj
    · have htn := ht n (by omega) hp
      rcases ih with ⟨e, h⟩ | ⟨k, hk, hpk, e, h⟩
      · refine .inr ⟨n, by omega, hp, by rw [e]; rfl, fun j hj hpj => ?_⟩
        by_cases ek : j = n
        · subst ek; exact ⟨Int.le_refl _, fun _ => Nat.le_refl _⟩
        · rw [h j (by omega)] at hpj; cases hpj
      · have htk := ht k (by omega) hpk
        rw [e]
        by_cases hlt : t n < t k
        · refine .inr ⟨n, by omega, hp, by simp [hlt], fun j hj hpj => ?_⟩
          by_cases ek : j = n
          · subst ek; exact ⟨Int.le_refl _, fun _ => Nat.le_refl _⟩
          · have := h j (by omega) hpj
            exact ⟨by omega, fun _ => by omega⟩
        · refine .inr ⟨k, by omega, hpk, by simp [hlt, show ¬ t k < 0 by omega], fun j hj hpj => ?_⟩
          by_cases ek : j = n
          · subst ek; exact ⟨by omega, fun _ => by omega⟩
          · exact h j (by omega) hpj
theorem nth_in {α : Type} [Inhabited α] {xs : List α} {k : Nat} (hk : k < xs.length) : nth xs k ∈ xs := by simp [nth, hk]
theorem in_nth {α : Type} [Inhabited α] {xs : List α} {x : α} (h : x ∈ xs) : ∃ k, k < xs.length ∧ nth xs k = x := by
  obtain ⟨k, hk, e⟩ := List.mem_iff_getElem.1 h
  exact ⟨k, hk, by simp [nth, hk, e]⟩
/-- both ways find the same one -/
theorem pk_min {xs : List Ctl} (hasc : ∀ i j, i < j → j < xs.length → (nth xs i).code < (nth xs j).code) (P : Ctl → Bool) (t : Ctl → Int) (ht : ∀ c, c ∈ xs → P c = true → 0 ≤ t c) :
    ((xs.filter P).length = 0 ∧ pkU (fun k => P (nth xs k)) (fun k => t (nth xs k)) xs.length = (-1, -1)) ∨
    (0 < (xs.filter P).length ∧ ∃ k, k < xs.length ∧ P (nth xs k) = true ∧ pkU (fun k => P (nth xs k)) (fun k => t (nth xs k)) xs.length = ((k : Int), t (nth xs k)) ∧ minC (lexQ t) (xs.filter P) (xs.filter P).length = nth xs k) := by
  rcases pkU_cases (fun k => P (nth xs k)) (fun k => t (nth xs k)) xs.length (fun k hk hp => ht _ (nth_in hk) hp) with ⟨e, h⟩ | ⟨k, hk, hp, e, h⟩
  · refine .inl ⟨?_, e⟩
    rw [List.length_eq_zero_iff, List.filter_eq_nil_iff]
    intro a ha hPa
    obtain ⟨k, hk, rfl⟩ := in_nth ha
    rw [h k hk] at hPa; cases hPa
  · have hm : nth xs k ∈ xs.filter P := List.mem_filter.2 ⟨nth_in hk, hp⟩
    have hpos : 0 < (xs.filter P).length := List.length_pos_of_mem hm
    refine .inr ⟨hpos, k, hk, hp, e, ?_⟩
    obtain ⟨n, hn⟩ : ∃ n, (xs.filter P).length = n + 1 := ⟨(xs.filter P).length - 1, by omega⟩
    obtain ⟨⟨j, hj, ej⟩, hall⟩ := minC_spec t (xs.filter P) n
    rw [hn]
    obtain ⟨q, hq, eq⟩ := in_nth hm
    have h1 := hall q (by omega)
    rw [eq] at h1
    have hjm := List.mem_filter.1 (nth_in (show j < (xs.filter P).length by omega))
    obtain ⟨i, hi, ei⟩ := in_nth hjm.1
    have hPi : P (nth xs i) = true := by rw [ei]; exact hjm.2
    have h2 := h i hi hPi
    rw [ej, ← ei] at h1 ⊢
    have hki : k ≤ i := h2.2 (by show t (nth xs i) = t (nth xs k); have h5 : t (nth xs k) ≤ t (nth xs i) := h2.1; omega)
    by_cases hlt : k < i
    · have := hasc k i hlt hi
      have h3 : t (nth xs k) ≤ t (nth xs i) := h2.1
      omega
    · rw [show k = i by omega]

theorem ctl_asc {m : MapD} {xs : List Ctl} (h : ctlsB m xs = true) : ∀ i j, i < j → j < xs.length → (nth xs i).code < (nth xs j).code := by
  simp only [ctlsB, Bool.and_eq_true, upto_true, decide_eq_true_eq] at h
  have hst : ∀ k, 0 < k → k < xs.length → (nth xs (k - 1)).code < (nth xs k).code := fun k h0 hk => by
    have h1 := h.2 k hk
    simp only [okCtl, Bool.and_eq_true, Bool.not_eq_true', Bool.and_eq_false_iff, decide_eq_false_iff_not] at h1
    have := h1.1.2
    omega
  intro i j
  induction j with
  | zero => intro hij; omega
  | succ j ih =>
    intro hij hj
    have h1 := hst (j + 1) (by omega) hj
    rw [show j + 1 - 1 = j by omega] at h1
    by_cases e : i = j
    · rw [e]; exact h1
    · have := ih (by omega) (by omega)
      omega
theorem ctl_code {m : MapD} {xs : List Ctl} (h : ctlsB m xs = true) {i j : Nat} (hi : i < xs.length) (hj : j < xs.length) (e : (nth xs i).code = (nth xs j).code) : i = j := by
  rcases Nat.lt_trichotomy i j with h1 | h1 | h1
  · have := ctl_asc h i j h1 hj; omega
  · exact h1
  · have := ctl_asc h j i h1 hi; omega

def cellN (c : Ctl) : Nat := c.cell.toNat
noncomputable def dist (m : MapD) (here : Nat) (c : Ctl) : Int := nth (timL m (cellN c)) here
/-- where a code leads -/
theorem cellC_code {m : MapD} {xs : List Ctl} (h : ctlsB m xs = true) {k : Nat} (hk : k < xs.length) : 0 ≤ ofI xs xs.length (nth xs k).code ∧ cellC xs (nth xs k).code = cellN (nth xs k) := by
  have e : ofI xs xs.length (nth xs k).code = (k : Int) := by
    unfold ofI
    refine idxU_at hk (by simp) fun j hj => ?_
    have := ctl_asc h j k hj hk
    simp; omega
  refine ⟨by omega, ?_⟩
  unfold cellC cellN
  rw [e, Int.toNat_natCast]
theorem cellN_lt {m : MapD} {xs : List Ctl} (h : ctlsB m xs = true) {k : Nat} (hk : k < xs.length) : (nth xs k).cell = (cellN (nth xs k) : Int) ∧ cellN (nth xs k) < m.cost.length := by
  obtain ⟨_, q, hq, hn, _⟩ := ctl_at h hk
  have : cellN (nth xs k) = q := by unfold cellN; omega
  rw [this]
  exact ⟨hq, hn⟩
theorem reach_iff {m : MapD} (hm : mapB m = true) {a b : Nat} (ha : a < m.cost.length) (hb : b < m.cost.length) : nth (timL m b) a < NT ↔ Conn m a b := ⟨fin_conn hm hb ha, conn_fin hm hb⟩
theorem dist_bd {m : MapD} {xs : List Ctl} (h : ctlsB m xs = true) {here : Nat} (hh : here < m.cost.length) {c : Ctl} (hc : c ∈ xs) : 0 ≤ dist m here c ∧ dist m here c ≤ NT := by
  obtain ⟨k, hk, rfl⟩ := in_nth hc
  have hm := (ctls_map h).1
  have hb := (cellN_lt h hk).2
  have := (timL_ok hm hb).bd here (by rw [(timL_ok hm hb).len]; exact hh)
  exact ⟨this.1, this.2.2⟩
theorem dist_here {m : MapD} {xs : List Ctl} (h : ctlsB m xs = true) {c0 here : Nat} (h0 : c0 < m.cost.length) (hh : here < m.cost.length) (hcn : Conn m c0 here) {c : Ctl} (hc : c ∈ xs) : dist m here c < NT ↔ dist m c0 c < NT := by
  obtain ⟨k, hk, rfl⟩ := in_nth hc
  have hm := (ctls_map h).1
  have hb := (cellN_lt h hk).2
  unfold dist
  rw [reach_iff hm hh hb, reach_iff hm h0 hb]
  exact ⟨fun q => hcn.trans q, fun q => hcn.symm.trans q⟩

/-- the controls that are still to be visited -/
noncomputable def frB (m : MapD) (here : Nat) (cs : List Int) (c : Ctl) : Bool := !hasI cs cs.length c.code && decide (dist m here c < NT)
noncomputable def leftL (m : MapD) (xs : List Ctl) (c0 : Nat) (cs : List Int) : List Ctl := xs.filter (frB m c0 cs)
noncomputable def pkI (m : MapD) (xs : List Ctl) (here : Nat) (cs : List Int) (n : Nat) : Int × Int := pkU (fun k => frB m here cs (nth xs k)) (fun k => dist m here (nth xs k)) n
/-- the greedy tour, from a state on -/
noncomputable def grL (m : MapD) (xs : List Ctl) (lim : Int) (c0 : Nat) : Nat → List Int → Nat → List Int
  | 0, cs, _ => cs
  | f + 1, cs, here =>
    if (pkI m xs here cs xs.length).1 < 0 then cs
    else if lim < wayT m c0 (tourW xs c0 (cs ++ [(nth xs (pkI m xs here cs xs.length).1.toNat).code])) then cs
    else grL m xs lim c0 f (cs ++ [(nth xs (pkI m xs here cs xs.length).1.toNat).code]) (cellN (nth xs (pkI m xs here cs xs.length).1.toNat))
structure GInv (m : MapD) (xs : List Ctl) (c0 : Nat) (cs : List Int) (here : Nat) : Prop where
  lt : here < m.cost.length
  conn : Conn m c0 here
  codes : ofB xs cs = true
  way : ∀ b, b ∈ cs.map (cellC xs) → Conn m c0 b
  once : onceU cs cs.length = true
theorem onceU_snoc {cs : List Int} {v : Int} (h : onceU cs cs.length = true) (hv : hasI cs cs.length v = false) : onceU (cs ++ [v]) (cs ++ [v]).length = true := by
  unfold onceU at h ⊢
  rw [upto_true] at h ⊢
  rw [List.length_append, List.length_singleton]
  have hpre : ∀ j, j < cs.length → nth (cs ++ [v]) j = nth cs j := fun j hj => by simp [nth, List.getD, List.getElem?_append_left hj]
  have hlast : nth (cs ++ [v]) cs.length = v := by simp [nth]
  intro k hk
  by_cases e : k = cs.length
  · subst e
    rw [hlast, Bool.not_eq_true']
    exact hasI_no fun j hj q => by
      rw [hpre j hj] at q
      rw [hasI_yes hj q] at hv; cases hv
  · have h1 := h k (by omega)
    rw [hpre k (by omega), Bool.not_eq_true'] at *
    exact hasI_no fun j hj q => by
      rw [hpre j (by omega)] at q
      rw [hasI_yes hj q] at h1; cases h1
theorem ofB_snoc {xs : List Ctl} {cs : List Int} {v : Int} (h : ofB xs cs = true) (hv : 0 ≤ ofI xs xs.length v) : ofB xs (cs ++ [v]) = true := by
  unfold ofB at h ⊢
  rw [upto_true] at h ⊢
  rw [List.length_append, List.length_singleton]
  intro k hk
  by_cases e : k = cs.length
  · subst e
    have hlast : nth (cs ++ [v]) cs.length = v := by simp [nth]
    rw [hlast]; simp; omega
  · have hpre : nth (cs ++ [v]) k = nth cs k := by simp [nth, List.getD, List.getElem?_append_left (show k < cs.length by omega)]
    rw [hpre]; exact h k (by omega)
theorem GInv.start {m : MapD} {xs : List Ctl} {c0 : Nat} (h0 : c0 < m.cost.length) : GInv m xs c0 [] c0 := ⟨h0, .refl _, rfl, fun b hb => by simp at hb, rfl⟩
theorem GInv.step {m : MapD} {xs : List Ctl} {c0 : Nat} {cs : List Int} {here : Nat} (h : GInv m xs c0 cs here) (hc : ctlsB m xs = true) {k : Nat} (hk : k < xs.length) (hf : frB m here cs (nth xs k) = true) : GInv m xs c0 (cs ++ [(nth xs k).code]) (cellN (nth xs k)) := by
  have hm := (ctls_map hc).1
  have hb := (cellN_lt hc hk).2
  simp only [frB, Bool.and_eq_true, Bool.not_eq_true', decide_eq_true_eq] at hf
  have hcn : Conn m c0 (cellN (nth xs k)) := h.conn.trans ((reach_iff hm h.lt hb).1 hf.2)
  obtain ⟨hof, hcc⟩ := cellC_code hc hk
  refine ⟨hb, hcn, ofB_snoc h.codes hof, fun b hb => ?_, onceU_snoc h.once hf.1⟩
  rw [List.map_append, List.mem_append] at hb
  rcases hb with hb | hb
  · exact h.way b hb
  · rw [List.map_singleton, List.mem_singleton, hcc] at hb
    rw [hb]; exact hcn
theorem conn_way {m : MapD} (hm : mapB m = true) {c0 : Nat} : ∀ (l : List Nat) (a : Nat), Conn m c0 a → (∀ b, b ∈ l → b < m.cost.length ∧ Conn m c0 b) → wayF m a l = true := by
  intro l
  induction l with
  | nil => intro a _ _; rfl
  | cons b l ih =>
    intro a ha hl
    have h1 := hl b (List.mem_cons_self ..)
    rw [wayF, ih b h1.2 (fun c hc => hl c (List.mem_cons_of_mem _ hc)), Bool.and_true]
    simpa using conn_fin hm h1.1 (ha.symm.trans h1.2)
theorem GInv.fin {m : MapD} {xs : List Ctl} {c0 : Nat} {cs : List Int} {here : Nat} (h : GInv m xs c0 cs here) (hc : ctlsB m xs = true) (h0 : c0 < m.cost.length) : wayF m c0 (tourW xs c0 cs) = true := by
  refine conn_way (ctls_map hc).1 _ _ (.refl _) fun b hb => ?_
  unfold tourW at hb
  rw [List.mem_append, List.mem_singleton] at hb
  rcases hb with hb | rfl
  · exact ⟨tour_lt hc h.codes hb, h.way b hb⟩
  · exact ⟨h0, .refl _⟩
/-- the two ways to choose the next control -/
theorem GInv.pick {m : MapD} {xs : List Ctl} {c0 : Nat} {cs : List Int} {here : Nat} (h : GInv m xs c0 cs here) (hc : ctlsB m xs = true) (h0 : c0 < m.cost.length) :
    ((leftL m xs c0 cs).length = 0 ∧ pkI m xs here cs xs.length = (-1, -1)) ∨
    (0 < (leftL m xs c0 cs).length ∧ ∃ k, k < xs.length ∧ frB m here cs (nth xs k) = true ∧ pkI m xs here cs xs.length = ((k : Int), dist m here (nth xs k)) ∧ minC (lexQ (dist m here)) (leftL m xs c0 cs) (leftL m xs c0 cs).length = nth xs k) := by
  have e : leftL m xs c0 cs = xs.filter (frB m here cs) := by
    unfold leftL
    refine List.filter_congr fun c hcx => ?_
    unfold frB
    rw [decide_eq_decide.2 (dist_here hc h0 h.lt h.conn hcx)]
  rw [e]
  exact pk_min (ctl_asc hc) (frB m here cs) (dist m here) (fun c hcx _ => (dist_bd hc h.lt hcx).1)
theorem left_start {m : MapD} {xs : List Ctl} (h : ctlsB m xs = true) {c0 : Nat} (h0 : c0 < m.cost.length) : keptL (fun c => decide (dist m c0 c = NT)) xs = leftL m xs c0 [] := by
  unfold keptL leftL
  refine List.filter_congr fun c hc => ?_
  have := (dist_bd h h0 hc).2
  have e : hasI [] ([] : List Int).length c.code = false := rfl
  rw [frB, e, Bool.not_false, Bool.true_and, Bool.eq_iff_iff]
  simp only [Bool.not_eq_true', decide_eq_false_iff_not, decide_eq_true_eq]
  omega
theorem left_step {m : MapD} {xs : List Ctl} (h : ctlsB m xs = true) {c0 k : Nat} {cs : List Int} (hk : k < xs.length) : keptL (fun c => decide (c.code = (nth xs k).code) && decide (c.cell = (nth xs k).cell)) (leftL m xs c0 cs) = leftL m xs c0 (cs ++ [(nth xs k).code]) := by
  unfold keptL leftL
  rw [List.filter_filter]
  refine List.filter_congr fun c hc => ?_
  obtain ⟨i, hi, rfl⟩ := in_nth hc
  have e1 : (decide ((nth xs i).code = (nth xs k).code) && decide ((nth xs i).cell = (nth xs k).cell)) = decide ((nth xs i).code = (nth xs k).code) := by
    by_cases e : (nth xs i).code = (nth xs k).code
    · rw [ctl_code h hi hk e]; simp
    · simp [e]
  show (!(decide ((nth xs i).code = (nth xs k).code) && decide ((nth xs i).cell = (nth xs k).cell)) && frB m c0 cs (nth xs i)) = _
  rw [e1]
  unfold frB
  have e2 : hasI (cs ++ [(nth xs k).code]) (cs ++ [(nth xs k).code]).length (nth xs i).code = (decide ((nth xs i).code = (nth xs k).code) || hasI cs cs.length (nth xs i).code) := by
    rw [Bool.eq_iff_iff, hasI_in, Bool.or_eq_true, hasI_in, decide_eq_true_eq, List.mem_append, List.mem_singleton]
    exact ⟨fun q => q.symm, fun q => q.symm⟩
  rw [e2]
  generalize decide ((nth xs i).code = (nth xs k).code) = b1
  generalize hasI cs cs.length (nth xs i).code = b2
  generalize decide (dist m c0 (nth xs i) < NT) = b3
  cases b1 <;> cases b2 <;> cases b3 <;> rfl
theorem left_len {m : MapD} {xs : List Ctl} {c0 : Nat} {cs : List Int} : (leftL m xs c0 cs).length ≤ xs.length := List.length_filter_le _ _
theorem left_mem {m : MapD} {xs : List Ctl} {c0 : Nat} {cs : List Int} {c : Ctl} (h : c ∈ leftL m xs c0 cs) : ∃ k, k < xs.length ∧ nth xs k = c := in_nth (List.mem_filter.1 h).1


theorem ct_cells : ∀ (x : Ctl) (j : Nat), j < 2 → (x.c j).oneCell' = true := by
  intro x j hj
  match j, hj with
  | 0, _ => rfl
  | 1, _ => rfl

set_option maxRecDepth 100000 in
theorem clone_Ctl {ao : Option Addr} {cap : Nat} {xs : List Ctl} {w : World} (h : RowAt w ao 2 xs.length (fun k => (nth xs k).c)) (hs : xs.length ≤ 1048577) (hnil : ao = none → cap = 0) :
    Calls Try.prog 107 #[.slice ao xs.length cap] w fun e w' => ∃ v, e = .returned v ∧ Ext w w' ∧ Owns w' w.heap.size 75 2 Ctl.c v xs := by
  obtain ⟨i0, hi, hz0, hz1, hz2⟩ := info_parts infoCtl
  have hq := fun (w : World) => Lib.run_eql_slice_nil (P := Try.prog) w 32 75 ao xs.length cap 0 0 Try.underlying32
  cases ao with
  | none =>
    obtain rfl := hnil rfl
    have hx : xs = [] := by
      rcases Nat.eq_zero_or_pos xs.length with e | e
      · exact List.eq_nil_of_length_eq_zero e
      · obtain ⟨_, _, h, _⟩ := h e; cases h
    subst hx
    have hq0 := fun (w : World) => Lib.run_eql_slice_nil (P := Try.prog) w 32 75 none 0 0 0 0 Try.underlying32
    go_enter Try.func107, Try.ntmps107
    go_wp2
    go_ret
    exact ⟨_, rfl, Ext.refl _, Owns.nil⟩
  | some a =>
    have HST := Lib.hid (Owns.start' (e := 75) (s := 2) (cc := Ctl.c) (Nat.le_refl w.heap.size))
    have HR := Lib.hid (h.ext ((Ext.refl w).alloc (.cells #[] 75)))
    have HXA := Lib.hid ((Ext.refl w).alloc (.cells #[] 75))
    clear h hnil
    go_enter Try.func107, Try.ntmps107
    go_wp2_with (at_builtin; refine wpList_append_rows rfl _ _ 32 rfl w 75 i0 _ 2 16 Try.underlying32 hi hz0 hz1 hz2 rfl (by decide) Ctl.c ct_cells _ [] xs rfl HST.out (some a) xs.length cap rfl rfl (fun h => by cases h) HR.out (by simp; omega) (by simp; omega) HXA.out ?_; intro v1 w3 ho1 hx3; rw [List.nil_append] at ho1; have HO := Lib.hid ho1; have HX := Lib.hid hx3; clear ho1 hx3)
    go_wp2
    go_ret
    exact ⟨_, rfl, HX.out, HO.out⟩

set_option maxHeartbeats 400000 in
theorem indexFunc_CtlK {ao : Option Addr} {cap : Nat} {xs : List Ctl} {F : FuncId} {caps : Array Value} {p : Ctl → Bool} {w : World} (h : RowAt w ao 2 xs.length (fun k => (nth xs k).c)) (hn : xs.length ≤ 9223372036854775807) (hE : EntersF Try.prog F)
    (hp : ∀ k, k < xs.length → ∀ (w' : World), Ext w w' → Calls Try.prog F (#[(nth xs k).val] ++ caps) w' fun e w'' => e = .returned (.bool (p (nth xs k))) ∧ Ext w' w'') :
    Calls Try.prog 111 #[.slice ao xs.length cap, .func (.func F) #[] caps] w fun e w' => e = .returned (.int .i64 (idxU (fun k => p (nth xs k)) xs.length)) ∧ Ext w w' := by
  have HE : Hid (EntersF Try.prog F) := hE
  clear hE
  have HP := Lib.hid hp; clear hp
  go_enter Try.func111, Try.ntmps111
  go_wp2
  go_loopw [8] (fun i wr => ∃ k : Nat, k ≤ xs.length ∧ i = .int .i64 k ∧ Ext w wr ∧ ∀ j, j < k → p (nth xs j) = false) (fun i _ => xs.length - (intOf i).toNat)
  case atStart => exact ⟨0, Nat.zero_le _, rfl, Ext.refl _, fun j hj => by omega⟩
  case round =>
    obtain ⟨k, hk, rfl, hx, hb⟩ := hrel
    have HB := Lib.hid hb; clear hb
    by_cases hlt : k < xs.length
    · obtain ⟨b, off, rfl, hcell⟩ := h (by omega)
      have d0 := hx.cells (hcell k hlt 0 (by decide))
      have d1 := hx.cells (hcell k hlt 1 (by decide))
      simp only [Ctl.c0, Ctl.c1, Nat.add_zero] at d0 d1
      have hcall := fun x hx => HP.out k hlt x hx
      unfold Ctl.val at hcall
      clear hcell h
      have hE : ∀ (args : Array Value) (w : World), (callFunc F args).run Try.prog w = .ok (.enter F args) w := HE
      cases hpk : p (nth xs k)
      all_goals
        rw [hpk] at hcall
        go_wp2_with fail
        refine (hcall _ hx).mono ?_; rintro e w1 ⟨rfl, hx1⟩
        go_wp2
      · go_roundw
        case rel => exact ⟨k + 1, by omega, by go_num, (by repeat (first | (with_reducible exact Ext.refl _) | (with_reducible assumption) | with_reducible refine Ext.drew ?_ | with_reducible refine Ext.alloc ?_ _ | with_reducible refine Ext.setCell ?_ (by first | (simp; done) | (simp; omega) | omega) _ | with_reducible refine Ext.trans ?_ (by with_reducible assumption))), fun j hj => by by_cases e : j = k; (subst e; exact hpk); exact HB.out j (by omega)⟩
        case measure => simp [intOf]; omega
      · go_ret
        exact ⟨ret_i (by rw [idxU_at hlt hpk HB.out]), (by repeat (first | (with_reducible exact Ext.refl _) | (with_reducible assumption) | with_reducible refine Ext.drew ?_ | with_reducible refine Ext.alloc ?_ _ | with_reducible refine Ext.setCell ?_ (by first | (simp; done) | (simp; omega) | omega) _ | with_reducible refine Ext.trans ?_ (by with_reducible assumption)))⟩
    · have hkn : k = xs.length := by omega
      subst hkn
      go_wp2
      go_ret
      exact ⟨ret_i (by rw [idxU_none HB.out]), (by repeat (first | (with_reducible exact Ext.refl _) | (with_reducible assumption) | with_reducible refine Ext.drew ?_ | with_reducible refine Ext.alloc ?_ _ | with_reducible refine Ext.setCell ?_ (by first | (simp; done) | (simp; omega) | omega) _ | with_reducible refine Ext.trans ?_ (by with_reducible assumption)))⟩

set_option maxRecDepth 100000 in
set_option maxHeartbeats 2000000 in
theorem deleteFunc_Ctl {B0 g cap : Nat} {xs : List Ctl} {F : FuncId} {caps : Array Value} {p : Ctl → Bool} {w : World} (h : FreshAt B0 w (some ⟨g, 0, none⟩) 2 xs.length (fun k => (nth xs k).c)) (hn : xs.length ≤ 1048577) (hcap : xs.length ≤ cap) (hcm : cap ≤ 9223372036854775807) (hE : EntersF Try.prog F)
    (hp : ∀ k, k < xs.length → ∀ (w' : World), w.grownBy w' (some g) → Calls Try.prog F (#[(nth xs k).val] ++ caps) w' fun e w'' => e = .returned (.bool (p (nth xs k))) ∧ Ext w' w'') :
    Calls Try.prog 72 #[.slice (some ⟨g, 0, none⟩) xs.length cap, .func (.func F) #[] caps] w fun e w' => e = .returned (.slice (some ⟨g, 0, none⟩) (keptL p xs).length cap) ∧ w.grownBy w' (some g) ∧ FreshAt B0 w' (some ⟨g, 0, none⟩) 2 (keptL p xs).length (fun k => (nth (keptL p xs) k).c) := by
  have hidx := indexFunc_CtlK (cap := cap) h.row (by omega) hE (fun k hk w' hx => hp k hk w' (grown_of_ext hx))
  have hbase := (h.base _ rfl).1
  have hg0 : g < w.heap.size := (h.base _ rfl).2
  have HE : Hid (EntersF Try.prog F) := hE
  clear hE
  have HP := Lib.hid hp; clear hp
  have hcells : ∀ q, q < xs.length * 2 → w.cell? ⟨g, q, none⟩ = some (fc 2 Ctl.c xs q) := fun q hq => by
    obtain ⟨b, off, e, H⟩ := h.row (by omega)
    injection e with e; injection e with e1 e2; subst e1 e2
    have := H (q / 2) (by omega) (q % 2) (by omega)
    rwa [show 0 + q / 2 * 2 + q % 2 = q by omega] at this
  rcases idxU_cases (fun k => p (nth xs k)) xs.length with ⟨e0, hall⟩ | ⟨k0, hk0, e0, hpk, hbef⟩
  · rw [e0] at hidx
    have hK : keptL p xs = xs := kept_all hall
    rw [hK]
    clear hall hK e0 hcells
    go_enter Try.func72, Try.ntmps72
    go_wp2_with fail
    refine hidx.mono ?_; rintro e w1 ⟨rfl, hx1⟩
    go_wp2
    go_ret
    exact ⟨rfl, grown_of_ext hx1, h.ext hx1⟩
  · rw [e0] at hidx
    have hc0 : cntU p xs k0 = k0 := cntU_before hbef
    have hc1 : cntU p xs (k0 + 1) = k0 := by rw [cntU_yes hpk, hc0]
    have hlo0 : ∀ q, q < k0 * 2 → fc 2 Ctl.c xs q = fc 2 Ctl.c (keptL p xs) q := fun q hq => by
      have h1 := hbef (q / 2) (by omega)
      have h2 := kept_nth (p := p) (xs := xs) (k := q / 2) (by omega) h1
      rw [cntU_before (fun j hj => hbef j (by omega))] at h2
      unfold fc
      rw [h2]
    have hfin := cntU_all p xs
    have hd0 : DW w w g (xs.length * 2) (k0 * 2) ((k0 + 1) * 2) (fc 2 Ctl.c (keptL p xs)) (fc 2 Ctl.c xs) :=
      ⟨grown_refl _ _, hg0, fun q hq => by rw [hcells q (by omega), hlo0 q hq], fun q _ h2 => hcells q h2, fun q hq => ⟨_, hcells q hq⟩, fun q => h.free g 0 rfl q⟩
    clear hcells hbef e0 hc0 hlo0
    have HF := Lib.hid hfin; clear hfin
    have HC1 := Lib.hid hc1; clear hc1
    have hz : ∀ w, (zeroValue 75).run Try.prog w = .ok (.agg #[.int .i64 0, .int .i64 0]) w := fun _ => by kernel_rfl
    go_enter Try.func72, Try.ntmps72
    go_wp2_with fail
    refine hidx.mono ?_; rintro e w1 ⟨rfl, hx1⟩
    have hneg : ((k0 : Int) == -1) = false := by simp
    go_wp2
    go_loopw [5, 6] (fun i j wr => ∃ (ki kj : Nat), kj ≤ xs.length ∧ ki + 1 ≤ kj ∧ i = .int .i64 ki ∧ j = .int .i64 kj ∧ cntU p xs kj = ki ∧ DW w wr g (xs.length * 2) (ki * 2) (kj * 2) (fc 2 Ctl.c (keptL p xs)) (fc 2 Ctl.c xs)) (fun _ j _ => xs.length - (intOf j).toNat)
    case atStart => exact ⟨k0, k0 + 1, by omega, by omega, rfl, by go_num, HC1.out, hd0.kept hx1⟩
    case round =>
      clear hd0 hneg hidx hx1
      obtain ⟨ki, kj, hkj, hij, rfl, rfl, hcnt, hD⟩ := hrel
      have HCN := Lib.hid hcnt; clear hcnt
      by_cases hlt : kj < xs.length
      · have d0 := hD.hi (kj * 2) (by omega) (by omega)
        have d1 := hD.hi (kj * 2 + 1) (by omega) (by omega)
        simp only [fc, show kj * 2 / 2 = kj by omega, show kj * 2 % 2 = 0 by omega, show (kj * 2 + 1) / 2 = kj by omega, show (kj * 2 + 1) % 2 = 1 by omega, Ctl.c0, Ctl.c1] at d0 d1
        obtain ⟨u0, e0⟩ := hD.all (ki * 2) (by omega)
        obtain ⟨u1, e1⟩ := hD.all (ki * 2 + 1) (by omega)
        have f0 := hD.free (ki * 2)
        have f1 := hD.free (ki * 2 + 1)
        have hsz := hD.size
        have hcall := fun x hx => HP.out kj hlt x hx
        have hE : ∀ (args : Array Value) (w : World), (callFunc F args).run Try.prog w = .ok (.enter F args) w := HE
        have hx2 : Ext wr (wr.alloc (Obj.cells #[.int .i64 (nth xs kj).code, .int .i64 (nth xs kj).cell] 75)) := (Ext.refl _).alloc _
        have hcw := hcall _ (grown_trans hD.grown (grown_of_ext hx2))
        unfold Ctl.val at hcw
        cases hpk' : p (nth xs kj)
        · rw [hpk'] at hcw
          clear hcall
          go_wp2_with fail
          refine hcw.mono ?_; rintro e w2 ⟨rfl, hx3⟩
          have hD2 := hD.kept (hx2.trans hx3)
          have b0 : w2.cell? ⟨wr.heap.size, 0, none⟩ = some (.int .i64 (nth xs kj).code) := hx3.cells (by go_simp)
          have b1 : w2.cell? ⟨wr.heap.size, 1, none⟩ = some (.int .i64 (nth xs kj).cell) := hx3.cells (by go_simp)
          have hxx := hx2.trans hx3
          have e0' := hxx.cells e0
          have e1' := hxx.cells e1
          have f0' := hD2.free (ki * 2)
          have f1' := hD2.free (ki * 2 + 1)
          have hnth := kept_nth (p := p) hlt hpk'
          rw [HCN.out] at hnth
          have HNT := Lib.hid hnth; clear hnth
          clear hcw hx2 hx3 hxx d0 d1 e0 e1 f0 f1 hD
          go_wp2
          have R1 := hD2.put (by omega) (by omega) (u := .int .i64 (nth xs kj).code) (by simp only [fc, show ki * 2 / 2 = ki by omega, show ki * 2 % 2 = 0 by omega, HNT.out]; rfl)
          have R2 := R1.put (by omega) (by omega) (u := .int .i64 (nth xs kj).cell) (by simp only [fc, show (ki * 2 + 1) / 2 = ki by omega, show (ki * 2 + 1) % 2 = 1 by omega, HNT.out]; rfl)
          have R := R2.skip (J' := (kj + 1) * 2) (by omega)
          rw [show ki * 2 + 1 + 1 = (ki + 1) * 2 by omega] at R
          go_roundw
          case rel => exact ⟨ki + 1, kj + 1, by omega, by omega, by go_num, by go_num, by rw [cntU_no hpk', HCN.out], R⟩
          case measure => simp [intOf]; omega
        · rw [hpk'] at hcw
          clear hcall
          go_wp2_with fail
          refine hcw.mono ?_; rintro e w2 ⟨rfl, hx3⟩
          have hD2 := (hD.kept (hx2.trans hx3)).skip (J' := (kj + 1) * 2) (by omega)
          clear hcw hx2 hx3 d0 d1 e0 e1 f0 f1 hD
          go_wp2
          go_roundw
          case rel => exact ⟨ki, kj + 1, by omega, by omega, rfl, by go_num, by rw [cntU_yes hpk', HCN.out], hD2⟩
          case measure => simp [intOf]; omega
      · obtain rfl : kj = xs.length := by omega
        have hm : (keptL p xs).length = ki := by rw [← HF.out, HCN.out]
        have HM := Lib.hid hm; clear hm
        have hcl : ∀ ty, (Builtin.clear_ #[32] ty #[.slice (some ⟨g, ki * 2, none⟩) (xs.length - ki) (cap - ki)]).run Try.prog wr = .ok (.tuple #[]) (wr.setCells g (ki * 2) (Builtin.zeroCells (#[.int .i64 0, .int .i64 0] : Array Value) (xs.length - ki)).toList) :=
          fun ty => run_clear_rows wr 32 ty 75 Try.underlying32 _ hz (by decide) (by decide) g (ki * 2) _ _ (by omega) (fun j hj => by
            obtain ⟨u, hu⟩ := hD.all (ki * 2 + j) (by simp only [Value.cells] at hj; simp at hj; omega)
            rw [hu]; rfl) hD.free
        have hend := hD.clear (Builtin.zeroCells (#[.int .i64 0, .int .i64 0] : Array Value) (xs.length - ki)).toList
        have HEND := Lib.hid hend; clear hend
        clear hD
        go_wp2
        go_ret
        obtain ⟨q1, q2, q3, q4⟩ := HEND.out
        rw [HM.out]
        refine ⟨rfl, q1, ⟨fun hpos => ⟨g, 0, rfl, fun k hk j hj => ?_⟩, fun a e => by injection e with e; subst e; exact ⟨hbase, q2⟩, fun b off e j => by injection e with e; injection e with e1 e2; subst e1; exact q4 j⟩⟩
        have := q3 (k * 2 + j) (by omega)
        rw [show 0 + k * 2 + j = k * 2 + j by omega, this]
        simp only [fc]
        rw [show (k * 2 + j) / 2 = k by omega, show (k * 2 + j) % 2 = j by omega]

theorem deleteFunc_nil_Ctl {F : FuncId} {caps : Array Value} {w : World} :
    Calls Try.prog 72 #[.slice none 0 0, .func (.func F) #[] caps] w fun e w' => e = .returned (.slice none 0 0) ∧ Ext w w' := by
  have hidx : Calls Try.prog 111 #[.slice none 0 0, .func (.func F) #[] caps] w fun e w' => e = .returned (.int .i64 (-1)) ∧ Ext w w' := by
    go_enter Try.func111, Try.ntmps111
    go_wp2
    go_loopw [8] (fun i wr => i = .int .i64 0 ∧ Ext w wr) (fun _ _ => 0)
    case atStart => exact ⟨rfl, Ext.refl _⟩
    case round =>
      obtain ⟨rfl, hx⟩ := hrel
      go_wp2
      go_ret
      exact ⟨rfl, (by repeat (first | (with_reducible exact Ext.refl _) | (with_reducible assumption) | with_reducible refine Ext.drew ?_ | with_reducible refine Ext.alloc ?_ _ | with_reducible refine Ext.setCell ?_ (by first | (simp; done) | (simp; omega) | omega) _ | with_reducible refine Ext.trans ?_ (by with_reducible assumption)))⟩
  go_enter Try.func72, Try.ntmps72
  go_wp2_with fail
  refine hidx.mono ?_; rintro e w1 ⟨rfl, hx1⟩
  go_wp2
  go_ret
  exact ⟨rfl, (by repeat (first | (with_reducible exact Ext.refl _) | (with_reducible assumption) | with_reducible refine Ext.drew ?_ | with_reducible refine Ext.alloc ?_ _ | with_reducible refine Ext.setCell ?_ (by first | (simp; done) | (simp; omega) | omega) _ | with_reducible refine Ext.trans ?_ (by with_reducible assumption)))⟩


/-- a cell block that holds a control -/
structure BoxC (w : World) (B : Nat) (x : Ctl) : Prop where
  c0 : w.cell? ⟨B, 0, none⟩ = some (.int .i64 x.code)
  c1 : w.cell? ⟨B, 1, none⟩ = some (.int .i64 x.cell)
  fr : ∀ j, w.frozen? ⟨B, j, none⟩ = false
  lt : B < w.heap.size
theorem BoxC.ext {w w' : World} {B : Nat} {x : Ctl} (h : BoxC w B x) (hx : Ext w w') : BoxC w' B x where
  c0 := hx.cells h.c0
  c1 := hx.cells h.c1
  fr := fun j => (hx.frozenr B j h.lt).trans (h.fr j)
  lt := Nat.lt_of_lt_of_le h.lt hx.size
theorem BoxC.put {w : World} {B : Nat} {m : Ctl} (h : BoxC w B m) (x : Ctl) : BoxC ((w.setCell ⟨B, 0, none⟩ (.int .i64 x.code)).setCell ⟨B, 1, none⟩ (.int .i64 x.cell)) B x where
  c0 := (World.cell?_setCell_other _ _ _ _ (fun e => by injection e with _ e; omega)).trans (World.cell?_setCell_same _ _ _ h.c0)
  c1 := World.cell?_setCell_same _ _ _ ((World.cell?_setCell_other _ _ _ _ (fun e => by injection e with _ e; omega)).trans h.c1)
  fr := fun j => by simp only [World.frozen?_setCell]; exact h.fr j
  lt := by simpa [World.setCell] using h.lt
theorem Ext.put2 {a w : World} (h : Ext a w) {B : Nat} (hB : a.heap.size ≤ B) (u0 u1 : Value) : Ext a ((w.setCell ⟨B, 0, none⟩ u0).setCell ⟨B, 1, none⟩ u1) :=
  Ext.setCell (p := ⟨B, 1, none⟩) (Ext.setCell (p := ⟨B, 0, none⟩) h hB u0) hB u1

set_option maxRecDepth 100000 in
set_option maxHeartbeats 2000000 in
theorem minFunc_Ctl {ao : Option Addr} {cap : Nat} {xs : List Ctl} {F : FuncId} {caps : Array Value} {o : Ctl → Ctl → Int} {q : Ctl → Ctl → Bool} {w : World} (h : RowAt w ao 2 xs.length (fun k => (nth xs k).c)) (hn : xs.length ≤ 9223372036854775807) (h1 : 0 < xs.length) (hE : EntersF Try.prog F)
    (hl : ∀ a b, decide (o a b < 0) = q a b)
    (hp : ∀ (x y : Ctl) (w' : World), (x ∈ xs ∧ y ∈ xs) → Ext w w' → Calls Try.prog F (#[x.val, y.val] ++ caps) w' fun e w'' => e = .returned (.int .i64 (o x y)) ∧ Ext w' w'') :
    Calls Try.prog 66 #[.slice ao xs.length cap, .func (.func F) #[] caps] w fun e w' => e = .returned (minC q xs xs.length).val ∧ Ext w w' := by
  have HE : Hid (EntersF Try.prog F) := hE
  clear hE
  have HP := Lib.hid hp; clear hp
  have HL := Lib.hid hl; clear hl
  obtain ⟨b, off, rfl, hcell⟩ := h h1
  go_enter Try.func66, Try.ntmps66
  have q0 := hcell 0 h1 0 (by decide)
  have q1 := hcell 0 h1 1 (by decide)
  simp only [Ctl.c0, Ctl.c1, Nat.zero_mul, Nat.add_zero] at q0 q1
  have hb := World.block_lt_of_cell? _ _ q0
  go_wp2
  go_loopw [6] (fun i wr => ∃ k : Nat, 1 ≤ k ∧ k ≤ xs.length ∧ i = .int .i64 k ∧ Ext (w.alloc (Obj.cells #[Value.int .i64 0, Value.int .i64 0] 75)) wr ∧ BoxC wr (w.heap.size + 1) (minC q xs k) ∧ minC q xs k ∈ xs) (fun i _ => xs.length - (intOf i).toNat)
  case atStart =>
    have e : minC q xs 1 = nth xs 0 := by
      rw [minC]
      split <;> rfl
    refine ⟨1, Nat.le_refl _, h1, rfl, (by repeat (first | (with_reducible exact Ext.refl _) | (with_reducible assumption) | with_reducible refine Ext.drew ?_ | with_reducible refine Ext.alloc ?_ _ | with_reducible refine Ext.setCell ?_ (by first | (simp; done) | (simp; omega) | omega) _ | with_reducible refine Ext.trans ?_ (by with_reducible assumption))), ?_, ?_⟩
    · rw [e]
      exact ⟨by go_simp, by go_simp, fun j => by go_simp, by simp⟩
    · rw [e]; simp [nth, h1]
  case round =>
    obtain ⟨k, hk1, hk, rfl, hx, hbox, hmem⟩ := hrel
    have hw0 : Ext w (w.alloc (Obj.cells #[Value.int .i64 0, Value.int .i64 0] 75)) := (Ext.refl _).alloc _
    have hin : ∀ j, j < xs.length → nth xs j ∈ xs := fun j hj => by simp [nth, hj]
    obtain ⟨m, hM⟩ : ∃ m, m = minC q xs k := ⟨_, rfl⟩
    rw [← hM] at hbox hmem
    have HM := Lib.hid hM; clear hM
    have HIN := Lib.hid hin; have HMEM := Lib.hid hmem
    clear hin hmem
    have hbl : b < wr.heap.size := Nat.lt_of_lt_of_le hb (hw0.trans hx).size
    have p0 := hbox.c0
    have p1 := hbox.c1
    have pf := hbox.fr
    have plt := hbox.lt
    have plt0 : w.heap.size < wr.heap.size := by omega
    have z0 : wr.cell? ⟨w.heap.size, 0, none⟩ = some (.int .i64 0) := hx.cells (by go_simp)
    have z1 : wr.cell? ⟨w.heap.size, 1, none⟩ = some (.int .i64 0) := hx.cells (by go_simp)
    have zf : ∀ j, wr.frozen? ⟨w.heap.size, j, none⟩ = false := fun j => (hx.frozenr _ _ (by simp)).trans (by go_simp)
    by_cases hlt : k < xs.length
    · have d0 := (hw0.trans hx).cells (hcell k hlt 0 (by decide))
      have d1 := (hw0.trans hx).cells (hcell k hlt 1 (by decide))
      simp only [Ctl.c0, Ctl.c1, Nat.add_zero] at d0 d1
      clear hcell h q0 q1
      have hE : ∀ (args : Array Value) (w : World), (callFunc F args).run Try.prog w = .ok (.enter F args) w := HE
      have hlp := HL.out (nth xs k) m
      have hnx : minC q xs (k + 1) = if q (nth xs k) m then nth xs k else m := by rw [minC, ← HM.out]
      have HN := Lib.hid hnx; clear hnx
      have hcall := HP.out (nth xs k) m
      have HCL := Lib.hid (fun y hy => hcall y ⟨HIN.out k hlt, HMEM.out⟩ ((hw0.trans hx).trans hy))
      unfold Ctl.val at HCL
      have hki0 : (0 : Int) ≤ (k : Int) := by omega
      have hki1 : (k : Int) < (xs.length : Int) := by omega
      clear hcall
      go_wp2
      refine wp_region_ext (by kernel_rfl) (by kernel_rfl) ?_
      have e0 : ∀ x : Grow wr, x.w.cell? ⟨b, off + k * 2, none⟩ = some (.int .i64 (nth xs k).code) := Grow.cells d0
      have e1 : ∀ x : Grow wr, x.w.cell? ⟨b, off + k * 2 + 1, none⟩ = some (.int .i64 (nth xs k).cell) := Grow.cells d1
      have i0 : ∀ x : Grow wr, x.w.cell? ⟨w.heap.size + 1, 0, none⟩ = some (.int .i64 m.code) := Grow.cells p0
      have i1 : ∀ x : Grow wr, x.w.cell? ⟨w.heap.size + 1, 1, none⟩ = some (.int .i64 m.cell) := Grow.cells p1
      repeat (go_big_quiet_step (exact Calls.ext_of (HCL.out _ (Grow.h _))))
      refine wpQuiet_nil ?_
      rintro _ ⟨⟨w1, hx1⟩, rfl⟩
      clear e0 e1 i0 i1
      rename_i w1
      have hxw : Ext w w1 := hw0.trans (hx.trans hx1)
      have hbox1 := hbox.ext hx1
      have d0 := hx1.cells d0
      have d1 := hx1.cells d1
      have p0 := hbox1.c0
      have p1 := hbox1.c1
      have pf := hbox1.fr
      have plt := hbox1.lt
      have hbl : b < w1.heap.size := Nat.lt_of_lt_of_le hbl hx1.size
      have HB1 := Lib.hid hbox1
      have HX := Lib.hid (hx.trans hx1)
      clear hx hx1 hbox hbox1 z0 z1 zf HCL
      cases hB : q (nth xs k) m
      · have hlt' : decide (o (nth xs k) m < 0) = false := hlp.trans hB
        have hn2 : minC q xs (k + 1) = m := by rw [HN.out, hB]; rfl
        have HN2 := Lib.hid hn2; clear hn2 hB hlp HN
        go_wp2
        go_roundw
        case rel => exact ⟨k + 1, by omega, by omega, by go_num, HX.out, by rw [HN2.out]; exact HB1.out, by rw [HN2.out]; exact HMEM.out⟩
        case measure => simp [intOf]; omega
      · have hlt' : decide (o (nth xs k) m < 0) = true := hlp.trans hB
        have hn2 : minC q xs (k + 1) = nth xs k := by rw [HN.out, hB]; rfl
        have HN2 := Lib.hid hn2; clear hn2 hB hlp HN
        go_wp2
        go_roundw
        case rel => exact ⟨k + 1, by omega, by omega, by go_num, HX.out.put2 (by simp) _ _, by rw [HN2.out]; exact HB1.out.put _, by rw [HN2.out]; exact HIN.out k hlt⟩
        case measure => simp [intOf]; omega
    · have hkn : k = xs.length := by omega
      subst hkn
      have HBX := Lib.hid hbox
      have HX := Lib.hid hx
      clear hx hbox hcell h
      go_wp2
      refine bodyPost_ret (v := .agg #[.int .i64 m.code, .int .i64 m.cell]) ?_ rfl ?_
      · simp [results, Try.results66, go_sem, cell_put, z0, z1]
      · exact ⟨by rw [← HM.out]; rfl, (hw0.trans HX.out).put2 (Nat.le_refl _) _ _⟩


section
variable {P : Program} {ops : Array Oper} {md : Region.Mode} {C : World → Prop}

/-- the operations ahead of number n, in whatever order; behind them: L -/
def headQ (P : Program) (md : Region.Mode) (ops : Array Oper) (C : World → Prop) (n : Nat) (L : Array Bool → Act → Prop) : Nat → Array Bool → Act → Prop
  | 0, ls, a => L ls a
  | f + 1, ls, a => Region.ready md ops ls ≠ [] ∧ ∀ i ∈ Region.ready md ops ls, i < n ∧ qOp P ops C i (headQ P md ops C n L f (ls.setIfInBounds i true)) a

theorem any_of_headQ {n g : Nat} {L : Array Bool → Act → Prop} {Q' : Exit → Act → World → Prop} (hL : ∀ ls a w, C w → L ls a → wpAny P md ops Q' g ls a w) :
    ∀ (f : Nat) (ls : Array Bool) (a : Act) (w : World), C w → headQ P md ops C n L f ls a → wpAny P md ops Q' (f + g) ls a w := by
  intro f
  induction f with
  | zero => intro ls a w hw h; rw [Nat.zero_add]; exact hL _ _ _ hw h
  | succ f ih =>
    intro ls a w hw h
    rw [show f + 1 + g = (f + g) + 1 by omega]
    exact ⟨fun h0 => absurd h0 h.1, fun i hi => wpOp_of_qOp hw (fun a' w' hw' h' => ih _ a' w' hw' h') (h.2 i hi).2⟩

theorem headQ_first {n i : Nat} {oi : Oper} {v : Value} {L : Array Bool → Act → Prop} (hi : ops[i]? = some oi) (hsel : ∀ (j : Nat) (o : Oper) cs b, ops[j]? = some o → o.op ≠ .select cs b)
    (hs : Region.sinkB md ops n = true) (hc : Region.chainB md ops n = true) (hn : n < ops.size) (hin : i < n)
    (hdone : ∀ ls a, L ls a → ∀ j ∈ Region.ready md ops ls, n ≤ j) :
    ∀ (f : Nat) (ls : Array Bool) (a : Act), HeadInv md ops n ls →
      (∀ j oj, ops[j]? = some oj → j ≠ i → ls.getD j true = false → (∀ e ∈ oj.after, Region.binds md e = true → e.on ≠ i) → oi.apart ops oj = true) →
      i ∈ Region.ready md ops ls → YieldsIn P ops C oi v a →
      headQ P md ops C n L f (ls.setIfInBounds i true) (a.put oi.dst v) → headQ P md ops C n L (f + 1) ls a := by
  intro f
  induction f with
  | zero =>
    intro ls a inv _ hr hy H
    refine ⟨List.ne_nil_of_mem hr, fun j hj => ?_⟩
    have hjn : j < n := Nat.lt_of_not_le fun h => tail_waits hs hc hn inv _ i rfl hin (mem_ready.1 hr).1 j h hj
    refine ⟨hjn, ?_⟩
    by_cases e : j = i
    · subst e; exact hy.qOp hi H
    · have := hdone _ _ H j (ready_mono hj e)
      omega
  | succ f ih =>
    intro ls a inv hfree hr hy H
    have hun := (mem_ready.1 hr).1
    refine ⟨List.ne_nil_of_mem hr, fun j hj => ?_⟩
    have hjn : j < n := Nat.lt_of_not_le fun h => tail_waits hs hc hn inv _ i rfl hin hun j h hj
    refine ⟨hjn, ?_⟩
    by_cases e : j = i
    · subst e; exact hy.qOp hi H
    · have h1 := (H.2 j (ready_mono hj e)).2
      obtain ⟨hjun, oj, hoj, hall⟩ := mem_ready.1 hj
      have hnot : ∀ x ∈ oj.after, Region.binds md x = true → x.on ≠ i := fun x hx hb heq => by
        have h1 := hall x hx hb
        rw [heq, getD_both hun] at h1
        cases h1
      have h2 := qOp_put hoj (hfree j oj hoj e hjun hnot) (fun cs b => hsel i oi cs b hi) (fun cs b => hsel j oj cs b hoj) hy h1
      refine qOp_mono (fun a' h3 => ih (ls.setIfInBounds j true) a' (inv.set hj hjn) (fun k ok hk hki hku hno => ?_) (ready_mono hr (Ne.symm e)) h3.1 ?_) h2
      · refine hfree k ok hk hki ?_ hno
        by_cases hjk : j = k
        · subst hjk; exact hjun
        · rw [getD_set_ne true hjk] at hku; exact hku
      · rw [Array.setIfInBounds_comm _ _ e]
        exact h3.2

theorem headQ_lex {n g : Nat} {Lq : Act → Prop} (hsel : Region.noSelect ops = true) (hs : Region.sinkB md ops n = true) (hc : Region.chainB md ops n = true) (hn : n < ops.size) :
    ∀ (l : List Oper) (k : Nat) (ls : Array Bool) (a : Act), (∀ j, j < l.length → l[j]? = ops[k + j]?) → k + l.length = n → HeadInv md ops n ls →
    Region.lexHead md ops g l.length k ls = true → wpQuiet P ops C Lq l a →
    headQ P md ops C n (fun ls' a' => Region.seqB md ops g n ls' = true ∧ Lq a') l.length ls a := by
  intro l
  induction l with
  | nil =>
    intro k ls a _ hk _ hB h
    have : k = n := by simpa using hk
    subst this
    exact ⟨by simpa [Region.lexHead] using hB, h⟩
  | cons o l ih =>
    intro k ls a hl hk inv hB h
    have h0 : ops[k]? = some o := by simpa using (hl 0 (by simp)).symm
    simp only [List.length_cons, Region.lexHead, Bool.and_eq_true] at hB
    simp only [List.length_cons] at hk
    have hr : k ∈ Region.ready md ops ls := by simpa using hB.1.1
    have hst : qOp P ops C k (wpQuiet P ops C Lq l) a := by unfold qOp; simp only [h0]; exact h
    obtain ⟨v, hy, hK⟩ := yieldsIn_of_qOp h0 hst
    refine headQ_first h0 (Region.noSelect_spec hsel) hs hc hn (by omega) (fun ls' a' hL => seqB_ready hL.1) l.length ls a inv (Region.free_spec h0 hB.1.2) hr hy ?_
    exact ih (k + 1) _ _ (fun j hj => by have := hl (j + 1) (by simp; omega); simpa [Nat.add_assoc, Nat.add_comm 1 j] using this) (by omega) (inv.set hr (by omega)) hB.2 hK
end

/-- ONE WALK OF THE FIRST n OPERATIONS; then the others, in the text's order, from any grown world. -/
theorem wp_region_ext_tail {P : Program} {id : Nat} {Q : Exit → Act → World → Prop} {a : Act} {w : World} {l : List Oper} (n : Nat) (hm : P.follows .mixedOrders = true) (hB : Region.lexTailB .any l.toArray n = true)
    (h : wpQuiet P l.toArray (fun w' => ∃ x : Grow w, w' = x.w) (fun a' => ∀ w', (∃ x : Grow w, w' = x.w) → wpList P l.toArray Q (l.drop n) a' w') (l.take n) a) : (Code.region id l.toArray true).wp P Q a w := by
  simp only [Region.lexTailB, Bool.and_eq_true, decide_eq_true_eq] at hB
  obtain ⟨⟨⟨⟨hsel, hn⟩, hs⟩, hc⟩, hlex⟩ := hB
  have hn' : n < l.length := by simpa using hn
  have htl : (l.take n).length = n := by simp; omega
  have hdl : (l.drop n).length = l.toArray.size - n := by simp
  have inv0 : HeadInv .any l.toArray n (Array.replicate l.toArray.size false) :=
    ⟨by simp, fun j oj _ hl => (by rw [getD_replicate_false] at hl; cases hl), fun t _ ht => getD_in (by simpa using ht) (getD_replicate_false _ _)⟩
  have H := headQ_lex (md := .any) (g := l.toArray.size - n) hsel hs hc hn (l.take n) 0 _ a (fun j hj => by
    have hj' : j < n := by rw [htl] at hj; exact hj
    simp [hj']) (by simpa using htl) inv0 (by rw [htl]; exact hlex) h
  refine wp_region_any hm ?_
  have H2 := any_of_headQ (Q' := Q) (g := l.toArray.size - n) (fun ls a' w' hw' hL => by
    have := wpAny_of_seq (md := .any) (Q' := Q) (l.drop n) n ls a' w' (fun j => by simp [List.getElem?_drop]) (by rw [hdl]; exact hL.1) (hL.2 w' hw')
    rwa [hdl] at this) _ _ _ _ ⟨⟨w.drew, (Ext.refl w).drew⟩, rfl⟩ H
  rw [htl, show n + (l.toArray.size - n) = l.toArray.size by omega] at H2
  exact H2


/-- a block that holds a map -/
structure BoxM (w : World) (M : Nat) (m : MapD) (ao : Option Addr) (ac : Nat) (bo : Option Addr) (bc : Nat) : Prop where
  c0 : w.cell? ⟨M, 0, none⟩ = some (.int .i64 m.wid)
  c1 : w.cell? ⟨M, 1, none⟩ = some (.int .i64 m.hei)
  c2 : w.cell? ⟨M, 2, none⟩ = some (.slice ao m.rise.length ac)
  c3 : w.cell? ⟨M, 3, none⟩ = some (.slice bo m.cost.length bc)
theorem BoxM.ext {w w' : World} {M : Nat} {m : MapD} {ao bo : Option Addr} {ac bc : Nat} (h : BoxM w M m ao ac bo bc) (hx : Ext w w') : BoxM w' M m ao ac bo bc := ⟨hx.cells h.c0, hx.cells h.c1, hx.cells h.c2, hx.cells h.c3⟩

set_option maxRecDepth 100000 in
set_option maxHeartbeats 1000000 in
theorem impl_canReach_1 {m : MapD} {ao bo : Option Addr} {ac bc M C c0 q : Nat} {code : Int} {w : World} (hr : RowAt w ao 1 m.rise.length (ic m.rise)) (ht : RowAt w bo 1 m.cost.length (ic m.cost)) (hm : mapB m = true) (hB : BoxM w M m ao ac bo bc) (hC : w.cell? ⟨C, 0, none⟩ = some (.int .i64 (c0 : Nat))) (h0 : c0 < m.cost.length) (hq : q < m.cost.length) :
    Calls Try.prog 108 #[.agg #[.int .i64 code, .int .i64 (q : Nat)], .pointer (some ⟨M, 0, none⟩), .pointer (some ⟨C, 0, none⟩)] w fun e w' => e = .returned (.bool (decide (nth (timL m q) c0 = NT))) ∧ Ext w w' := by
  have HX := Lib.hid ((Ext.refl w).alloc (.cells #[.int .i64 code, .int .i64 (q : Nat)] 75))
  have HT := Lib.hid (impl_leastTime (ac := ac) (bc := bc) (hr.ext HX.out) (ht.ext HX.out) hm h0 hq)
  have HNT := Lib.hid (show NT = 1073741824 from rfl)
  obtain ⟨d0, d1, d2, d3⟩ := hB
  have e1 := World.block_lt_of_cell? _ _ d0
  have e2 := World.block_lt_of_cell? _ _ hC
  generalize nth (timL m q) c0 = tt at *
  unfold MapD.val at *
  clear hr ht hm
  by_cases ht : tt = NT
  all_goals
    have HD := Lib.hid ht
    rw [HNT.out] at ht
    go_enter Try.func108, Try.ntmps108
    go_wp2_with fail
    refine HT.out.mono ?_; rintro e w1 ⟨rfl, hx1⟩
    go_wp2
    go_ret
    exact ⟨ret_b (by rw [HNT.out]; simp [ht]), HX.out.trans hx1⟩

set_option maxHeartbeats 1000000 in
theorem impl_GreedyTour_2 {B : Nat} {a b : Int} {y : Ctl} {w : World} (h : BoxC w B y) :
    Calls Try.prog 73 #[.agg #[.int .i64 a, .int .i64 b], .pointer (some ⟨B, 0, none⟩)] w fun e w' => e = .returned (.bool (decide (a = y.code) && decide (b = y.cell))) ∧ Ext w w' := by
  obtain ⟨d0, d1, _, d2⟩ := h
  obtain ⟨c, d⟩ := y
  dsimp only at *
  by_cases h1 : a = c
  all_goals by_cases h2 : b = d
  all_goals
    go_enter Try.func73, Try.ntmps73
    go_wp2
    go_ret
    exact ⟨ret_b (by simp [h1, h2]), (by repeat (first | (with_reducible exact Ext.refl _) | (with_reducible assumption) | with_reducible refine Ext.drew ?_ | with_reducible refine Ext.alloc ?_ _ | with_reducible refine Ext.setCell ?_ (by first | (simp; done) | (simp; omega) | omega) _ | with_reducible refine Ext.trans ?_ (by with_reducible assumption)))⟩

set_option maxRecDepth 100000 in
set_option maxHeartbeats 2000000 in
theorem impl_GreedyTour_1 {m : MapD} {ao bo : Option Addr} {ac bc M H here q1 q2 : Nat} {a1 a2 : Int} {w : World} (hr : RowAt w ao 1 m.rise.length (ic m.rise)) (ht : RowAt w bo 1 m.cost.length (ic m.cost)) (hm : mapB m = true) (hB : BoxM w M m ao ac bo bc) (hH : w.cell? ⟨H, 0, none⟩ = some (.int .i64 (here : Nat))) (h0 : here < m.cost.length) (hq1 : q1 < m.cost.length) (hq2 : q2 < m.cost.length) :
    Calls Try.prog 67 #[.agg #[.int .i64 a1, .int .i64 (q1 : Nat)], .agg #[.int .i64 a2, .int .i64 (q2 : Nat)], .pointer (some ⟨M, 0, none⟩), .pointer (some ⟨H, 0, none⟩)] w fun e w' => e = .returned (.int .i64 (orI (cmpI (nth (timL m q1) here) (nth (timL m q2) here)) (cmpI a1 a2))) ∧ Ext w w' := by
  have hx : Ext w ((w.alloc (.cells #[.int .i64 a1, .int .i64 (q1 : Nat)] 75)).alloc (.cells #[.int .i64 a2, .int .i64 (q2 : Nat)] 75)) := ((Ext.refl w).alloc _).alloc _
  have f0 : ((w.alloc (.cells #[.int .i64 a1, .int .i64 (q1 : Nat)] 75)).alloc (.cells #[.int .i64 a2, .int .i64 (q2 : Nat)] 75)).cell? ⟨w.heap.size, 0, none⟩ = some (.int .i64 a1) := by go_simp
  have f1 : ((w.alloc (.cells #[.int .i64 a1, .int .i64 (q1 : Nat)] 75)).alloc (.cells #[.int .i64 a2, .int .i64 (q2 : Nat)] 75)).cell? ⟨w.heap.size, 1, none⟩ = some (.int .i64 (q1 : Nat)) := by go_simp
  have g0 : ((w.alloc (.cells #[.int .i64 a1, .int .i64 (q1 : Nat)] 75)).alloc (.cells #[.int .i64 a2, .int .i64 (q2 : Nat)] 75)).cell? ⟨w.heap.size + 1, 0, none⟩ = some (.int .i64 a2) := by go_simp
  have g1 : ((w.alloc (.cells #[.int .i64 a1, .int .i64 (q1 : Nat)] 75)).alloc (.cells #[.int .i64 a2, .int .i64 (q2 : Nat)] 75)).cell? ⟨w.heap.size + 1, 1, none⟩ = some (.int .i64 (q2 : Nat)) := by go_simp
  have hB' := hB.ext hx
  have hH' := hx.cells hH
  have hr' := hr.ext hx
  have ht' := ht.ext hx
  have hz : w.heap.size + 1 < ((w.alloc (.cells #[.int .i64 a1, .int .i64 (q1 : Nat)] 75)).alloc (.cells #[.int .i64 a2, .int .i64 (q2 : Nat)] 75)).heap.size := by simp
  clear hB hH hr ht
  go_enter Try.func67, Try.ntmps67
  go_wp2_with fail
  generalize hW : ((w.alloc (.cells #[.int .i64 a1, .int .i64 (q1 : Nat)] 75)).alloc (.cells #[.int .i64 a2, .int .i64 (q2 : Nat)] 75)) = W at *
  clear hW
  have HX := Lib.hid hx; clear hx
  have HT1 := Lib.hid (fun y (hx : Ext W y) => impl_leastTime (w := y) (ac := ac) (bc := bc) (hr'.ext hx) (ht'.ext hx) hm h0 hq1)
  have HT2 := Lib.hid (fun y (hx : Ext W y) => impl_leastTime (w := y) (ac := ac) (bc := bc) (hr'.ext hx) (ht'.ext hx) hm h0 hq2)
  have HO := Lib.hid (fun x (B : Nat) (a b : Int) (h1 : x.cell? ⟨B, 0, none⟩ = some (.int .i64 a)) (h2 : x.cell? ⟨B, 1, none⟩ = some (.int .i64 b)) => cmp_Or (w := x) (B := B) h1 h2)
  obtain ⟨d0, d1, d2, d3⟩ := hB'
  obtain ⟨t1, ht1⟩ : ∃ t, nth (timL m q1) here = t := ⟨_, rfl⟩
  obtain ⟨t2, ht2⟩ : ∃ t, nth (timL m q2) here = t := ⟨_, rfl⟩
  rw [ht1] at HT1
  rw [ht2] at HT2
  have T1 := Lib.hid ht1; have T2 := Lib.hid ht2
  clear ht1 ht2
  unfold MapD.val at *
  clear hr' ht' hm h0 hq1 hq2
  refine wp_region_ext_tail 16 (by kernel_rfl) (by kernel_rfl) ?_
  simp only [List.take_succ_cons, List.take_zero, List.drop_succ_cons, List.drop_zero]
  have k0 := Grow.cells f0
  have k1 := Grow.cells f1
  have k2 := Grow.cells g0
  have k3 := Grow.cells g1
  have k4 := Grow.cells d0
  have k5 := Grow.cells d1
  have k6 := Grow.cells d2
  have k7 := Grow.cells d3
  have k8 := Grow.cells hH'
  repeat (go_big_quiet_step ((first | (go_at_call 70; with_reducible exact Calls.ext_of (HT1.out _ (Grow.h _))) | (go_at_call 70; with_reducible exact Calls.ext_of (HT2.out _ (Grow.h _))) | (go_at_call 69; with_reducible exact Calls.ext_of_same cmp_Compare))))
  refine wpQuiet_nil ?_
  rintro _ ⟨⟨w1, hx1⟩, rfl⟩
  clear k0 k1 k2 k3 k4 k5 k6 k7 k8 f0 f1 g0 g1 d0 d1 d2 d3 hH'
  have HX1 := Lib.hid (HX.out.trans hx1)
  clear hx1 HX HT1 HT2
  generalize hca : cmpI t1 t2 = ca
  generalize hcb : cmpI a1 a2 = cb
  have CA := Lib.hid hca; have CB := Lib.hid hcb
  clear hca hcb
  go_wp2_with fail
  refine (HO.out _ _ ca cb (by go_simp) (by go_simp)).mono ?_; rintro e w2 ⟨rfl, hx2⟩
  have HX2 := Lib.hid (HX1.out.trans (Ext.trans ((Ext.refl _).alloc _) hx2))
  clear hx2 HO HX1
  go_wp2
  go_ret
  exact ⟨ret_i (by rw [T1.out, T2.out, CA.out, CB.out]), HX2.out⟩

set_option maxRecDepth 100000 in
set_option maxHeartbeats 2000000 in
theorem impl_canReach {m : MapD} {ao bo : Option Addr} {ac bc : Nat} {xs : List Ctl} {co : Option Addr} {cap c0 : Nat} {w : World} (h : Site w m ao bo xs co cap) (hc : ctlsB m xs = true) (hnil : co = none → cap = 0) (h0 : c0 < m.cost.length) :
    Calls Try.prog 65 #[m.val ao ac bo bc, .slice co xs.length cap, .int .i64 c0] w fun e w' => ∃ lo lc, e = .returned (.slice lo (leftL m xs c0 []).length lc) ∧ Ext w w' ∧
      ((lo = none ∧ lc = 0 ∧ (leftL m xs c0 []).length = 0) ∨ ∃ g, lo = some ⟨g, 0, none⟩ ∧ (leftL m xs c0 []).length ≤ lc ∧ lc ≤ 9223372036854775807 ∧ FreshAt w.heap.size w' (some ⟨g, 0, none⟩) 2 (leftL m xs c0 []).length (fun k => (nth (leftL m xs c0 []) k).c)) := by
  have h10 := (ctls_map hc).2
  have hm := (ctls_map hc).1
  have hx0 : Ext w ((w.alloc (.cells #[.int .i64 m.wid, .int .i64 m.hei, .slice ao m.rise.length ac, .slice bo m.cost.length bc] 30)).alloc (.cells #[.int .i64 (c0 : Nat)] 3)) := ((Ext.refl w).alloc _).alloc _
  have hbm : BoxM ((w.alloc (.cells #[.int .i64 m.wid, .int .i64 m.hei, .slice ao m.rise.length ac, .slice bo m.cost.length bc] 30)).alloc (.cells #[.int .i64 (c0 : Nat)] 3)) w.heap.size m ao ac bo bc := ⟨by go_simp, by go_simp, by go_simp, by go_simp⟩
  have hcc : ((w.alloc (.cells #[.int .i64 m.wid, .int .i64 m.hei, .slice ao m.rise.length ac, .slice bo m.cost.length bc] 30)).alloc (.cells #[.int .i64 (c0 : Nat)] 3)).cell? ⟨w.heap.size + 1, 0, none⟩ = some (.int .i64 (c0 : Nat)) := by go_simp
  have hsz : w.heap.size + 1 < ((w.alloc (.cells #[.int .i64 m.wid, .int .i64 m.hei, .slice ao m.rise.length ac, .slice bo m.cost.length bc] 30)).alloc (.cells #[.int .i64 (c0 : Nat)] 3)).heap.size := by simp
  have HL := Lib.hid (left_start hc h0)
  unfold MapD.val at *
  go_enter Try.func65, Try.ntmps65
  go_wp2_with fail
  generalize hW : ((w.alloc (.cells #[.int .i64 m.wid, .int .i64 m.hei, .slice ao m.rise.length ac, .slice bo m.cost.length bc] 30)).alloc (.cells #[.int .i64 (c0 : Nat)] 3)) = W at *
  clear hW
  have HX := Lib.hid hx0; clear hx0
  have HS := Lib.hid h; clear h
  have HBM := Lib.hid hbm; have HCC := Lib.hid hcc; have HSZ := Lib.hid hsz
  clear hbm hcc hsz
  refine (clone_Ctl (HS.out.ctls.ext HX.out) (by omega) hnil).mono ?_; rintro e w2 ⟨v, rfl, hx2, hO⟩
  have HX2 := Lib.hid hx2; clear hx2
  rcases hO.form with ⟨rfl, hms⟩ | ⟨g, cap1, rfl, hlc, hcm, hF⟩
  · have HE : Hid ((leftL m xs c0 []).length = 0) := Lib.hid (by rw [← HL.out, hms]; rfl)
    clear hO hms
    go_wp2_with fail
    refine deleteFunc_nil_Ctl.mono ?_; rintro e w3 ⟨rfl, hx3⟩
    have HX3 := Lib.hid hx3; clear hx3
    go_wp2
    go_ret
    exact ⟨none, 0, by rw [HE.out]; rfl, HX.out.trans (HX2.out.trans HX3.out), .inl ⟨rfl, rfl, HE.out⟩⟩
  · have hb := hF.base _ rfl
    simp only at hb
    have hgw : W.heap.size ≤ g := hb.1
    have hdel := deleteFunc_Ctl (p := fun c => decide (dist m c0 c = NT)) (caps := #[.pointer (some ⟨w.heap.size, 0, none⟩), .pointer (some ⟨w.heap.size + 1, 0, none⟩)]) hF (by omega) hlc hcm (entersF_of Try.func108 (by kernel_rfl) rfl) (fun k hk w' hg => by
      have hE : Ext W w' := grown_ext HX2.out hg (fun k e => by injection e with e; omega)
      have h1 := cellN_lt hc hk
      have e : (nth xs k).val = .agg #[.int .i64 (nth xs k).code, .int .i64 (cellN (nth xs k) : Nat)] := by rw [← h1.1]; rfl
      rw [e]
      exact impl_canReach_1 (HS.out.rise.ext (HX.out.trans hE)) (HS.out.cost.ext (HX.out.trans hE)) hm (HBM.out.ext hE) (hE.cells HCC.out) h0 h1.2)
    rw [HL.out] at hdel
    have HDEL := Lib.hid hdel
    have HLL : Hid ((leftL m xs c0 []).length ≤ xs.length) := Lib.hid left_len
    have HLC := Lib.hid hlc
    clear hO hF hb hdel hlc
    go_wp2_with fail
    refine HDEL.out.mono ?_; rintro e w3 ⟨rfl, hg3, hF3⟩
    have HG3 := Lib.hid hg3; have HF3 := Lib.hid hF3
    clear hg3 hF3
    go_wp2
    go_ret
    exact ⟨some ⟨g, 0, none⟩, cap1, rfl, HX.out.trans (grown_ext HX2.out HG3.out (fun k e => by injection e with e; omega)), .inr ⟨g, rfl, by have := HLL.out; have := HLC.out; omega, hcm, HF3.out.row, fun a e => by have := HF3.out.base a e; have := HX.out.size; omega, HF3.out.free⟩⟩


set_option maxRecDepth 100000 in
set_option maxHeartbeats 1000000 in
theorem impl_copyInts {ad : Addr} {cap : Nat} {xs : List Int} {w : World} (h : RowAt w (some ad) 1 xs.length (ic xs)) (hs : xs.length ≤ 1048577) :
    Calls Try.prog 71 #[.slice (some ad) xs.length cap] w fun e w' => ∃ g c, e = .returned (.slice (some g) xs.length c) ∧ Ext w w' ∧ Owns w' w.heap.size 3 1 icc (.slice (some g) xs.length c) xs := by
  obtain ⟨i0, hi, hz0, hz1, hz2⟩ := info_parts infoInt
  have HST := Lib.hid (Owns.start' (e := 3) (s := 1) (cc := icc) (Nat.le_refl w.heap.size))
  have HR := Lib.hid (h.ext ((Ext.refl w).alloc (.cells #[] 3)))
  have HXA := Lib.hid ((Ext.refl w).alloc (.cells #[] 3))
  clear h
  go_enter Try.func71, Try.ntmps71
  go_wp2_with (at_builtin; refine wpList_append_bf rfl _ _ 22 rfl 3 i0 _ 1 8 Try.underlying22 hi hz0 hz1 hz2 rfl (by decide) icc icc_one w.heap.size (by simp) (.slice (some ⟨w.heap.size, 0, none⟩) 0 0) [] xs xs (Lib.hid rfl) rfl HST.out ad xs.length cap rfl rfl HR.out (by simp; omega) (by simp; omega) ?_; intro go gc w3 ho3 hb3 hg3 hv3; have HO := Lib.hid ho3; have HX := Lib.hid (Ext.below HXA.out hb3 (Nat.le_refl _)); have HSM : Hid (go ≠ none) := Lib.hid (fun e => by subst e; rcases hv3.out with q | q <;> cases q); clear ho3 hb3 hg3 hv3)
  cases go with
  | none => exact absurd rfl HSM.out
  | some g =>
    go_wp2
    go_ret
    exact ⟨g, gc, rfl, HX.out, HO.out⟩

set_option maxRecDepth 100000 in
set_option maxHeartbeats 1000000 in
theorem spec_l1Own {ad : Addr} {cap : Nat} {xs : List Int} {w : World} (h : RowAt w (some ad) 1 xs.length (ic xs)) (hs : xs.length ≤ 1048577) :
    Calls Try.prog 63 #[.slice (some ad) xs.length cap] w fun e w' => ∃ g c, e = .returned (.slice (some g) xs.length c) ∧ Ext w w' ∧ Owns w' w.heap.size 3 1 icc (.slice (some g) xs.length c) xs := by
  obtain ⟨i0, hi, hz0, hz1, hz2⟩ := info_parts infoInt
  have HST := Lib.hid (Owns.start' (e := 3) (s := 1) (cc := icc) (Nat.le_refl w.heap.size))
  have HR := Lib.hid (h.ext ((Ext.refl w).alloc (.cells #[] 3)))
  have HXA := Lib.hid ((Ext.refl w).alloc (.cells #[] 3))
  clear h
  go_enter Try.func63, Try.ntmps63
  go_wp2_with (at_builtin; refine wpList_append_bf rfl _ _ 22 rfl 3 i0 _ 1 8 Try.underlying22 hi hz0 hz1 hz2 rfl (by decide) icc icc_one w.heap.size (by simp) (.slice (some ⟨w.heap.size, 0, none⟩) 0 0) [] xs xs (Lib.hid rfl) rfl HST.out ad xs.length cap rfl rfl HR.out (by simp; omega) (by simp; omega) ?_; intro go gc w3 ho3 hb3 hg3 hv3; have HO := Lib.hid ho3; have HX := Lib.hid (Ext.below HXA.out hb3 (Nat.le_refl _)); have HSM : Hid (go ≠ none) := Lib.hid (fun e => by subst e; rcases hv3.out with q | q <;> cases q); clear ho3 hb3 hg3 hv3)
  cases go with
  | none => exact absurd rfl HSM.out
  | some g =>
    go_wp2
    go_ret
    exact ⟨g, gc, rfl, HX.out, HO.out⟩

theorem Owns.down {α : Type} {w : World} {base base' : Nat} {e : TypeId} {s : Nat} {cc : α → Nat → Value} {v : Value} {xs : List α} (h : Owns w base e s cc v xs) (hb : base' ≤ base) : Owns w base' e s cc v xs := by
  have h0 : w.ownsRow base e s v xs.length (fl s cc xs) := h
  refine ⟨h0.1, ?_⟩
  rcases h0.2 with hn | ⟨g, cap, cur, e1, e2, e3⟩
  · exact .inl hn
  · exact .inr ⟨g, cap, cur, e1, Nat.le_trans hb e2, e3⟩


noncomputable def grB (m : MapD) (xs : List Ctl) (r : RuleD) (center : Int) : Bool := ruleB m xs r && openB m center
noncomputable def grT (m : MapD) (xs : List Ctl) (r : RuleD) (center : Int) : List Int := if grB m xs r center then grL m xs r.lim center.toNat 8 [] center.toNat else []
/-- what is handed back: ints of the call's own, a bool -/
def ResN (w : World) (L : List Int) (B : Bool) (e : Ending) (w' : World) : Prop := ∃ bo bc, e = .returned (.tuple #[.slice bo L.length bc, .bool B]) ∧ Ext w w' ∧ FreshAt w.heap.size w' bo 1 L.length (ic L)
theorem FreshAt.none1 {B0 : Nat} {w : World} {s : Nat} {c : Nat → Nat → Value} : FreshAt B0 w none s 0 c := ⟨fun h => absurd h (by simp), fun a e => (by cases e), fun b off e => (by cases e)⟩
theorem rule_ctls {m : MapD} {xs : List Ctl} {r : RuleD} (h : ruleB m xs r = true) : ctlsB m xs = true := by
  simp only [ruleB, Bool.and_eq_true] at h
  exact h.1.1.1.1
theorem gr_empty {m : MapD} {xs : List Ctl} {lim : Int} {c0 here f : Nat} {cs : List Int} (h : GInv m xs c0 cs here) (hc : ctlsB m xs = true) (h0 : c0 < m.cost.length) (hl : (leftL m xs c0 cs).length = 0) : grL m xs lim c0 f cs here = cs := by
  cases f with
  | zero => rfl
  | succ f =>
    rcases h.pick hc h0 with ⟨_, e⟩ | ⟨hp, _⟩
    · rw [grL, e, if_pos (by decide)]
    · omega
theorem gr_next {m : MapD} {xs : List Ctl} {lim : Int} {c0 here f k : Nat} {cs : List Int} {d : Int} (e : pkI m xs here cs xs.length = ((k : Int), d)) :
    grL m xs lim c0 (f + 1) cs here = if lim < wayT m c0 (tourW xs c0 (cs ++ [(nth xs k).code])) then cs else grL m xs lim c0 f (cs ++ [(nth xs k).code]) (cellN (nth xs k)) := by
  rw [grL, e, if_neg (by show ¬ (k : Int) < 0; omega)]
  rfl

structure BoxI (w : World) (B : Nat) (n : Nat) : Prop where
  c : w.cell? ⟨B, 0, none⟩ = some (.int .i64 n)
  fr : w.frozen? ⟨B, 0, none⟩ = false
  lt : B < w.heap.size
theorem BoxI.ext {w w' : World} {B n : Nat} (h : BoxI w B n) (hx : Ext w w') : BoxI w' B n := ⟨hx.cells h.c, (hx.frozenr B 0 h.lt).trans h.fr, Nat.lt_of_lt_of_le h.lt hx.size⟩
theorem BoxI.put {w : World} {B n : Nat} (h : BoxI w B n) (k : Nat) : BoxI (w.setCell ⟨B, 0, none⟩ (.int .i64 (k : Nat))) B k :=
  ⟨World.cell?_setCell_same _ _ _ h.c, by rw [World.frozen?_setCell]; exact h.fr, by simpa [World.setCell] using h.lt⟩
theorem BoxI.grow {w w' : World} {B n g : Nat} (h : BoxI w B n) (hg : w.grownBy w' (some g)) (hne : g ≠ B) : BoxI w' B n := by
  have hr : (some g : Option Nat) ≠ some B := fun e => hne (Option.some.inj e)
  exact ⟨(grown_cell hg h.lt hr).trans h.c, (grown_frozen hg h.lt hr).trans h.fr, Nat.lt_of_lt_of_le h.lt (grown_size hg)⟩
theorem BoxC.off {w : World} {B : Nat} {y : Ctl} (h : BoxC w B y) {p : Addr} (hp : B ≠ p.block) (u : Value) : BoxC (w.setCell p u) B y :=
  ⟨(World.cell?_setCell_other _ _ _ _ (fun q => hp (by rw [q]))).trans h.c0, (World.cell?_setCell_other _ _ _ _ (fun q => hp (by rw [q]))).trans h.c1, fun j => by rw [World.frozen?_setCell]; exact h.fr j, by simpa [World.setCell] using h.lt⟩
theorem BoxC.grow {w w' : World} {B g : Nat} {y : Ctl} (h : BoxC w B y) (hg : w.grownBy w' (some g)) (hne : g ≠ B) : BoxC w' B y := by
  have hr : (some g : Option Nat) ≠ some B := fun e => hne (Option.some.inj e)
  exact ⟨(grown_cell hg h.lt hr).trans h.c0, (grown_cell hg h.lt hr).trans h.c1, fun j => (grown_frozen hg h.lt hr).trans (h.fr j), Nat.lt_of_lt_of_le h.lt (grown_size hg)⟩
/-- the controls that are left, in memory of the call's own between a and b, apart from ob -/
def LeftAt (a b : Nat) (wr : World) (lo : Option Addr) (lc : Nat) (L : List Ctl) (ob : Nat) : Prop :=
  L.length = 0 ∨ ∃ g, lo = some ⟨g, 0, none⟩ ∧ a < g ∧ g < b ∧ ob ≠ g ∧ L.length ≤ lc ∧ lc ≤ 9223372036854775807 ∧ FreshAt a wr (some ⟨g, 0, none⟩) 2 L.length (fun k => (nth L k).c)
theorem FreshAt.low {B0 B1 : Nat} {w : World} {ao : Option Addr} {s n : Nat} {c : Nat → Nat → Value} (h : FreshAt B0 w ao s n c) (hb : B1 ≤ B0) : FreshAt B1 w ao s n c := ⟨h.row, fun a e => by have := h.base a e; omega, h.free⟩
theorem FreshAt.setOff {B0 : Nat} {w : World} {ao : Option Addr} {s n : Nat} {c : Nat → Nat → Value} (h : FreshAt B0 w ao s n c) {p : Addr} (hp : ∀ a, ao = some a → a.block ≠ p.block) (u : Value) : FreshAt B0 (w.setCell p u) ao s n c := by
  refine ⟨fun hn => ?_, fun a e => by simpa [World.setCell] using h.base a e, fun b off e j => by rw [World.frozen?_setCell]; exact h.free b off e j⟩
  obtain ⟨b, off, e, H⟩ := h.row hn
  exact ⟨b, off, e, fun k hk j hj => (World.cell?_setCell_other _ _ _ _ (fun q => hp _ e (by rw [q]))).trans (H k hk j hj)⟩
theorem FreshAt.grow {B0 g : Nat} {w w' : World} {b : Nat} {s n : Nat} {c : Nat → Nat → Value} (h : FreshAt B0 w (some ⟨b, 0, none⟩) s n c) (hg : w.grownBy w' (some g)) (hne : g ≠ b) : FreshAt B0 w' (some ⟨b, 0, none⟩) s n c := by
  have hb := h.base _ rfl
  simp only at hb
  have hr : (some g : Option Nat) ≠ some b := fun e => hne (Option.some.inj e)
  refine ⟨fun hn => ?_, fun a e => ?_, fun b' off e j => ?_⟩
  · obtain ⟨b', off, e, H⟩ := h.row hn
    injection e with e; injection e with e1 e2; subst e1 e2
    exact ⟨b, 0, rfl, fun k hk j hj => (grown_cell hg hb.2 hr).trans (H k hk j hj)⟩
  · injection e with e; subst e
    have := grown_size hg
    simp only
    omega
  · injection e with e; injection e with e1 e2; subst e1
    exact (grown_frozen hg hb.2 hr).trans (h.free b 0 rfl j)

/-- what is handed back, with its capacity -/
def ResNI (w : World) (L : List Int) (B : Bool) (e : Ending) (w' : World) : Prop := ∃ bo bc, e = .returned (.tuple #[.slice bo L.length bc, .bool B]) ∧ Ext w w' ∧ FreshAt w.heap.size w' bo 1 L.length (ic L) ∧ L.length ≤ bc

set_option maxRecDepth 100000 in
set_option maxHeartbeats 4000000 in
theorem impl_GreedyTourC {m : MapD} {ao bo : Option Addr} {ac bc : Nat} {xs : List Ctl} {co : Option Addr} {cap : Nat} {r : RuleD} {po : Option Addr} {pc : Nat} {center : Int} {w : World} (h : Site w m ao bo xs co cap) (hp : RowAt w po 1 r.pts.length (ic r.pts)) (hn : r.pts.length ≤ 9223372036854775807) (hnil : co = none → cap = 0) :
    Calls Try.prog 25 #[m.val ao ac bo bc, .slice co xs.length cap, r.val po pc, .int .i64 center] w (ResNI w (grT m xs r center) (grB m xs r center)) := by
  have hx0 : Ext w ((w.alloc (.cells #[.int .i64 m.wid, .int .i64 m.hei, .slice ao m.rise.length ac, .slice bo m.cost.length bc] 30)).alloc (.cells #[.slice po r.pts.length pc, .int .i64 r.lim, .int .i64 r.pen] 43)) := ((Ext.refl w).alloc _).alloc _
  have hbm : BoxM ((w.alloc (.cells #[.int .i64 m.wid, .int .i64 m.hei, .slice ao m.rise.length ac, .slice bo m.cost.length bc] 30)).alloc (.cells #[.slice po r.pts.length pc, .int .i64 r.lim, .int .i64 r.pen] 43)) w.heap.size m ao ac bo bc := ⟨by go_simp, by go_simp, by go_simp, by go_simp⟩
  have r0 : ((w.alloc (.cells #[.int .i64 m.wid, .int .i64 m.hei, .slice ao m.rise.length ac, .slice bo m.cost.length bc] 30)).alloc (.cells #[.slice po r.pts.length pc, .int .i64 r.lim, .int .i64 r.pen] 43)).cell? ⟨w.heap.size + 1, 0, none⟩ = some (.slice po r.pts.length pc) := by go_simp
  have r1 : ((w.alloc (.cells #[.int .i64 m.wid, .int .i64 m.hei, .slice ao m.rise.length ac, .slice bo m.cost.length bc] 30)).alloc (.cells #[.slice po r.pts.length pc, .int .i64 r.lim, .int .i64 r.pen] 43)).cell? ⟨w.heap.size + 1, 1, none⟩ = some (.int .i64 r.lim) := by go_simp
  have r2 : ((w.alloc (.cells #[.int .i64 m.wid, .int .i64 m.hei, .slice ao m.rise.length ac, .slice bo m.cost.length bc] 30)).alloc (.cells #[.slice po r.pts.length pc, .int .i64 r.lim, .int .i64 r.pen] 43)).cell? ⟨w.heap.size + 1, 2, none⟩ = some (.int .i64 r.pen) := by go_simp
  have HA := Lib.hid (fun y (hx : Ext w y) => impl_IsScoreRule (w := y) (ac := ac) (bc := bc) (cap := cap) (pc := pc) (h.ext hx) (hp.ext hx) hn)
  have HO := Lib.hid (fun y (hx : Ext w y) => impl_isOpen (w := y) (ac := ac) (bc := bc) (x := center) (h.rise.ext hx) (h.cost.ext hx) h.n1 h.n2)
  obtain ⟨j0, hj, hy0, hy1, hy2⟩ := info_parts infoInt
  have HJ := Lib.hid hj; have HY0 := Lib.hid hy0; have HY1 := Lib.hid hy1; have HY2 := Lib.hid hy2
  clear hj hy0 hy1 hy2
  have HBF : Hid (grB m xs r center = (ruleB m xs r && openB m center)) := Lib.hid rfl
  have HTF : Hid (grT m xs r center = if grB m xs r center then grL m xs r.lim center.toNat 8 [] center.toNat else []) := Lib.hid rfl
  cases ha : ruleB m xs r
  · have HB : Hid (grB m xs r center = false) := Lib.hid (by rw [HBF.out, ha]; rfl)
    have HT : Hid (grT m xs r center = []) := Lib.hid (by rw [HTF.out, HB.out]; rfl)
    rw [ha] at HA
    unfold MapD.val RuleD.val at *
    clear ha hnil h hp
    go_enter Try.func25, Try.ntmps25
    go_wp2_with fail
    refine (HA.out _ hx0).mono ?_; rintro e w1 ⟨rfl, hx1⟩
    have HX1 := Lib.hid (hx0.trans hx1)
    clear hx1 hx0 HA hbm r0 r1 r2
    go_wp2
    go_ret2
    rw [HT.out, HB.out]
    exact ⟨none, 0, rfl, HX1.out, FreshAt.none1, Nat.le_refl _⟩
  · rw [ha] at HA
    cases hb : openB m center
    · have HB : Hid (grB m xs r center = false) := Lib.hid (by rw [HBF.out, hb, Bool.and_false])
      have HT : Hid (grT m xs r center = []) := Lib.hid (by rw [HTF.out, HB.out]; rfl)
      rw [hb] at HO
      unfold MapD.val RuleD.val at *
      clear ha hb hnil h hp
      obtain ⟨d0, d1, d2, d3⟩ := hbm
      go_enter Try.func25, Try.ntmps25
      go_wp2_with fail
      refine (HA.out _ hx0).mono ?_; rintro e w1 ⟨rfl, hx1⟩
      have HX1 := Lib.hid (hx0.trans hx1)
      have d0 := hx1.cells d0
      have d1 := hx1.cells d1
      have d2 := hx1.cells d2
      have d3 := hx1.cells d3
      clear hx1 hx0 HA r0 r1 r2
      go_wp2_with fail
      refine (HO.out _ HX1.out).mono ?_; rintro e w2 ⟨rfl, hx2⟩
      have HX2 := Lib.hid (HX1.out.trans hx2)
      clear hx2 HO d0 d1 d2 d3
      go_wp2
      go_ret2
      rw [HT.out, HB.out]
      exact ⟨none, 0, rfl, HX2.out, FreshAt.none1, Nat.le_refl _⟩
    · obtain ⟨c0, ec, hc0⟩ := open_nat hb
      subst ec
      have hc := rule_ctls ha
      have hm := (ctls_map hc).1
      have h10 := (ctls_map hc).2
      have HB : Hid (grB m xs r c0 = true) := Lib.hid (by rw [HBF.out, ha, hb]; rfl)
      have HT : Hid (grT m xs r c0 = grL m xs r.lim c0 8 [] c0) := Lib.hid (by rw [HTF.out, HB.out]; rfl)
      have HCR := Lib.hid (fun y (hx : Ext w y) => impl_canReach (w := y) (ac := ac) (bc := bc) (cap := cap) (h.ext hx) hc hnil hc0)
      have HTT := Lib.hid (fun y (hx : Ext w y) (cs : List Int) (qo : Option Addr) (qc : Nat) (hq : RowAt y qo 1 cs.length (ic cs)) (hl : cs.length ≤ 20) (ho : ofB xs cs = true) => impl_tourTime (w := y) (ac := ac) (bc := bc) (cap := cap) (qc := qc) (h.ext hx) hc hq hl ho hc0)
      have HSITE := Lib.hid h
      rw [hb] at HO
      unfold MapD.val at HA HO HCR HTT ⊢
      unfold RuleD.val at HA ⊢
      clear ha hb h hp hn hnil
      obtain ⟨d0, d1, d2, d3⟩ := hbm
      go_enter Try.func25, Try.ntmps25
      go_wp2_with fail
      refine (HA.out _ hx0).mono ?_; rintro e w1 ⟨rfl, hx1⟩
      have HX1 := Lib.hid (hx0.trans hx1)
      have d0 := hx1.cells d0
      have d1 := hx1.cells d1
      have d2 := hx1.cells d2
      have d3 := hx1.cells d3
      have r1 := hx1.cells r1
      clear hx1 hx0 HA r0 r2
      go_wp2_with fail
      refine (HO.out _ HX1.out).mono ?_; rintro e w2 ⟨rfl, hx2⟩
      have HX2 := Lib.hid (HX1.out.trans hx2)
      have d0 := hx2.cells d0
      have d1 := hx2.cells d1
      have d2 := hx2.cells d2
      have d3 := hx2.cells d3
      have r1 := hx2.cells r1
      have HBM2 : Hid (BoxM w2 w.heap.size m ao ac bo bc) := Lib.hid ⟨d0, d1, d2, d3⟩
      have HR2 := Lib.hid r1
      have hwl := World.block_lt_of_cell? _ _ r1
      simp only at hwl
      have hwl0 : w.heap.size < w2.heap.size := by omega
      clear hx2 HO
      go_wp2_with fail
      refine (HCR.out _ (HX2.out.alloc _)).mono ?_; rintro e w3 ⟨lo, lc, rfl, hx3, hL⟩
      have HX3 := Lib.hid ((HX2.out.alloc (.cells #[] 3)).trans hx3)
      have HEX3 := Lib.hid (Ext.trans ((Ext.refl w2).alloc (.cells #[] 3)) hx3)
      have HSZ3 := Lib.hid hx3.size
      have HF0 : Hid (w3.frozen? ⟨w2.heap.size, 0, none⟩ = false ∧ ∀ j, w3.frozen? ⟨w2.heap.size, j, none⟩ = false) := Lib.hid ⟨(hx3.frozenr _ _ (by simp)).trans (by go_simp), fun j => (hx3.frozenr _ _ (by simp)).trans (by go_simp)⟩
      have HL := Lib.hid hL
      have hw23 : w2.heap.size < w3.heap.size := by have := HSZ3.out; simp at this; omega
      have hw3 := HX3.out.size
      have hw2 := HX2.out.size
      clear hx3 d0 d1 d2 d3 r1 hL HCR
      go_wp2
      go_loopw [10, 12] (fun o l wr => ∃ (cs : List Int) (here f ob oc : Nat) (lo' : Option Addr) (lc' : Nat), o = .slice (some ⟨ob, 0, none⟩) cs.length oc ∧ l = .slice lo' (leftL m xs c0 cs).length lc' ∧ f + cs.length = 8 ∧ Hid (cs.length ≤ oc) ∧ grL m xs r.lim c0 f cs here = grL m xs r.lim c0 8 [] c0 ∧ GInv m xs c0 cs here ∧ Ext w2 wr ∧ FreshAt w2.heap.size wr (some ⟨ob, 0, none⟩) 1 cs.length (ic cs) ∧ ob ≠ w3.heap.size ∧ BoxI wr w3.heap.size here ∧ LeftAt w2.heap.size w3.heap.size wr lo' lc' (leftL m xs c0 cs) ob) (fun o _ _ => 8 - (match o with | .slice _ n _ => n | _ => 0))
      case atStart =>
        have hxs : Ext w3 (w3.alloc (.cells #[.int .i64 (c0 : Nat)] 3)) := (Ext.refl w3).alloc _
        refine ⟨[], c0, 8, w2.heap.size, 0, lo, lc, rfl, rfl, rfl, Lib.hid (Nat.le_refl _), rfl, GInv.start hc0, HEX3.out.trans hxs, ⟨fun h => absurd h (by simp), fun a e => ?_, fun b off e => ?_⟩, by omega, ⟨by go_simp, by go_simp, by simp⟩, ?_⟩
        · injection e with e; subst e
          have := hxs.size
          simp only
          omega
        · injection e with e; injection e with e1 e2; subst e1
          exact fun j => (hxs.frozenr _ _ hw23).trans (HF0.out.2 j)
        · rcases HL.out with ⟨_, _, e⟩ | ⟨g, e1, e2, e3, hF⟩
          · exact .inl e
          · have hb := hF.base _ rfl
            simp only [World.size_alloc] at hb
            have hF' := hF.ext hxs
            exact .inr ⟨g, e1, by omega, hb.2, by omega, e2, e3, hF'.row, fun a e => ⟨by have := (hF'.base a e).1; simp only [World.size_alloc] at this; omega, (hF'.base a e).2⟩, hF'.free⟩
      case round =>
        obtain ⟨cs, here, f, ob, oc, lo', lc', rfl, rfl, hf, HOC, hgr, hinv, hx, hFO, hoH, hbI, hleft⟩ := hrel
        have HGR := Lib.hid hgr
        have HX := Lib.hid hx
        have HINV := Lib.hid hinv
        have HFO := Lib.hid hFO
        have HBI := Lib.hid hbI
        rcases hinv.pick hc hc0 with ⟨hl0, _⟩ | ⟨hlp, k, hk, hfr, hpk, hmin⟩
        · have HE := Lib.hid (HT.out.trans (HGR.out.symm.trans (gr_empty hinv hc hc0 hl0)))
          have hl1 : ¬ (0 : Int) < ((leftL m xs c0 cs).length : Int) := by omega
          clear hinv hgr hx hFO hbI hleft hl0
          go_wp2
          go_ret2
          rw [HE.out, HB.out]
          exact ⟨some ⟨ob, 0, none⟩, oc, rfl, HX2.out.trans HX.out, HFO.out.low hw2, HOC.out⟩
        · have hl1 : (0 : Int) < ((leftL m xs c0 cs).length : Int) := by omega
          by_cases h8 : cs.length < 8
          · have h8i : (cs.length : Int) < 8 := by omega
            obtain ⟨f, rfl⟩ : ∃ f', f = f' + 1 := ⟨f - 1, by omega⟩
            rcases hleft with hl0 | ⟨g, rfl, hg1, hg2, hog, hlc, hlm, hF⟩
            · omega
            have hXk := cellN_lt hc hk
            have hEv : ∀ i, i < xs.length → (nth xs i).val = .agg #[.int .i64 (nth xs i).code, .int .i64 (cellN (nth xs i) : Nat)] := fun i hi => by rw [← (cellN_lt hc hi).1]; rfl
            have HMF := Lib.hid (minFunc_Ctl (w := wr) (cap := lc') (xs := leftL m xs c0 cs) (F := 67) (caps := #[.pointer (some ⟨w.heap.size, 0, none⟩), .pointer (some ⟨w3.heap.size, 0, none⟩)]) (o := lexO (dist m here)) (q := lexQ (dist m here)) hF.row (by omega) hlp (entersF_of Try.func67 (by kernel_rfl) rfl) (lexO_less _) (fun x y w' hxy hx' => by
              obtain ⟨i, hi, rfl⟩ := left_mem hxy.1
              obtain ⟨j, hj, rfl⟩ := left_mem hxy.2
              rw [hEv i hi, hEv j hj]
              exact impl_GreedyTour_1 (HSITE.out.rise.ext (HX2.out.trans (hx.trans hx'))) (HSITE.out.cost.ext (HX2.out.trans (hx.trans hx'))) hm (HBM2.out.ext (hx.trans hx')) (hx'.cells hbI.c) hinv.lt (cellN_lt hc hi).2 (cellN_lt hc hj).2))
            rw [hmin, hEv k hk] at HMF
            have HNX := Lib.hid (hinv.step hc hk hfr)
            have HGN := Lib.hid (gr_next (lim := r.lim) (c0 := c0) (f := f) hpk)
            have HLS := Lib.hid (left_step (c0 := c0) (cs := cs) hc hk)
            have HF := Lib.hid hF
            generalize hX : nth xs k = X at *
            have HXV := Lib.hid hX
            clear hinv hfr hgr hx hFO hbI hmin hpk hX hEv hF
            go_wp2_with fail
            refine HMF.out.mono ?_; rintro e w4 ⟨rfl, hx4⟩
            have HX4 := Lib.hid hx4
            clear hx4 HMF
            have hbx : BoxC (w4.alloc (.cells #[.int .i64 X.code, .int .i64 (cellN X : Nat)] 75)) w4.heap.size X := ⟨by go_simp, by rw [hXk.1]; go_simp, fun j => by go_simp, by simp⟩
            have HBX := Lib.hid hbx
            have HW5 := Lib.hid ((Ext.refl w4).alloc (.cells #[.int .i64 X.code, .int .i64 (cellN X : Nat)] 75))
            have hsz4 := HX4.out.size
            have hszr := HBI.out.lt
            have hsz5 : w4.heap.size < (w4.alloc (.cells #[.int .i64 X.code, .int .i64 (cellN X : Nat)] 75)).heap.size := by simp
            have hszx := HX.out.size
            clear hbx
            go_upto_region 6 with fail
            generalize (w4.alloc (.cells #[.int .i64 X.code, .int .i64 (cellN X : Nat)] 75)) = W5 at HBX HW5 hsz5 ⊢
            have HYY := Lib.hid (HX4.out.trans HW5.out)
            have e0 := HBX.out.c0
            have HROW := Lib.hid (HFO.out.row.ext HYY.out)
            obtain ⟨N, hN⟩ : ∃ N, N = cs ++ [X.code] := ⟨_, rfl⟩
            rw [← hN] at HNX HGN HLS
            have HNL := Lib.hid hN; clear hN
            go_cut [14] (fun v wc => ∃ mb mc, v = .slice (some ⟨mb, 0, none⟩) N.length mc ∧ Ext W5 wc ∧ FreshAt W5.heap.size wc (some ⟨mb, 0, none⟩) 1 N.length (ic N) ∧ N.length ≤ mc)
            case first =>
              have HCP := Lib.hid (fun x (hx2 : Ext W5 x) => impl_copyInts (w := x) (cap := oc) (HROW.out.ext hx2) (by omega))
              generalize X.code = cd at *
              clear hXk
              go_region_law (first
                | (go_simp; go_at_call 71; (with_reducible refine Calls.mono (HCP.out _ (by repeat (first | (with_reducible exact Ext.refl _) | (with_reducible assumption) | with_reducible refine Ext.drew ?_ | with_reducible refine Ext.alloc ?_ _ | with_reducible refine Ext.setCell ?_ (by first | (simp; done) | (simp; omega) | omega) _ | with_reducible refine Ext.trans ?_ (by with_reducible assumption)))) ?_); rintro e w6 ⟨g1, c1, rfl, hx6, ho6⟩; (have e0 := hx6.cells (show World.cell? _ ⟨w4.heap.size, 0, none⟩ = some (.int .i64 cd) by go_simp)); (have HO6 := Lib.hid ho6; have HX6 := Lib.hid (show Ext W5 w6 from (by repeat (first | (with_reducible exact Ext.refl _) | (with_reducible assumption) | with_reducible refine Ext.drew ?_ | with_reducible refine Ext.alloc ?_ _ | with_reducible refine Ext.setCell ?_ (by first | (simp; done) | (simp; omega) | omega) _ | with_reducible refine Ext.trans ?_ (by with_reducible assumption)))); have HRL := Lib.hid (show RowAt (w6.alloc (.cells #[.int .i64 cd] 3)) (some ⟨w6.heap.size, 0, none⟩) 1 [cd].length (fun j => icc (nth [cd] j)) from row_lit (w := w6) (cs := #[.int .i64 cd]) (T := 3) (s := 1) (cc := icc) (x := cd) (by intro j hj; obtain rfl : j = 0 := (by omega); rfl))); have hz6 := hx6.size)
                | (refine step_append_bf (o := ⟨some 48, _, _, _, _, _⟩) rfl _ _ 22 rfl 3 j0 _ 1 8 Try.underlying22 HJ.out HY0.out HY1.out HY2.out rfl (by decide) icc icc_one W5.heap.size ?_ (.slice (some g1) cs.length c1) cs [cd] N HNL rfl ((HO6.out.down (by first | exact Nat.le_refl _ | simp)).ext' ((Ext.refl _).alloc _)) ⟨w6.heap.size, 0, none⟩ 1 1 rfl rfl HRL.out (by simp; omega) (by simp; omega) ?_; (have := HX6.out.size; simp; omega); intro go7 gc7 w7 ho7 hb7 hg7 hv7; have HX7 := Lib.hid (HX6.out.alloc (.cells #[.int .i64 cd] 3)))
                | (refine step_append_bf (o := ⟨some 48, _, _, _, _, _⟩) rfl _ _ 22 rfl 3 j0 _ 1 8 Try.underlying22 HJ.out HY0.out HY1.out HY2.out rfl (by decide) icc icc_one W5.heap.size ?_ (.slice (some g1) cs.length c1) cs [cd] N HNL rfl (HO6.out.down (by simp)) ⟨W5.heap.size, 0, none⟩ 1 1 rfl rfl (fun _ => ⟨W5.heap.size, 0, rfl, fun k hk j hj => by
                    obtain rfl : k = 0 := by simpa using hk
                    obtain rfl : j = 0 := by omega
                    exact hx6.cells (by go_simp; rfl)⟩) (by simp; omega) (by simp; omega) ?_; (have := HX6.out.size; omega); intro go7 gc7 w7 ho7 hb7 hg7 hv7; have HX7 := Lib.hid HX6.out))
              all_goals
                have HXD := Lib.hid (Ext.below HX7.out hb7 (Nat.le_refl _))
                have hfm := ho7.form
                rcases hfm with ⟨_, q⟩ | ⟨mb, mc, q, hlc7, _, hF7⟩
                · exact absurd (HNL.out.symm.trans q) (by simp)
                have HLC7 := Lib.hid hlc7
                clear hlc7
                injection q with q1 q2 q3
                subst q1 q3
                have HF7 := Lib.hid hF7
                clear ho7 hb7 hg7 hv7 hF7 q2
                go_wp2_with fail
                go_meet
                exact ⟨mb, gc7, rfl, HXD.out, HF7.out, HLC7.out⟩
            case rest =>
              obtain ⟨mb, mc, rfl, hx6, hF6, hlc6⟩ := hcut
              have HLC6 := Lib.hid hlc6
              clear hlc6
              have HX6 := Lib.hid hx6; have HF6 := Lib.hid hF6
              have hmb := hF6.base _ rfl
              simp only at hmb
              have hlc8 : N.length = cs.length + 1 := by rw [HNL.out, List.length_append]; rfl
              have HL8 := Lib.hid hlc8
              have HTC := Lib.hid (fun y (hy : Ext wc y) => HTT.out y (HX2.out.trans (HX.out.trans (HYY.out.trans (HX6.out.trans hy)))) N (some ⟨mb, 0, none⟩) mc (HF6.out.row.ext hy) (by omega) HNX.out.codes)
              have HXC := Lib.hid (HX.out.trans (HYY.out.trans HX6.out))
              obtain ⟨d0, d1, d2, d3⟩ := HBM2.out.ext HXC.out
              have r1 := HXC.out.cells HR2.out
              have k0 := Grow.cells d0
              have k1 := Grow.cells d1
              have k2 := Grow.cells d2
              have k3 := Grow.cells d3
              have k4 := Grow.cells r1
              obtain ⟨T, hT⟩ : ∃ T, T = wayT m c0 (tourW xs c0 N) := ⟨_, rfl⟩
              rw [← hT] at HTC HGN
              clear hx6 hF6 e0 HROW hlc8 hT
              by_cases hlt : r.lim < T
              · have HE := Lib.hid (HT.out.trans (HGR.out.symm.trans (HGN.out.trans (if_pos hlt))))
                have hld : decide (r.lim < T) = true := by simpa using hlt
                go_wp2
                refine wp_region_ext (by kernel_rfl) (by kernel_rfl) ?_
                repeat (go_big_quiet_step ((first | (go_at_call 56; with_reducible exact Calls.ext_of (HTC.out _ (Grow.h _))))))
                refine wpQuiet_nil ?_
                rintro _ ⟨⟨w1, hx1⟩, rfl⟩
                clear k0 k1 k2 k3 k4
                have HX7 := Lib.hid (HXC.out.trans hx1)
                have HFO7 := Lib.hid (HFO.out.ext (HYY.out.trans (HX6.out.trans hx1)))
                clear hx1 d0 d1 d2 d3 r1
                go_wp2
                go_ret2
                rw [HE.out, HB.out]
                exact ⟨some ⟨ob, 0, none⟩, oc, rfl, HX2.out.trans HX7.out, HFO7.out.low hw2, HOC.out⟩
              · have HGE := Lib.hid ((HGR.out.symm.trans (HGN.out.trans (if_neg hlt))).symm)
                have hld : decide (r.lim < T) = false := by simpa using hlt
                go_wp2
                refine wp_region_ext (by kernel_rfl) (by kernel_rfl) ?_
                repeat (go_big_quiet_step ((first | (go_at_call 56; with_reducible exact Calls.ext_of (HTC.out _ (Grow.h _))))))
                refine wpQuiet_nil ?_
                rintro _ ⟨⟨w1, hx1⟩, rfl⟩
                clear k0 k1 k2 k3 k4
                rename_i wd
                clear d0 d1 d2 d3 r1
                have HX7 := Lib.hid hx1
                have hz7 := hx1.size
                have HB7 := Lib.hid (HBX.out.ext (HX6.out.trans hx1))
                have HI7 := Lib.hid (HBI.out.ext (HYY.out.trans (HX6.out.trans hx1)))
                have e1 := HB7.out.c1
                have i0 := HI7.out.c
                have i1 := HI7.out.fr
                rw [hXk.1] at e1
                clear hx1
                go_wp2
                go_region
                go_wp2_with fail
                have HSX := Lib.hid (((HXC.out.trans HX7.out).setCell (p := ⟨w3.heap.size, 0, none⟩) (Nat.le_of_lt hw23) (.int .i64 (cellN X : Nat))).drew)
                have HSB := Lib.hid ((HB7.out.off (p := ⟨w3.heap.size, 0, none⟩) (by show w4.heap.size ≠ w3.heap.size; omega) (.int .i64 (cellN X : Nat))).ext ((Ext.refl _).drew))
                have HSI := Lib.hid ((HI7.out.put (cellN X)).ext ((Ext.refl _).drew))
                have HSF := Lib.hid (((HF.out.ext (HYY.out.trans (HX6.out.trans HX7.out))).setOff (p := ⟨w3.heap.size, 0, none⟩) (fun a e => by injection e with e; subst e; show g ≠ w3.heap.size; omega) (.int .i64 (cellN X : Nat))).ext ((Ext.refl _).drew))
                have HSN := Lib.hid (((HF6.out.ext HX7.out).setOff (p := ⟨w3.heap.size, 0, none⟩) (fun a e => by injection e with e; subst e; show mb ≠ w3.heap.size; omega) (.int .i64 (cellN X : Nat))).ext ((Ext.refl _).drew))
                generalize (wd.setCell ⟨w3.heap.size, 0, none⟩ (.int .i64 (cellN X : Nat))).drew = W9 at *
                have hll : (leftL m xs c0 cs).length ≤ xs.length := left_len
                have hdel := deleteFunc_Ctl (w := W9) (cap := lc') (p := fun c => decide (c.code = X.code) && decide (c.cell = X.cell)) (F := 73) (caps := #[.pointer (some ⟨w4.heap.size, 0, none⟩)]) HSF.out (by omega) hlc hlm (entersF_of Try.func73 (by kernel_rfl) rfl) (fun k hk w' hg => impl_GreedyTour_2 (HSB.out.grow hg (by omega)))
                rw [HLS.out] at hdel
                have HDEL := Lib.hid hdel
                have hl2 : (leftL m xs c0 N).length ≤ (leftL m xs c0 cs).length := by rw [← HLS.out]; exact List.length_filter_le _ _
                clear hdel
                refine HDEL.out.mono ?_; rintro e wf ⟨rfl, hg, hF9⟩
                have HG9 := Lib.hid hg; have HF9 := Lib.hid hF9
                clear hg hF9 HDEL
                go_wp2
                go_roundw
                case rel => exact ⟨N, cellN X, f, mb, mc, some ⟨g, 0, none⟩, lc', rfl, rfl, by have := HL8.out; omega, Lib.hid HLC6.out, HGE.out, HNX.out, grown_ext HSX.out HG9.out (fun k e => by injection e with e; omega), (HSN.out.grow HG9.out (by omega)).low (by omega), by omega, HSI.out.grow HG9.out (by omega), .inr ⟨g, rfl, hg1, hg2, by omega, by omega, hlm, HF9.out⟩⟩
                case measure => have := HL8.out; show 8 - N.length < 8 - cs.length; omega
          · have h8i : ¬ (cs.length : Int) < 8 := by omega
            obtain rfl : f = 0 := by omega
            have HE := Lib.hid (HT.out.trans HGR.out.symm)
            clear hinv hfr hgr hx hFO hbI hleft hmin hpk
            go_wp2
            go_ret2
            rw [HE.out, HB.out]
            exact ⟨some ⟨ob, 0, none⟩, oc, rfl, HX2.out.trans HX.out, HFO.out.low hw2, HOC.out⟩

theorem impl_GreedyTour {m : MapD} {ao bo : Option Addr} {ac bc : Nat} {xs : List Ctl} {co : Option Addr} {cap : Nat} {r : RuleD} {po : Option Addr} {pc : Nat} {center : Int} {w : World} (h : Site w m ao bo xs co cap) (hp : RowAt w po 1 r.pts.length (ic r.pts)) (hn : r.pts.length ≤ 9223372036854775807) (hnil : co = none → cap = 0) :
    Calls Try.prog 25 #[m.val ao ac bo bc, .slice co xs.length cap, r.val po pc, .int .i64 center] w (ResN w (grT m xs r center) (grB m xs r center)) :=
  (impl_GreedyTourC h hp hn hnil).mono fun _ _ ⟨b, c, e, hx, hF, _⟩ => ⟨b, c, e, hx, hF⟩


theorem enc1_yes {x : Int} (h : x < NT) : enc1 x = x := if_pos h
theorem enc1_no {x : Int} (h : ¬ x < NT) : enc1 x = -1 := if_neg h
theorem pkI_step (m : MapD) (xs : List Ctl) (here : Nat) (cs : List Int) (k : Nat) :
    pkI m xs here cs (k + 1) = if frB m here cs (nth xs k) && (decide ((pkI m xs here cs k).2 < 0) || decide (dist m here (nth xs k) < (pkI m xs here cs k).2)) then ((k : Int), dist m here (nth xs k)) else pkI m xs here cs k := rfl
theorem frozen_new (w : World) (c : Array Value) (e : TypeId) (j : Nat) : (w.alloc (.cells c e)).frozen? ⟨w.heap.size, j, none⟩ = false := by go_simp
theorem frB_eq (m : MapD) (here : Nat) (cs : List Int) (c : Ctl) : frB m here cs c = (!hasI cs cs.length c.code && decide (dist m here c < NT)) := rfl

set_option maxRecDepth 100000 in
set_option maxHeartbeats 4000000 in
theorem spec_GreedyTour {m : MapD} {ao bo : Option Addr} {ac bc : Nat} {xs : List Ctl} {co : Option Addr} {cap : Nat} {r : RuleD} {po : Option Addr} {pc : Nat} {center : Int} {w : World} (h : Site w m ao bo xs co cap) (hp : RowAt w po 1 r.pts.length (ic r.pts)) (hn : r.pts.length ≤ 9223372036854775807) :
    Calls Try.prog 24 #[m.val ao ac bo bc, .slice co xs.length cap, r.val po pc, .int .i64 center] w (ResN w (grT m xs r center) (grB m xs r center)) := by
  have hx0 : Ext w (((w.alloc (.cells #[.int .i64 m.wid, .int .i64 m.hei, .slice ao m.rise.length ac, .slice bo m.cost.length bc] 30)).alloc (.cells #[.slice po r.pts.length pc, .int .i64 r.lim, .int .i64 r.pen] 43)).alloc (.cells #[] 3)) := (((Ext.refl w).alloc _).alloc _).alloc _
  have hbm : BoxM (((w.alloc (.cells #[.int .i64 m.wid, .int .i64 m.hei, .slice ao m.rise.length ac, .slice bo m.cost.length bc] 30)).alloc (.cells #[.slice po r.pts.length pc, .int .i64 r.lim, .int .i64 r.pen] 43)).alloc (.cells #[] 3)) w.heap.size m ao ac bo bc := ⟨by go_simp, by go_simp, by go_simp, by go_simp⟩
  have r0 : (((w.alloc (.cells #[.int .i64 m.wid, .int .i64 m.hei, .slice ao m.rise.length ac, .slice bo m.cost.length bc] 30)).alloc (.cells #[.slice po r.pts.length pc, .int .i64 r.lim, .int .i64 r.pen] 43)).alloc (.cells #[] 3)).cell? ⟨w.heap.size + 1, 0, none⟩ = some (.slice po r.pts.length pc) := by go_simp
  have r1 : (((w.alloc (.cells #[.int .i64 m.wid, .int .i64 m.hei, .slice ao m.rise.length ac, .slice bo m.cost.length bc] 30)).alloc (.cells #[.slice po r.pts.length pc, .int .i64 r.lim, .int .i64 r.pen] 43)).alloc (.cells #[] 3)).cell? ⟨w.heap.size + 1, 1, none⟩ = some (.int .i64 r.lim) := by go_simp
  have r2 : (((w.alloc (.cells #[.int .i64 m.wid, .int .i64 m.hei, .slice ao m.rise.length ac, .slice bo m.cost.length bc] 30)).alloc (.cells #[.slice po r.pts.length pc, .int .i64 r.lim, .int .i64 r.pen] 43)).alloc (.cells #[] 3)).cell? ⟨w.heap.size + 1, 2, none⟩ = some (.int .i64 r.pen) := by go_simp
  have hfe : ∀ y, Ext (((w.alloc (.cells #[.int .i64 m.wid, .int .i64 m.hei, .slice ao m.rise.length ac, .slice bo m.cost.length bc] 30)).alloc (.cells #[.slice po r.pts.length pc, .int .i64 r.lim, .int .i64 r.pen] 43)).alloc (.cells #[] 3)) y → FreshAt w.heap.size y (some ⟨w.heap.size + 1 + 1, 0, none⟩) 1 ([] : List Int).length (ic []) := fun y hy => ⟨fun h => absurd h (by simp), fun a e => by
    injection e with e; subst e
    have := hy.size
    simp only [World.size_alloc] at this ⊢
    omega, fun b off e j => by
    injection e with e; injection e with e1 e2; subst e1
    rw [show w.heap.size + 1 + 1 = ((w.alloc (.cells #[.int .i64 m.wid, .int .i64 m.hei, .slice ao m.rise.length ac, .slice bo m.cost.length bc] 30)).alloc (.cells #[.slice po r.pts.length pc, .int .i64 r.lim, .int .i64 r.pen] 43)).heap.size by simp]
    exact (hy.frozenr _ _ (by simp only [World.size_alloc]; omega)).trans (frozen_new _ _ _ _)⟩
  have hsw : w.heap.size + 1 + 1 < (((w.alloc (.cells #[.int .i64 m.wid, .int .i64 m.hei, .slice ao m.rise.length ac, .slice bo m.cost.length bc] 30)).alloc (.cells #[.slice po r.pts.length pc, .int .i64 r.lim, .int .i64 r.pen] 43)).alloc (.cells #[] 3)).heap.size := by simp
  have HFE := Lib.hid hfe; have HSW := Lib.hid hsw
  clear hfe hsw
  have HA := Lib.hid (fun y (hx : Ext w y) => spec_l17Rule (w := y) (ac := ac) (bc := bc) (cap := cap) (pc := pc) (h.ext hx) (hp.ext hx) hn)
  have HBF : Hid (grB m xs r center = (ruleB m xs r && openB m center)) := Lib.hid rfl
  have HTF : Hid (grT m xs r center = if grB m xs r center then grL m xs r.lim center.toNat 8 [] center.toNat else []) := Lib.hid rfl
  unfold MapD.val at *
  unfold RuleD.val at *
  cases ha : ruleB m xs r
  · have HB : Hid (grB m xs r center = false) := Lib.hid (by rw [HBF.out, ha]; rfl)
    have HT : Hid (grT m xs r center = []) := Lib.hid (by rw [HTF.out, HB.out]; rfl)
    rw [ha] at HA
    clear ha h hp
    go_enter Try.func24, Try.ntmps24
    go_wp2_with fail
    refine (HA.out _ hx0).mono ?_; rintro e w1 ⟨rfl, hx1⟩
    have HX1 := Lib.hid (hx0.trans hx1)
    have HF1 := Lib.hid (HFE.out _ hx1)
    clear hx1 hx0 HA hbm r0 r1 r2 HFE
    go_wp2
    go_ret2
    rw [HT.out, HB.out]
    exact ⟨some ⟨w.heap.size + 1 + 1, 0, none⟩, 0, rfl, HX1.out, HF1.out⟩
  · rw [ha] at HA
    have hc := rule_ctls ha
    have hm := (ctls_map hc).1
    have h10 := (ctls_map hc).2
    have HO := Lib.hid (fun y (hx : Ext w y) => spec_l2Open (w := y) (ao := ao) (ac := ac) (bc := bc) (x := center) hm (h.cost.ext hx))
    unfold MapD.val at HO
    obtain ⟨d0, d1, d2, d3⟩ := hbm
    cases hb : openB m center
    · have HB : Hid (grB m xs r center = false) := Lib.hid (by rw [HBF.out, hb, Bool.and_false])
      have HT : Hid (grT m xs r center = []) := Lib.hid (by rw [HTF.out, HB.out]; rfl)
      rw [hb] at HO
      clear ha hb h hp
      go_enter Try.func24, Try.ntmps24
      go_wp2_with fail
      refine (HA.out _ hx0).mono ?_; rintro e w1 ⟨rfl, hx1⟩
      have HX1 := Lib.hid (hx0.trans hx1)
      have HY1 := Lib.hid hx1
      have d0 := hx1.cells d0
      have d1 := hx1.cells d1
      have d2 := hx1.cells d2
      have d3 := hx1.cells d3
      clear hx1 hx0 HA r0 r1 r2
      go_wp2_with fail
      refine (HO.out _ HX1.out).mono ?_; rintro e w2 ⟨rfl, hx2⟩
      have HX2 := Lib.hid (HX1.out.trans hx2)
      have HF2 := Lib.hid (HFE.out _ (HY1.out.trans hx2))
      clear hx2 HO d0 d1 d2 d3 HFE
      go_wp2
      go_ret2
      rw [HT.out, HB.out]
      exact ⟨some ⟨w.heap.size + 1 + 1, 0, none⟩, 0, rfl, HX2.out, HF2.out⟩
    · obtain ⟨c0, ec, hc0⟩ := open_nat hb
      subst ec
      have HB : Hid (grB m xs r c0 = true) := Lib.hid (by rw [HBF.out, ha, hb]; rfl)
      have HT : Hid (grT m xs r c0 = grL m xs r.lim c0 8 [] c0) := Lib.hid (by rw [HTF.out, HB.out]; rfl)
      have HTO := Lib.hid (fun y b (hx : Ext w y) hb => spec_l4To (w := y) (ac := ac) (bc := bc) (b := b) (h.rise.ext hx) (h.cost.ext hx) hm hb)
      have HTT := Lib.hid (fun y (hx : Ext w y) (cs : List Int) (qo : Option Addr) (qc : Nat) (hq : RowAt y qo 1 cs.length (ic cs)) (hl : cs.length ≤ 20) (ho : ofB xs cs = true) => spec_l17Time (w := y) (ac := ac) (bc := bc) (cap := cap) (qc := qc) (h.ext hx) hc hq hl ho hc0)
      have HSITE := Lib.hid h
      obtain ⟨j0, hj, hy0, hy1, hy2⟩ := info_parts infoInt
      have HJ := Lib.hid hj; have HY0 := Lib.hid hy0; have HY1 := Lib.hid hy1; have HY2 := Lib.hid hy2
      clear hj hy0 hy1 hy2
      rw [hb] at HO
      unfold MapD.val at HTO HTT
      clear ha hb h hp hn HBF HTF
      go_enter Try.func24, Try.ntmps24
      go_wp2_with fail
      refine (HA.out _ hx0).mono ?_; rintro e w1 ⟨rfl, hx1⟩
      have HX1 := Lib.hid (hx0.trans hx1)
      have HE1 := Lib.hid hx1
      have d0 := hx1.cells d0
      have d1 := hx1.cells d1
      have d2 := hx1.cells d2
      have d3 := hx1.cells d3
      have r1 := hx1.cells r1
      clear hx1 hx0 HA r0 r2
      go_wp2_with fail
      refine (HO.out _ HX1.out).mono ?_; rintro e w2 ⟨rfl, hx2⟩
      have HX2 := Lib.hid (HX1.out.trans hx2)
      have HF2 := Lib.hid (HFE.out _ (HE1.out.trans hx2))
      have HBM2 : Hid (BoxM w2 w.heap.size m ao ac bo bc) := Lib.hid ⟨hx2.cells d0, hx2.cells d1, hx2.cells d2, hx2.cells d3⟩
      have HR2 := Lib.hid (hx2.cells r1)
      have hwl := World.block_lt_of_cell? _ _ HR2.out
      simp only at hwl
      clear hx2 HO d0 d1 d2 d3 r1 HFE HE1 HX1
      go_wp2
      go_loopw [10, 11] (fun o l wr => ∃ (cs : List Int) (here f ob oc : Nat), o = .slice (some ⟨ob, 0, none⟩) cs.length oc ∧ l = .int .i64 (here : Nat) ∧ f + cs.length = 8 ∧ grL m xs r.lim c0 f cs here = grL m xs r.lim c0 8 [] c0 ∧ GInv m xs c0 cs here ∧ Ext w2 wr ∧ FreshAt w.heap.size wr (some ⟨ob, 0, none⟩) 1 cs.length (ic cs)) (fun o _ _ => 8 - (match o with | .slice _ n _ => n | _ => 0))
      case atStart => exact ⟨[], c0, 8, w.heap.size + 1 + 1, 0, rfl, rfl, rfl, rfl, GInv.start hc0, Ext.refl _, HF2.out⟩
      case round =>
        obtain ⟨cs, here, f, ob, oc, rfl, rfl, hf, hgr, hinv, hx, hFO⟩ := hrel
        have HGR := Lib.hid hgr
        have HX := Lib.hid hx
        have HINV := Lib.hid hinv
        have HFO := Lib.hid hFO
        have hh := hinv.lt
        clear hgr hinv hx hFO
        by_cases h8 : cs.length < 8
        · have h8i : (cs.length : Int) < 8 := by omega
          obtain ⟨f, rfl⟩ : ∃ f', f = f' + 1 := ⟨f - 1, by omega⟩
          have HPZ : Hid (pkI m xs here cs 0 = (-1, -1)) := Lib.hid rfl
          go_wp2
          go_loopw [12, 13, 14] (fun b l i wq => ∃ k : Nat, k ≤ xs.length ∧ i = .int .i64 k ∧ b = .int .i64 (pkI m xs here cs k).1 ∧ l = .int .i64 (pkI m xs here cs k).2 ∧ Ext wr wq) (fun _ _ i _ => xs.length - (intOf i).toNat)
          case atStart => exact ⟨0, Nat.zero_le _, rfl, by rw [HPZ.out], by rw [HPZ.out], Ext.refl _⟩
          case round =>
            obtain ⟨k, hk, rfl, rfl, rfl, hxq⟩ := hrel
            have HXQ := Lib.hid hxq
            clear hxq
            by_cases hlt : k < xs.length
            · have hXk := cellN_lt hc hlt
              have HXW := Lib.hid (HX2.out.trans (HX.out.trans HXQ.out))
              obtain ⟨lb, loff, rfl, hcell⟩ := HSITE.out.ctls (by omega)
              have q0 := HXW.out.cells (hcell k hlt 0 (by decide))
              have q1 := HXW.out.cells (hcell k hlt 1 (by decide))
              simp only [Ctl.c0, Ctl.c1, Nat.add_zero] at q0 q1
              rw [hXk.1] at q1
              have HTQ := Lib.hid (fun y (hy : Ext wr y) => HTO.out y (cellN (nth xs k)) (HXW.out.trans hy) hXk.2)
              have HGET := Lib.hid (fun (y : World) (B : Nat) (hr : RowAt y (some ⟨B, 0, none⟩) 1 m.cost.length (ic (encL (timL m (cellN (nth xs k)))))) => show y.cell? ⟨B, here, none⟩ = some (.int .i64 (enc1 (dist m here (nth xs k)))) from by
                obtain ⟨b', off', e, H⟩ := hr (by omega)
                injection e with e; injection e with e1 e2; subst e1 e2
                have h1 := H here hh 0 (by decide)
                rw [show 0 + here * 1 + 0 = here by omega] at h1
                rw [h1, ic, encL_nth (by rw [(timL_ok hm hXk.2).len]; exact hh)]; rfl)
              have HHAS := Lib.hid (fun y (hy : Ext wr y) => spec_l1Has (w := y) (cap := oc) (n := cs.length) (v := (nth xs k).code) (HFO.out.row.ext (HXQ.out.trans hy)) (by omega))
              have hstep := pkI_step m xs here cs k
              rw [frB_eq] at hstep
              have hD0 := (dist_bd hc hh (nth_in hlt)).1
              obtain ⟨p0, p1, p2, p3⟩ := HBM2.out.ext (HX.out.trans HXQ.out)
              have pl0 := World.block_lt_of_cell? _ _ p0
              have hk0 : (0 : Int) ≤ (k : Int) := by omega
              have hk1 : (k : Int) < (xs.length : Int) := by omega
              have hh0 : (0 : Int) ≤ (here : Int) := by omega
              have hh1 : (here : Int) < (m.cost.length : Int) := by omega
              generalize hb1 : (pkI m xs here cs k).1 = pb at *
              generalize hb2 : (pkI m xs here cs k).2 = pl at *
              have HB1 := Lib.hid hb1; have HB2 := Lib.hid hb2
              clear hb1 hb2
              generalize hasI cs cs.length (nth xs k).code = Hb at *
              by_cases hfin : dist m here (nth xs k) < NT
              · rw [enc1_yes hfin] at HGET
                rw [decide_eq_true hfin, Bool.and_true] at hstep
                have HSTEP := Lib.hid hstep
                have hnn : ¬ dist m here (nth xs k) < 0 := by omega
                generalize dist m here (nth xs k) = D at *
                generalize (nth xs k).code = cd at *
                generalize cellN (nth xs k) = cq at *
                clear hcell hXk hstep hfin
                go_upto_region 10 with fail
                go_cut [15] (fun v wc => v = .int .i64 D ∧ Ext wr wc)
                case first =>
                  go_region_law (first | (go_simp; go_at_call 61; (with_reducible refine Calls.mono (HTQ.out _ (by repeat (first | (with_reducible exact Ext.refl _) | (with_reducible assumption) | with_reducible refine Ext.drew ?_ | with_reducible refine Ext.alloc ?_ _ | with_reducible refine Ext.setCell ?_ (by first | (simp; done) | (simp; omega) | omega) _ | with_reducible refine Ext.trans ?_ (by with_reducible assumption)))) ?_); rintro e w3 ⟨B, gc, rfl, hx3, hF⟩; (have d1 := HGET.out _ _ hF.row; have HX3 := Lib.hid (show Ext wr w3 from (by repeat (first | (with_reducible exact Ext.refl _) | (with_reducible assumption) | with_reducible refine Ext.drew ?_ | with_reducible refine Ext.alloc ?_ _ | with_reducible refine Ext.setCell ?_ (by first | (simp; done) | (simp; omega) | omega) _ | with_reducible refine Ext.trans ?_ (by with_reducible assumption)))))))
                  all_goals
                    go_wp2_with fail
                    go_meet
                    exact ⟨rfl, HX3.out⟩
                case rest =>
                obtain ⟨rfl, hx3⟩ := hcut
                rename_i w3
                have HX3 := Lib.hid hx3
                have q0 := hx3.cells q0
                clear q1 p0 p1 p2 p3 hx3
                go_wp2_with fail
                refine (HHAS.out _ (HX3.out)).mono ?_; rintro e w4 ⟨rfl, hx4⟩
                have HX4 := Lib.hid (HXQ.out.trans (HX3.out.trans hx4))
                clear hx4 q0
                cases Hb
                · by_cases hl1 : pl < 0
                  · have HS : Hid (pkI m xs here cs (k + 1) = ((k : Int), D)) := Lib.hid (by rw [HSTEP.out, decide_eq_true hl1]; rfl)
                    go_wp2
                    go_roundw
                    case rel => exact ⟨k + 1, by omega, by go_num, by rw [HS.out], by rw [HS.out], HX4.out⟩
                    case measure => simp [intOf] <;> omega
                  · by_cases hl2 : D < pl
                    · have HS : Hid (pkI m xs here cs (k + 1) = ((k : Int), D)) := Lib.hid (by rw [HSTEP.out, decide_eq_true hl2, Bool.or_true]; rfl)
                      go_wp2
                      go_roundw
                      case rel => exact ⟨k + 1, by omega, by go_num, by rw [HS.out], by rw [HS.out], HX4.out⟩
                      case measure => simp [intOf] <;> omega
                    · have HS : Hid (pkI m xs here cs (k + 1) = pkI m xs here cs k) := Lib.hid (by rw [HSTEP.out, decide_eq_false hl1, decide_eq_false hl2]; rfl)
                      go_wp2
                      go_roundw
                      case rel => exact ⟨k + 1, by omega, by go_num, by rw [HS.out, HB1.out], by rw [HS.out, HB2.out], HX4.out⟩
                      case measure => simp [intOf] <;> omega
                · have HS : Hid (pkI m xs here cs (k + 1) = pkI m xs here cs k) := Lib.hid (by rw [HSTEP.out]; rfl)
                  go_wp2
                  go_roundw
                  case rel => exact ⟨k + 1, by omega, by go_num, by rw [HS.out, HB1.out], by rw [HS.out, HB2.out], HX4.out⟩
                  case measure => simp [intOf] <;> omega
              · rw [enc1_no hfin] at HGET
                rw [decide_eq_false hfin, Bool.and_false, Bool.false_and] at hstep
                have HS : Hid (pkI m xs here cs (k + 1) = pkI m xs here cs k) := Lib.hid (by rw [hstep]; rfl)
                generalize (nth xs k).code = cd at *
                generalize cellN (nth xs k) = cq at *
                clear hcell hXk hstep hfin hD0
                go_upto_region 10 with fail
                go_cut [15] (fun v wc => v = .int .i64 (-1) ∧ Ext wr wc)
                case first =>
                  go_region_law (first | (go_simp; go_at_call 61; (with_reducible refine Calls.mono (HTQ.out _ (by repeat (first | (with_reducible exact Ext.refl _) | (with_reducible assumption) | with_reducible refine Ext.drew ?_ | with_reducible refine Ext.alloc ?_ _ | with_reducible refine Ext.setCell ?_ (by first | (simp; done) | (simp; omega) | omega) _ | with_reducible refine Ext.trans ?_ (by with_reducible assumption)))) ?_); rintro e w3 ⟨B, gc, rfl, hx3, hF⟩; (have d1 := HGET.out _ _ hF.row; have HX3 := Lib.hid (show Ext wr w3 from (by repeat (first | (with_reducible exact Ext.refl _) | (with_reducible assumption) | with_reducible refine Ext.drew ?_ | with_reducible refine Ext.alloc ?_ _ | with_reducible refine Ext.setCell ?_ (by first | (simp; done) | (simp; omega) | omega) _ | with_reducible refine Ext.trans ?_ (by with_reducible assumption)))))))
                  all_goals
                    go_wp2_with fail
                    go_meet
                    exact ⟨rfl, HX3.out⟩
                case rest =>
                obtain ⟨rfl, hx3⟩ := hcut
                rename_i w3
                have HX3 := Lib.hid hx3
                have q0 := hx3.cells q0
                clear q1 p0 p1 p2 p3 hx3
                go_wp2_with fail
                refine (HHAS.out _ (HX3.out)).mono ?_; rintro e w4 ⟨rfl, hx4⟩
                have HX4 := Lib.hid (HXQ.out.trans (HX3.out.trans hx4))
                clear hx4 q0
                cases Hb
                · go_wp2
                  go_roundw
                  case rel => exact ⟨k + 1, by omega, by go_num, by rw [HS.out, HB1.out], by rw [HS.out, HB2.out], HX4.out⟩
                  case measure => simp [intOf] <;> omega
                · go_wp2
                  go_roundw
                  case rel => exact ⟨k + 1, by omega, by go_num, by rw [HS.out, HB1.out], by rw [HS.out, HB2.out], HX4.out⟩
                  case measure => simp [intOf] <;> omega
            · obtain rfl : k = xs.length := by omega
              have hkn : ¬ (xs.length : Int) < (xs.length : Int) := by omega
              rcases HINV.out.pick hc hc0 with ⟨hl0, hpk⟩ | ⟨_, k0, hk0, hfr, hpk, _⟩
              · have HE := Lib.hid (HT.out.trans (HGR.out.symm.trans (gr_empty HINV.out hc hc0 hl0)))
                generalize hb1 : (pkI m xs here cs xs.length).1 = pb at *
                generalize hb2 : (pkI m xs here cs xs.length).2 = pl at *
                obtain rfl : pb = -1 := by rw [← hb1, hpk]
                clear hb1 hb2 hpk hl0
                go_wp2
                go_ret2
                rw [HE.out, HB.out]
                have HF9 := HFO.out.ext HXQ.out
                exact ⟨some ⟨ob, 0, none⟩, oc, rfl, HX2.out.trans (HX.out.trans HXQ.out), HF9⟩
              · have HNX := Lib.hid (HINV.out.step hc hk0 hfr)
                have HGN := Lib.hid (gr_next (lim := r.lim) (c0 := c0) (f := f) hpk)
                have hXk := cellN_lt hc hk0
                have HXW := Lib.hid (HX2.out.trans (HX.out.trans HXQ.out))
                obtain ⟨lb, loff, rfl, hcell⟩ := HSITE.out.ctls (by omega)
                have q0 := HXW.out.cells (hcell k0 hk0 0 (by decide))
                have q1 := HXW.out.cells (hcell k0 hk0 1 (by decide))
                simp only [Ctl.c0, Ctl.c1, Nat.add_zero] at q0 q1
                rw [hXk.1] at q1
                generalize hb1 : (pkI m xs here cs xs.length).1 = pb at *
                generalize hb2 : (pkI m xs here cs xs.length).2 = pl at *
                obtain rfl : pb = (k0 : Int) := by rw [← hb1, hpk]
                have hk2 : ¬ (k0 : Int) < 0 := by omega
                have hk3 : (0 : Int) ≤ (k0 : Int) := by omega
                have hk1 : (k0 : Int) < (xs.length : Int) := by omega
                have hqs := World.block_lt_of_cell? _ _ q0
                simp only at hqs
                generalize hX : nth xs k0 = X at *
                clear hb1 hb2 hpk hfr hcell hX
                have HROW := Lib.hid (HFO.out.row.ext HXQ.out)
                obtain ⟨N, hN⟩ : ∃ N, N = cs ++ [X.code] := ⟨_, rfl⟩
                rw [← hN] at HNX HGN
                have HNL := Lib.hid hN; clear hN
                go_upto_region 17 with fail
                go_cut [16] (fun v wc => ∃ mb mc, v = .slice (some ⟨mb, 0, none⟩) N.length mc ∧ Ext wr wc ∧ FreshAt wr.heap.size wc (some ⟨mb, 0, none⟩) 1 N.length (ic N))
                case first =>
                  have HCP := Lib.hid (fun x (hx2 : Ext wr x) => spec_l1Own (w := x) (cap := oc) (HROW.out.ext hx2) (by omega))
                  generalize X.code = cd at *
                  clear hXk q1
                  go_region_law (first
                    | (go_simp; go_at_call 63; (with_reducible refine Calls.mono (HCP.out _ (by repeat (first | (with_reducible exact Ext.refl _) | (with_reducible assumption) | with_reducible refine Ext.drew ?_ | with_reducible refine Ext.alloc ?_ _ | with_reducible refine Ext.setCell ?_ (by first | (simp; done) | (simp; omega) | omega) _ | with_reducible refine Ext.trans ?_ (by with_reducible assumption)))) ?_); rintro e w6 ⟨g1, c1, rfl, hx6, ho6⟩; (have q0 := hx6.cells (show World.cell? _ ⟨lb, loff + k0 * 2, none⟩ = some (.int .i64 cd) by go_simp)); (have HO6 := Lib.hid ho6; have HX6 := Lib.hid (show Ext wr w6 from (by repeat (first | (with_reducible exact Ext.refl _) | (with_reducible assumption) | with_reducible refine Ext.drew ?_ | with_reducible refine Ext.alloc ?_ _ | with_reducible refine Ext.setCell ?_ (by first | (simp; done) | (simp; omega) | omega) _ | with_reducible refine Ext.trans ?_ (by with_reducible assumption)))); have HRL := Lib.hid (show RowAt (w6.alloc (.cells #[.int .i64 cd] 3)) (some ⟨w6.heap.size, 0, none⟩) 1 [cd].length (fun j => icc (nth [cd] j)) from row_lit (w := w6) (cs := #[.int .i64 cd]) (T := 3) (s := 1) (cc := icc) (x := cd) (by intro j hj; obtain rfl : j = 0 := (by omega); rfl))); have hz6 := hx6.size)
                    | (refine step_append_bf (o := ⟨some 81, _, _, _, _, _⟩) rfl _ _ 22 rfl 3 j0 _ 1 8 Try.underlying22 HJ.out HY0.out HY1.out HY2.out rfl (by decide) icc icc_one wr.heap.size ?_ (.slice (some g1) cs.length c1) cs [cd] N HNL rfl ((HO6.out.down (by first | exact Nat.le_refl _ | simp)).ext' ((Ext.refl _).alloc _)) ⟨w6.heap.size, 0, none⟩ 1 1 rfl rfl HRL.out (by simp; omega) (by simp; omega) ?_; (have := HX6.out.size; simp; omega); intro go7 gc7 w7 ho7 hb7 hg7 hv7; have HX7 := Lib.hid (HX6.out.alloc (.cells #[.int .i64 cd] 3)))
                    | (refine step_append_bf (o := ⟨some 81, _, _, _, _, _⟩) rfl _ _ 22 rfl 3 j0 _ 1 8 Try.underlying22 HJ.out HY0.out HY1.out HY2.out rfl (by decide) icc icc_one wr.heap.size ?_ (.slice (some g1) cs.length c1) cs [cd] N HNL rfl (HO6.out.down (by simp)) ⟨wr.heap.size, 0, none⟩ 1 1 rfl rfl (fun _ => ⟨wr.heap.size, 0, rfl, fun k hk j hj => by
                        obtain rfl : k = 0 := by simpa using hk
                        obtain rfl : j = 0 := by omega
                        exact hx6.cells (by go_simp; rfl)⟩) (by simp; omega) (by simp; omega) ?_; (have := HX6.out.size; omega); intro go7 gc7 w7 ho7 hb7 hg7 hv7; have HX7 := Lib.hid HX6.out))
                  all_goals
                    have HXD := Lib.hid (Ext.below HX7.out hb7 (Nat.le_refl _))
                    have hfm := ho7.form
                    rcases hfm with ⟨_, q⟩ | ⟨mb, mc, q, _, _, hF7⟩
                    · exact absurd (HNL.out.symm.trans q) (by simp)
                    injection q with q1 q2 q3
                    subst q1 q3
                    have HF7 := Lib.hid hF7
                    clear ho7 hb7 hg7 hv7 hF7 q2
                    go_wp2_with fail
                    go_meet
                    exact ⟨mb, gc7, rfl, HXD.out, HF7.out⟩
                case rest =>
                  obtain ⟨mb, mc, rfl, hx6, hF6⟩ := hcut
                  have HX6 := Lib.hid hx6; have HF6 := Lib.hid hF6
                  have q1 := hx6.cells q1
                  have hlc8 : N.length = cs.length + 1 := by rw [HNL.out, List.length_append]; rfl
                  have HL8 := Lib.hid hlc8
                  have htm : tmI m xs c0 N = wayT m c0 (tourW xs c0 N) := if_pos (HNX.out.fin hc hc0)
                  have HTC := Lib.hid (fun y (hy : Ext wc y) => HTT.out y (HXW.out.trans (HX6.out.trans hy)) N (some ⟨mb, 0, none⟩) mc (HF6.out.row.ext hy) (by omega) HNX.out.codes)
                  have HXC := Lib.hid (HX.out.trans (HXQ.out.trans HX6.out))
                  obtain ⟨d0, d1, d2, d3⟩ := HBM2.out.ext HXC.out
                  have r1 := HXC.out.cells HR2.out
                  have k0' := Grow.cells d0
                  have k1' := Grow.cells d1
                  have k2' := Grow.cells d2
                  have k3' := Grow.cells d3
                  have k4' := Grow.cells r1
                  rw [htm] at HTC
                  obtain ⟨T, hT⟩ : ∃ T, T = wayT m c0 (tourW xs c0 N) := ⟨_, rfl⟩
                  rw [← hT] at HTC HGN
                  clear hx6 hF6 HROW hlc8 hT htm q0
                  by_cases hlt : r.lim < T
                  · have HE := Lib.hid (HT.out.trans (HGR.out.symm.trans (HGN.out.trans (if_pos hlt))))
                    have hld : decide (r.lim < T) = true := by simpa using hlt
                    go_wp2
                    refine wp_region_ext (by kernel_rfl) (by kernel_rfl) ?_
                    repeat (go_big_quiet_step ((first | (go_at_call 53; with_reducible exact Calls.ext_of (HTC.out _ (Grow.h _))))))
                    refine wpQuiet_nil ?_
                    rintro _ ⟨⟨w1, hx1⟩, rfl⟩
                    clear k0' k1' k2' k3' k4'
                    have HX7 := Lib.hid (HXC.out.trans hx1)
                    have HFO7 := Lib.hid (HFO.out.ext (HXQ.out.trans (HX6.out.trans hx1)))
                    clear hx1 d0 d1 d2 d3 r1 q1
                    go_wp2
                    go_ret2
                    rw [HE.out, HB.out]
                    exact ⟨some ⟨ob, 0, none⟩, oc, rfl, HX2.out.trans HX7.out, HFO7.out⟩
                  · have HGE := Lib.hid ((HGR.out.symm.trans (HGN.out.trans (if_neg hlt))).symm)
                    have hld : decide (r.lim < T) = false := by simpa using hlt
                    go_wp2
                    refine wp_region_ext (by kernel_rfl) (by kernel_rfl) ?_
                    repeat (go_big_quiet_step ((first | (go_at_call 53; with_reducible exact Calls.ext_of (HTC.out _ (Grow.h _))))))
                    refine wpQuiet_nil ?_
                    rintro _ ⟨⟨w1, hx1⟩, rfl⟩
                    clear k0' k1' k2' k3' k4'
                    have q1 := hx1.cells q1
                    have HX7 := Lib.hid hx1
                    clear d0 d1 d2 d3 r1 hx1
                    go_wp2
                    go_roundw
                    case rel => exact ⟨N, cellN X, f, mb, mc, rfl, rfl, by have := HL8.out; omega, HGE.out, HNX.out, HXC.out.trans HX7.out, (HF6.out.ext HX7.out).low (by have := HXW.out.size; omega)⟩
                    case measure => have := HL8.out; show 8 - N.length < 8 - cs.length; omega
        · have h8i : ¬ (cs.length : Int) < 8 := by omega
          obtain rfl : f = 0 := by omega
          have HE := Lib.hid (HT.out.trans HGR.out.symm)
          go_wp2
          go_ret2
          rw [HE.out, HB.out]
          exact ⟨some ⟨ob, 0, none⟩, oc, rfl, HX2.out.trans HX.out, HFO.out⟩


end Go.Proofs.Ytidcfohlhamgmaa
