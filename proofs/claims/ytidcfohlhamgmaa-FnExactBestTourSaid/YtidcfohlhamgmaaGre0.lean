/-
  Proved here (plain): the first least of a list by two numbers, found in two ways; the greedy tour.
  Conditions: those in each statement.
-/
import Derived.Test.YtidcfohlhamgmaaTour8
import Derived.Test.YtidcfohlhamgmaaCmp1
import Derived.Test.YtidcfohlhamgmaaDel
namespace Go.Proofs.Ytidcfohlhamgmaa
open Go.RowKit

theorem hasI_in {xs : List Int} {v : Int} : hasI xs xs.length v = true ↔ v ∈ xs := by
  constructor
  · intro h
    refine Classical.byContradiction fun hn => ?_
    rw [hasI_no (fun k hk e => hn (by rw [← e]; simp [nth, hk]))] at h
    cases h
  · intro h
    obtain ⟨k, hk, e⟩ := List.mem_iff_getElem.1 h
    exact hasI_yes hk (by simp [nth, hk, e])
/-- the first least of the first k by an order -/
def minC (q : Ctl → Ctl → Bool) (xs : List Ctl) : Nat → Ctl
  | 0 => nth xs 0
  | k + 1 => if q (nth xs k) (minC q xs k) then nth xs k else minC q xs k
/-- the order by a number, then by the code -/
def lexO (t : Ctl → Int) (a b : Ctl) : Int := orI (cmpI (t a) (t b)) (cmpI a.code b.code)
def lexQ (t : Ctl → Int) (a b : Ctl) : Bool := decide (t a < t b) || (decide (t a = t b) && decide (a.code < b.code))
theorem lexO_less (t : Ctl → Int) (a b : Ctl) : decide (lexO t a b < 0) = lexQ t a b := by
  unfold lexO lexQ orI
  rw [Bool.eq_iff_iff]
  simp only [Bool.or_eq_true, Bool.and_eq_true, decide_eq_true_eq]
  generalize t a = p
  generalize t b = q
  generalize a.code = x
  generalize b.code = y
  unfold cmpI
  by_cases h1 : p < q
  · rw [if_pos h1, if_pos (by decide)]
    simp [h1]
  · rw [if_neg h1]
    by_cases h2 : q < p
    · rw [if_pos h2, if_pos (by decide)]
      simp [h1]; omega
    · rw [if_neg h2, if_neg (by decide)]
      by_cases h3 : x < y
      · rw [if_pos h3]; simp [h3]; omega
      · rw [if_neg h3]
        by_cases h4 : y < x
        · rw [if_pos h4]; simp [h1]; omega
        · rw [if_neg h4]; simp [h1]; omega
theorem lexQ_iff {t : Ctl → Int} {a b : Ctl} : lexQ t a b = true ↔ (t a < t b ∨ (t a = t b ∧ a.code < b.code)) := by
  unfold lexQ
  simp only [Bool.or_eq_true, Bool.and_eq_true, decide_eq_true_eq]
theorem minC_spec (t : Ctl → Int) (xs : List Ctl) : ∀ k, (∃ j, j < k + 1 ∧ minC (lexQ t) xs (k + 1) = nth xs j) ∧ ∀ j, j < k + 1 → ¬ (t (nth xs j) < t (minC (lexQ t) xs (k + 1)) ∨ (t (nth xs j) = t (minC (lexQ t) xs (k + 1)) ∧ (nth xs j).code < (minC (lexQ t) xs (k + 1)).code)) := by
  intro k
  induction k with
  | zero =>
    have e : minC (lexQ t) xs (0 + 1) = nth xs 0 := by
      rw [minC]
      split <;> rfl
    rw [e]
    refine ⟨⟨0, by omega, rfl⟩, fun j hj => ?_⟩
    obtain rfl : j = 0 := by omega
    omega
  | succ k ih =>
    obtain ⟨⟨j0, hj0, e0⟩, hall⟩ := ih
    rw [minC]
    generalize minC (lexQ t) xs (k + 1) = M at *
    cases hq : lexQ t (nth xs (k + 1)) M
    · refine ⟨⟨j0, by omega, e0⟩, fun j hj => ?_⟩
      show ¬ (t (nth xs j) < t M ∨ (t (nth xs j) = t M ∧ (nth xs j).code < M.code))
      by_cases ej : j = k + 1
      · subst ej
        intro hn
        rw [lexQ_iff.2 hn] at hq; cases hq
      · exact hall j (by omega)
    · refine ⟨⟨k + 1, by omega, rfl⟩, fun j hj => ?_⟩
      show ¬ (t (nth xs j) < t (nth xs (k + 1)) ∨ (t (nth xs j) = t (nth xs (k + 1)) ∧ (nth xs j).code < (nth xs (k + 1)).code))
      have hq := lexQ_iff.1 hq
      by_cases ej : j = k + 1
      · subst ej; omega
      · have := hall j (by omega)
        omega

/-- the first least of the numbers that are allowed, place and number -/
def pkU (p : Nat → Bool) (t : Nat → Int) : Nat → Int × Int
  | 0 => (-1, -1)
  | k + 1 => if p k && (decide ((pkU p t k).2 < 0) || decide (t k < (pkU p t k).2)) then ((k : Int), t k) else pkU p t k
theorem pkU_cases (p : Nat → Bool) (t : Nat → Int) : ∀ n, (∀ k, k < n → p k = true → 0 ≤ t k) → (pkU p t n = (-1, -1) ∧ ∀ k, k < n → p k = false) ∨ ∃ k, k < n ∧ p k = true ∧ pkU p t n = ((k : Int), t k) ∧ ∀ j, j < n → p j = true → t k ≤ t j ∧ (t j = t k → k ≤ j) := by
  intro n
  induction n with
  | zero => intro _; exact .inl ⟨rfl, fun k hk => by omega⟩
  | succ n ih =>
    intro ht
    have ih := ih (fun k hk => ht k (by omega))
    rw [pkU]
    cases hp : p n
    · simp only [Bool.false_and, Bool.false_eq_true, if_false]
      rcases ih with ⟨e, h⟩ | ⟨k, hk, hpk, e, h⟩
      · refine .inl ⟨e, fun k hk => ?_⟩
        by_cases ek : k = n
        · rw [ek]; exact hp
        · exact h k (by omega)
      · refine .inr ⟨k, by omega, hpk, e, fun j hj hpj => ?_⟩
        by_cases ek : j = n
        · rw [ek, hp] at hpj; cases hpj
        · exact h j (by omega) hpj
    · have htn := ht n (by omega) hp
      rcases ih with ⟨e, h⟩ | ⟨k, hk, hpk, e, h⟩
      · refine .inr ⟨n, by omega, hp, by rw [e]; rfl, fun j hj hpj => ?_⟩
        by_cases ek : j = n
        · subst ek; exact ⟨Int.le_refl _, fun _ => Nat.le_refl _⟩
        · rw [h j (by omega)] at hpj; cases hpj
      · have htk := ht k (by omega) hpk
        rw [e]
        by_cases hlt : t n < t k
        · refine .inr ⟨n, by omega, hp, by simp [hlt], fun j hj hpj => ?_⟩
          by_cases ek : j = n
          · subst ek; exact ⟨Int.le_refl _, fun _ => Nat.le_refl _⟩
          · have := h j (by omega) hpj
            exact ⟨by omega, fun _ => by omega⟩
        · refine .inr ⟨k, by omega, hpk, by simp [hlt, show ¬ t k < 0 by omega], fun j hj hpj => ?_⟩
          by_cases ek : j = n
          · subst ek; exact ⟨by omega, fun _ => by omega⟩
          · exact h j (by omega) hpj
theorem nth_in {α : Type} [Inhabited α] {xs : List α} {k : Nat} (hk : k < xs.length) : nth xs k ∈ xs := by simp [nth, hk]
theorem in_nth {α : Type} [Inhabited α] {xs : List α} {x : α} (h : x ∈ xs) : ∃ k, k < xs.length ∧ nth xs k = x := by
  obtain ⟨k, hk, e⟩ := List.mem_iff_getElem.1 h
  exact ⟨k, hk, by simp [nth, hk, e]⟩
/-- both ways find the same one -/
theorem pk_min {xs : List Ctl} (hasc : ∀ i j, i < j → j < xs.length → (nth xs i).code < (nth xs j).code) (P : Ctl → Bool) (t : Ctl → Int) (ht : ∀ c, c ∈ xs → P c = true → 0 ≤ t c) :
    ((xs.filter P).length = 0 ∧ pkU (fun k => P (nth xs k)) (fun k => t (nth xs k)) xs.length = (-1, -1)) ∨
    (0 < (xs.filter P).length ∧ ∃ k, k < xs.length ∧ P (nth xs k) = true ∧ pkU (fun k => P (nth xs k)) (fun k => t (nth xs k)) xs.length = ((k : Int), t (nth xs k)) ∧ minC (lexQ t) (xs.filter P) (xs.filter P).length = nth xs k) := by
  rcases pkU_cases (fun k => P (nth xs k)) (fun k => t (nth xs k)) xs.length (fun k hk hp => ht _ (nth_in hk) hp) with ⟨e, h⟩ | ⟨k, hk, hp, e, h⟩
  · refine .inl ⟨?_, e⟩
    rw [List.length_eq_zero_iff, List.filter_eq_nil_iff]
    intro a ha hPa
    obtain ⟨k, hk, rfl⟩ := in_nth ha
    rw [h k hk] at hPa; cases hPa
  · have hm : nth xs k ∈ xs.filter P := List.mem_filter.2 ⟨nth_in hk, hp⟩
    have hpos : 0 < (xs.filter P).length := List.length_pos_of_mem hm
    refine .inr ⟨hpos, k, hk, hp, e, ?_⟩
    obtain ⟨n, hn⟩ : ∃ n, (xs.filter P).length = n + 1 := ⟨(xs.filter P).length - 1, by omega⟩
    obtain ⟨⟨j, hj, ej⟩, hall⟩ := minC_spec t (xs.filter P) n
    rw [hn]
    obtain ⟨q, hq, eq⟩ := in_nth hm
    have h1 := hall q (by omega)
    rw [eq] at h1
    have hjm := List.mem_filter.1 (nth_in (show j < (xs.filter P).length by omega))
    obtain ⟨i, hi, ei⟩ := in_nth hjm.1
    have hPi : P (nth xs i) = true := by rw [ei]; exact hjm.2
    have h2 := h i hi hPi
    rw [ej, ← ei] at h1 ⊢
    have hki : k ≤ i := h2.2 (by show t (nth xs i) = t (nth xs k); have h5 : t (nth xs k) ≤ t (nth xs i) := h2.1; omega)
    by_cases hlt : k < i
    · have := hasc k i hlt hi
      have h3 : t (nth xs k) ≤ t (nth xs i) := h2.1
      omega
    · rw [show k = i by omega]

theorem ctl_asc {m : MapD} {xs : List Ctl} (h : ctlsB m xs = true) : ∀ i j, i < j → j < xs.length → (nth xs i).code < (nth xs j).code := by
  simp only [ctlsB, Bool.and_eq_true, upto_true, decide_eq_true_eq] at h
  have hst : ∀ k, 0 < k → k < xs.length → (nth xs (k - 1)).code < (nth xs k).code := fun k h0 hk => by
    have h1 := h.2 k hk
    simp only [okCtl, Bool.and_eq_true, Bool.not_eq_true', Bool.and_eq_false_iff, decide_eq_false_iff_not] at h1
    have := h1.1.2
    omega
  intro i j
  induction j with
  | zero => intro hij; omega
  | succ j ih =>
    intro hij hj
    have h1 := hst (j + 1) (by omega) hj
    rw [show j + 1 - 1 = j by omega] at h1
    by_cases e : i = j
    · rw [e]; exact h1
    · have := ih (by omega) (by omega)
      omega
theorem ctl_code {m : MapD} {xs : List Ctl} (h : ctlsB m xs = true) {i j : Nat} (hi : i < xs.length) (hj : j < xs.length) (e : (nth xs i).code = (nth xs j).code) : i = j := by
  rcases Nat.lt_trichotomy i j with h1 | h1 | h1
  · have := ctl_asc h i j h1 hj; omega
  · exact h1
  · have := ctl_asc h j i h1 hi; omega

def cellN (c : Ctl) : Nat := c.cell.toNat
noncomputable def dist (m : MapD) (here : Nat) (c : Ctl) : Int := nth (timL m (cellN c)) here
/-- where a code leads -/
theorem cellC_code {m : MapD} {xs : List Ctl} (h : ctlsB m xs = true) {k : Nat} (hk : k < xs.length) : 0 ≤ ofI xs xs.length (nth xs k).code ∧ cellC xs (nth xs k).code = cellN (nth xs k) := by
  have e : ofI xs xs.length (nth xs k).code = (k : Int) := by
    unfold ofI
    refine idxU_at hk (by simp) fun j hj => ?_
    have := ctl_asc h j k hj hk
    simp; omega
  refine ⟨by omega, ?_⟩
  unfold cellC cellN
  rw [e, Int.toNat_natCast]
theorem cellN_lt {m : MapD} {xs : List Ctl} (h : ctlsB m xs = true) {k : Nat} (hk : k < xs.length) : (nth xs k).cell = (cellN (nth xs k) : Int) ∧ cellN (nth xs k) < m.cost.length := by
  obtain ⟨_, q, hq, hn, _⟩ := ctl_at h hk
  have : cellN (nth xs k) = q := by unfold cellN; omega
  rw [this]
  exact ⟨hq, hn⟩
theorem reach_iff {m : MapD} (hm : mapB m = true) {a b : Nat} (ha : a < m.cost.length) (hb : b < m.cost.length) : nth (timL m b) a < NT ↔ Conn m a b := ⟨fin_conn hm hb ha, conn_fin hm hb⟩
theorem dist_bd {m : MapD} {xs : List Ctl} (h : ctlsB m xs = true) {here : Nat} (hh : here < m.cost.length) {c : Ctl} (hc : c ∈ xs) : 0 ≤ dist m here c ∧ dist m here c ≤ NT := by
  obtain ⟨k, hk, rfl⟩ := in_nth hc
  have hm := (ctls_map h).1
  have hb := (cellN_lt h hk).2
  have := (timL_ok hm hb).bd here (by rw [(timL_ok hm hb).len]; exact hh)
  exact ⟨this.1, this.2.2⟩
theorem dist_here {m : MapD} {xs : List Ctl} (h : ctlsB m xs = true) {c0 here : Nat} (h0 : c0 < m.cost.length) (hh : here < m.cost.length) (hcn : Conn m c0 here) {c : Ctl} (hc : c ∈ xs) : dist m here c < NT ↔ dist m c0 c < NT := by
  obtain ⟨k, hk, rfl⟩ := in_nth hc
  have hm := (ctls_map h).1
  have hb := (cellN_lt h hk).2
  unfold dist
  rw [reach_iff hm hh hb, reach_iff hm h0 hb]
  exact ⟨fun q => hcn.trans q, fun q => hcn.symm.trans q⟩

/-- the controls that are still to be visited -/
noncomputable def frB (m : MapD) (here : Nat) (cs : List Int) (c : Ctl) : Bool := !hasI cs cs.length c.code && decide (dist m here c < NT)
noncomputable def leftL (m : MapD) (xs : List Ctl) (c0 : Nat) (cs : List Int) : List Ctl := xs.filter (frB m c0 cs)
noncomputable def pkI (m : MapD) (xs : List Ctl) (here : Nat) (cs : List Int) (n : Nat) : Int × Int := pkU (fun k => frB m here cs (nth xs k)) (fun k => dist m here (nth xs k)) n
/-- the greedy tour, from a state on -/
noncomputable def grL (m : MapD) (xs : List Ctl) (lim : Int) (c0 : Nat) : Nat → List Int → Nat → List Int
  | 0, cs, _ => cs
  | f + 1, cs, here =>
    if (pkI m xs here cs xs.length).1 < 0 then cs
    else if lim < wayT m c0 (tourW xs c0 (cs ++ [(nth xs (pkI m xs here cs xs.length).1.toNat).code])) then cs
    else grL m xs lim c0 f (cs ++ [(nth xs (pkI m xs here cs xs.length).1.toNat).code]) (cellN (nth xs (pkI m xs here cs xs.length).1.toNat))
structure GInv (m : MapD) (xs : List Ctl) (c0 : Nat) (cs : List Int) (here : Nat) : Prop where
  lt : here < m.cost.length
  conn : Conn m c0 here
  codes : ofB xs cs = true
  way : ∀ b, b ∈ cs.map (cellC xs) → Conn m c0 b
  once : onceU cs cs.length = true
theorem onceU_snoc {cs : List Int} {v : Int} (h : onceU cs cs.length = true) (hv : hasI cs cs.length v = false) : onceU (cs ++ [v]) (cs ++ [v]).length = true := by
  unfold onceU at h ⊢
  rw [upto_true] at h ⊢
  rw [List.length_append, List.length_singleton]
  have hpre : ∀ j, j < cs.length → nth (cs ++ [v]) j = nth cs j := fun j hj => by simp [nth, List.getD, List.getElem?_append_left hj]
  have hlast : nth (cs ++ [v]) cs.length = v := by simp [nth]
  intro k hk
  by_cases e : k = cs.length
  · subst e
    rw [hlast, Bool.not_eq_true']
    exact hasI_no fun j hj q => by
      rw [hpre j hj] at q
      rw [hasI_yes hj q] at hv; cases hv
  · have h1 := h k (by omega)
    rw [hpre k (by omega), Bool.not_eq_true'] at *
    exact hasI_no fun j hj q => by
      rw [hpre j (by omega)] at q
      rw [hasI_yes hj q] at h1; cases h1
theorem ofB_snoc {xs : List Ctl} {cs : List Int} {v : Int} (h : ofB xs cs = true) (hv : 0 ≤ ofI xs xs.length v) : ofB xs (cs ++ [v]) = true := by
  unfold ofB at h ⊢
  rw [upto_true] at h ⊢
  rw [List.length_append, List.length_singleton]
  intro k hk
  by_cases e : k = cs.length
  · subst e
    have hlast : nth (cs ++ [v]) cs.length = v := by simp [nth]
    rw [hlast]; simp; omega
  · have hpre : nth (cs ++ [v]) k = nth cs k := by simp [nth, List.getD, List.getElem?_append_left (show k < cs.length by omega)]
    rw [hpre]; exact h k (by omega)
theorem GInv.start {m : MapD} {xs : List Ctl} {c0 : Nat} (h0 : c0 < m.cost.length) : GInv m xs c0 [] c0 := ⟨h0, .refl _, rfl, fun b hb => by simp at hb, rfl⟩
theorem GInv.step {m : MapD} {xs : List Ctl} {c0 : Nat} {cs : List Int} {here : Nat} (h : GInv m xs c0 cs here) (hc : ctlsB m xs = true) {k : Nat} (hk : k < xs.length) (hf : frB m here cs (nth xs k) = true) : GInv m xs c0 (cs ++ [(nth xs k).code]) (cellN (nth xs k)) := by
  have hm := (ctls_map hc).1
  have hb := (cellN_lt hc hk).2
  simp only [frB, Bool.and_eq_true, Bool.not_eq_true', decide_eq_true_eq] at hf
  have hcn : Conn m c0 (cellN (nth xs k)) := h.conn.trans ((reach_iff hm h.lt hb).1 hf.2)
  obtain ⟨hof, hcc⟩ := cellC_code hc hk
  refine ⟨hb, hcn, ofB_snoc h.codes hof, fun b hb => ?_, onceU_snoc h.once hf.1⟩
  rw [List.map_append, List.mem_append] at hb
  rcases hb with hb | hb
  · exact h.way b hb
  · rw [List.map_singleton, List.mem_singleton, hcc] at hb
    rw [hb]; exact hcn
theorem conn_way {m : MapD} (hm : mapB m = true) {c0 : Nat} : ∀ (l : List Nat) (a : Nat), Conn m c0 a → (∀ b, b ∈ l → b < m.cost.length ∧ Conn m c0 b) → wayF m a l = true := by
  intro l
  induction l with
  | nil => intro a _ _; rfl
  | cons b l ih =>
    intro a ha hl
    have h1 := hl b (List.mem_cons_self ..)
    rw [wayF, ih b h1.2 (fun c hc => hl c (List.mem_cons_of_mem _ hc)), Bool.and_true]
    simpa using conn_fin hm h1.1 (ha.symm.trans h1.2)
theorem GInv.fin {m : MapD} {xs : List Ctl} {c0 : Nat} {cs : List Int} {here : Nat} (h : GInv m xs c0 cs here) (hc : ctlsB m xs = true) (h0 : c0 < m.cost.length) : wayF m c0 (tourW xs c0 cs) = true := by
  refine conn_way (ctls_map hc).1 _ _ (.refl _) fun b hb => ?_
  unfold tourW at hb
  rw [List.mem_append, List.mem_singleton] at hb
  rcases hb with hb | rfl
  · exact ⟨tour_lt hc h.codes hb, h.way b hb⟩
  · exact ⟨h0, .refl _⟩
/-- the two ways to choose the next control -/
theorem GInv.pick {m : MapD} {xs : List Ctl} {c0 : Nat} {cs : List Int} {here : Nat} (h : GInv m xs c0 cs here) (hc : ctlsB m xs = true) (h0 : c0 < m.cost.length) :
    ((leftL m xs c0 cs).length = 0 ∧ pkI m xs here cs xs.length = (-1, -1)) ∨
    (0 < (leftL m xs c0 cs).length ∧ ∃ k, k < xs.length ∧ frB m here cs (nth xs k) = true ∧ pkI m xs here cs xs.length = ((k : Int), dist m here (nth xs k)) ∧ minC (lexQ (dist m here)) (leftL m xs c0 cs) (leftL m xs c0 cs).length = nth xs k) := by
  have e : leftL m xs c0 cs = xs.filter (frB m here cs) := by
    unfold leftL
    refine List.filter_congr fun c hcx => ?_
    unfold frB
    rw [decide_eq_decide.2 (dist_here hc h0 h.lt h.conn hcx)]
  rw [e]
  exact pk_min (ctl_asc hc) (frB m here cs) (dist m here) (fun c hcx _ => (dist_bd hc h.lt hcx).1)
theorem left_start {m : MapD} {xs : List Ctl} (h : ctlsB m xs = true) {c0 : Nat} (h0 : c0 < m.cost.length) : keptL (fun c => decide (dist m c0 c = NT)) xs = leftL m xs c0 [] := by
  unfold keptL leftL
  refine List.filter_congr fun c hc => ?_
  have := (dist_bd h h0 hc).2
  have e : hasI [] ([] : List Int).length c.code = false := rfl
  rw [frB, e, Bool.not_false, Bool.true_and, Bool.eq_iff_iff]
  simp only [Bool.not_eq_true', decide_eq_false_iff_not, decide_eq_true_eq]
  omega
theorem left_step {m : MapD} {xs : List Ctl} (h : ctlsB m xs = true) {c0 k : Nat} {cs : List Int} (hk : k < xs.length) : keptL (fun c => decide (c.code = (nth xs k).code) && decide (c.cell = (nth xs k).cell)) (leftL m xs c0 cs) = leftL m xs c0 (cs ++ [(nth xs k).code]) := by
  unfold keptL leftL
  rw [List.filter_filter]
  refine List.filter_congr fun c hc => ?_
  obtain ⟨i, hi, rfl⟩ := in_nth hc
  have e1 : (decide ((nth xs i).code = (nth xs k).code) && decide ((nth xs i).cell = (nth xs k).cell)) = decide ((nth xs i).code = (nth xs k).code) := by
    by_cases e : (nth xs i).code = (nth xs k).code
    · rw [ctl_code h hi hk e]; simp
    · simp [e]
  show (!(decide ((nth xs i).code = (nth xs k).code) && decide ((nth xs i).cell = (nth xs k).cell)) && frB m c0 cs (nth xs i)) = _
  rw [e1]
  unfold frB
  have e2 : hasI (cs ++ [(nth xs k).code]) (cs ++ [(nth xs k).code]).length (nth xs i).code = (decide ((nth xs i).code = (nth xs k).code) || hasI cs cs.length (nth xs i).code) := by
    rw [Bool.eq_iff_iff, hasI_in, Bool.or_eq_true, hasI_in, decide_eq_true_eq, List.mem_append, List.mem_singleton]
    exact ⟨fun q => q.symm, fun q => q.symm⟩
  rw [e2]
  generalize decide ((nth xs i).code = (nth xs k).code) = b1
  generalize hasI cs cs.length (nth xs i).code = b2
  generalize decide (dist m c0 (nth xs i) < NT) = b3
  cases b1 <;> cases b2 <;> cases b3 <;> rfl
theorem left_len {m : MapD} {xs : List Ctl} {c0 : Nat} {cs : List Int} : (leftL m xs c0 cs).length ≤ xs.length := List.length_filter_le _ _
theorem left_mem {m : MapD} {xs : List Ctl} {c0 : Nat} {cs : List Int} {c : Ctl} (h : c ∈ leftL m xs c0 cs) : ∃ k, k < xs.length ∧ nth xs k = c := in_nth (List.mem_filter.1 h).1

end Go.Proofs.Ytidcfohlhamgmaa
