/-
  Proved here (plain): the least times from all cells to one, round by round; what is finite.
  Conditions: those in each statement.
-/
import Derived.Test.YtidcfohlhamgmaaMap1
namespace Go.Proofs.Ytidcfohlhamgmaa
open Go.RowKit

/-- more than all times -/
def NT : Int := 1073741824
def stI (m : MapD) (a b : Nat) : Int := nth m.cost b + 2 * max (nth m.rise b - nth m.rise a) 0 + max (-(nth m.rise b - nth m.rise a) - 2) 0
def absI (a : Int) : Int := if a < 0 then -a else a
def gapI (m : MapD) (a b : Nat) : Int := absI ((a : Int) % m.wid - (b : Int) % m.wid) + absI ((a : Int) / m.wid - (b : Int) / m.wid)
def adjB (m : MapD) (c k : Nat) : Bool := decide (0 < nth m.cost k) && decide (gapI m c k = 1)
/-- the cells next to a cell that are not forbidden -/
def nextL (m : MapD) (c : Nat) : List Nat := (List.range m.cost.length).filter (adjB m c)

theorem nextL_mem {m : MapD} {c k : Nat} : k ∈ nextL m c ↔ k < m.cost.length ∧ 0 < nth m.cost k ∧ gapI m c k = 1 := by
  simp [nextL, adjB]
theorem absI_neg (a : Int) : absI (-a) = absI a := by unfold absI; split <;> split <;> omega
theorem gapI_symm (m : MapD) (a b : Nat) : gapI m a b = gapI m b a := by
  unfold gapI
  rw [← absI_neg ((a : Int) % m.wid - _), ← absI_neg ((a : Int) / m.wid - _)]
  congr 2 <;> omega
theorem map_at {m : MapD} (h : mapB m = true) {k : Nat} (hk : k < m.cost.length) : (0 ≤ nth m.cost k ∧ nth m.cost k ≤ 9) ∧ (0 ≤ nth m.rise k ∧ nth m.rise k ≤ 9) := by
  have hl := map_len h
  simp only [mapB, riseB, costB, Bool.and_eq_true, upto_true, inB_iff] at h
  exact ⟨h.2 k hk, h.1.2 k (by omega)⟩
theorem stI_bd {m : MapD} (h : mapB m = true) {a b : Nat} (ha : a < m.cost.length) (hb : b < m.cost.length) : 0 ≤ stI m a b ∧ stI m a b ≤ 27 := by
  have h1 := map_at h ha
  have h2 := map_at h hb
  unfold stI
  omega

/-- one step of a round: cell i by its neighbour k -/
def relK (m : MapD) (i : Nat) (p : List Int × Bool) (k : Nat) : List Int × Bool :=
  if nth p.1 k < NT ∧ nth p.1 k + stI m i k < nth p.1 i then (p.1.set i (nth p.1 k + stI m i k), true) else p
def relI (m : MapD) (p : List Int × Bool) (i : Nat) : List Int × Bool := if nth m.cost i = 0 then p else (nextL m i).foldl (relK m i) p
def relR (m : MapD) (o : List Int) : List Int × Bool := (List.range m.cost.length).foldl (relI m) (o, false)
def initT (m : MapD) (b : Nat) : List Int := (List.replicate m.cost.length NT).set b 0
def iterT (m : MapD) (b : Nat) : Nat → List Int × Bool
  | 0 => (initT m b, true)
  | r + 1 => relR m (iterT m b r).1

theorem foldl_snoc {α β : Type} [Inhabited β] {f : α → β → α} {a : α} {l : List β} {k : Nat} (hk : k < l.length) : (l.take (k + 1)).foldl f a = f ((l.take k).foldl f a) (nth l k) := by
  have : l.take (k + 1) = l.take k ++ [nth l k] := by
    rw [List.take_add_one]
    simp [nth, hk]
  rw [this, List.foldl_append]; rfl

theorem nth_set {o : List Int} {i k : Nat} {x : Int} (hi : i < o.length) : nth (o.set i x) k = if i = k then x else nth o k := by
  simp only [nth, List.getD]
  rw [List.getElem?_set]
  by_cases e : i = k
  · subst e; simp [hi]
  · simp [e]

/-- the sum of a list -/
theorem sum_set : ∀ {o : List Int} {i : Nat} {x : Int}, i < o.length → (o.set i x).sum = o.sum - nth o i + x := by
  intro o
  induction o with
  | nil => intro i x hi; simp at hi
  | cons a o ih =>
    intro i x hi
    cases i with
    | zero => simp [nth]; omega
    | succ i =>
      have := ih (i := i) (x := x) (by simpa using hi)
      simp only [List.set_cons_succ, List.sum_cons, this]
      simp [nth]; omega
/-- how many are finite -/
def finN (o : List Int) : Nat := o.countP (fun x => decide (x < NT))
theorem finN_set : ∀ {o : List Int} {i : Nat} {x : Int}, i < o.length → x < NT → finN (o.set i x) = finN o + (if nth o i < NT then 0 else 1) := by
  intro o
  induction o with
  | nil => intro i x hi; simp at hi
  | cons a o ih =>
    intro i x hi hx
    cases i with
    | zero =>
      unfold finN
      rw [List.set_cons_zero, List.countP_cons, List.countP_cons]
      simp only [hx, decide_true, if_true]
      show _ = _ + (if a < NT then 0 else 1)
      by_cases h : a < NT <;> simp [h]
    | succ i =>
      have := ih (i := i) (x := x) (by simpa using hi) hx
      unfold finN at this ⊢
      rw [List.set_cons_succ, List.countP_cons, List.countP_cons, this]
      have e : nth (a :: o) (i + 1) = nth o i := rfl
      rw [e]; omega

/-- what holds of the times all the way -/
structure OkT (m : MapD) (o : List Int) : Prop where
  len : o.length = m.cost.length
  bd : ∀ k, k < o.length → 0 ≤ nth o k ∧ (nth o k < NT → nth o k + 27 ≤ 27 * finN o) ∧ nth o k ≤ NT
theorem finN_le (o : List Int) : finN o ≤ o.length := List.countP_le_length
theorem OkT.fin {m : MapD} {o : List Int} (h : OkT m o) (hm : mapB m = true) {k : Nat} (hk : k < o.length) (hf : nth o k < NT) : nth o k ≤ 945 := by
  have h1 := (h.bd k hk).2.1 hf
  have h2 := finN_le o
  have h3 := (map_len hm).2.2.1
  have := h.len
  omega

theorem init_ok {m : MapD} {b : Nat} (hb : b < m.cost.length) : OkT m (initT m b) := by
  have hl : (initT m b).length = m.cost.length := by simp [initT]
  have hf : 1 ≤ finN (initT m b) := by
    unfold initT
    rw [finN_set (by simpa using hb) (by decide)]
    have : nth (List.replicate m.cost.length NT) b = NT := by simp [nth, hb]
    rw [this, if_neg (by decide)]; omega
  refine ⟨hl, fun k hk => ?_⟩
  unfold initT
  rw [nth_set (by simpa using hb)]
  split
  · exact ⟨by omega, fun _ => by show (0 : Int) + 27 ≤ 27 * (finN (initT m b) : Nat); omega, by decide⟩
  · have : nth (List.replicate m.cost.length NT) k = NT := by simp [nth, show k < m.cost.length by omega]
    rw [this]
    exact ⟨by decide, fun h => absurd h (by decide), Int.le_refl _⟩

theorem relK_ok {m : MapD} (hm : mapB m = true) {i k : Nat} {p : List Int × Bool} (h : OkT m p.1) (hi : i < m.cost.length) (hk : k < m.cost.length) : OkT m (relK m i p k).1 := by
  unfold relK
  split
  · rename_i hc
    have hl := h.len
    have hs := stI_bd hm hi hk
    have h1 := h.bd k (by omega)
    have h1f := h.fin hm (show k < p.1.length by omega) hc.1
    have hNT : NT = 1073741824 := rfl
    have hx : nth p.1 k + stI m i k < NT := by omega
    have hf := finN_set (o := p.1) (i := i) (x := nth p.1 k + stI m i k) (by omega) hx
    refine ⟨by simpa using hl, fun j hj => ?_⟩
    simp only [List.length_set] at hj
    have h2 := h1.2.1 hc.1
    have h3 := h.bd j hj
    have hbi := h.bd i (by omega)
    show 0 ≤ nth (p.1.set i _) j ∧ (nth (p.1.set i _) j < NT → nth (p.1.set i _) j + 27 ≤ 27 * (finN (p.1.set i _) : Nat)) ∧ _
    rw [nth_set (by omega), hf]
    by_cases e : i = j
    · subst e
      rw [if_pos rfl]
      refine ⟨by omega, fun _ => ?_, by omega⟩
      by_cases hfi : nth p.1 i < NT
      · rw [if_pos hfi]
        have := hbi.2.1 hfi
        omega
      · rw [if_neg hfi]; omega
    · rw [if_neg e]
      refine ⟨h3.1, fun hlt => ?_, h3.2.2⟩
      have := h3.2.1 hlt
      split <;> omega
  · exact h

theorem relK_len (m : MapD) (i k : Nat) (p : List Int × Bool) : (relK m i p k).1.length = p.1.length := by unfold relK; split <;> simp

/-- a fold that keeps something -/
theorem foldl_keep {α β : Type} {I : α → Prop} {f : α → β → α} {l : List β} (h : ∀ a b, b ∈ l → I a → I (f a b)) : ∀ {a : α}, I a → I (l.foldl f a) := by
  induction l with
  | nil => intro a ha; exact ha
  | cons b l ih =>
    intro a ha
    exact ih (fun a b hb => h a b (List.mem_cons_of_mem _ hb)) (h a b (List.mem_cons_self ..) ha)
theorem relI_keep {m : MapD} {I : List Int × Bool → Prop} {p : List Int × Bool} {i : Nat} (h : ∀ q k, k < m.cost.length → 0 < nth m.cost k → gapI m i k = 1 → nth m.cost i ≠ 0 → I q → I (relK m i q k)) (hp : I p) : I (relI m p i) := by
  unfold relI
  split
  · exact hp
  · rename_i hc
    refine foldl_keep (fun q k hk hq => ?_) hp
    have := nextL_mem.1 hk
    exact h q k this.1 this.2.1 this.2.2 hc hq
theorem relR_keep {m : MapD} {I : List Int × Bool → Prop} {o : List Int} (h : ∀ q i k, i < m.cost.length → k < m.cost.length → 0 < nth m.cost k → gapI m i k = 1 → nth m.cost i ≠ 0 → I q → I (relK m i q k)) (hp : I (o, false)) : I (relR m o) := by
  unfold relR
  refine foldl_keep (fun q i hi hq => ?_) hp
  exact relI_keep (fun q k => h q i k (by simpa using hi)) hq
theorem iter_keep {m : MapD} {b : Nat} {I : List Int → Prop} (h0 : I (initT m b)) (h : ∀ q i k, i < m.cost.length → k < m.cost.length → 0 < nth m.cost k → gapI m i k = 1 → nth m.cost i ≠ 0 → I q.1 → I (relK m i q k).1) : ∀ r, I (iterT m b r).1 := by
  intro r
  induction r with
  | zero => exact h0
  | succ r ih => exact relR_keep (I := fun q => I q.1) h ih
theorem iter_ok {m : MapD} (hm : mapB m = true) {b : Nat} (hb : b < m.cost.length) (r : Nat) : OkT m (iterT m b r).1 :=
  iter_keep (init_ok hb) (fun _ _ _ hi hk _ _ _ hq => relK_ok hm hq hi hk) r

/-- a round either changes nothing or lessens the sum -/
theorem relR_sum {m : MapD} (hm : mapB m = true) {o : List Int} (h : OkT m o) : OkT m (relR m o).1 ∧ (((relR m o).2 = false ∧ (relR m o).1 = o) ∨ ((relR m o).2 = true ∧ (relR m o).1.sum < o.sum)) := by
  refine relR_keep (I := fun q => OkT m q.1 ∧ ((q.2 = false ∧ q.1 = o) ∨ (q.2 = true ∧ q.1.sum < o.sum))) (fun q i k hi hk _ _ _ hq => ?_) ⟨h, .inl ⟨rfl, rfl⟩⟩
  refine ⟨relK_ok hm hq.1 hi hk, ?_⟩
  unfold relK
  split
  · rename_i hc
    have hl := hq.1.len
    refine .inr ⟨rfl, ?_⟩
    show (q.1.set i _).sum < _
    rw [sum_set (by omega)]
    rcases hq.2 with h2 | h2
    · rw [h2.2] at hc ⊢; omega
    · omega
  · exact hq.2
theorem sum_nonneg : ∀ {o : List Int}, (∀ k, k < o.length → 0 ≤ nth o k) → 0 ≤ o.sum := by
  intro o
  induction o with
  | nil => intro _; simp
  | cons a o ih =>
    intro h
    have h0 := h 0 (by simp)
    have := ih (fun k hk => h (k + 1) (by simpa using hk))
    simp only [List.sum_cons]
    have e : nth (a :: o) 0 = a := rfl
    rw [e] at h0
    omega
theorem iter_ends {m : MapD} (hm : mapB m = true) {b : Nat} (hb : b < m.cost.length) : ∃ r, (iterT m b (r + 1)).2 = false := by
  refine Classical.byContradiction fun hn => ?_
  have hall : ∀ r, (iterT m b (r + 1)).2 = true := fun r => by
    cases h : (iterT m b (r + 1)).2
    · exact absurd ⟨r, h⟩ hn
    · rfl
  have hdec : ∀ r, (iterT m b (r + 1)).1.sum < (iterT m b r).1.sum := fun r => by
    rcases (relR_sum hm (iter_ok hm hb r)).2 with h | h
    · have := hall r
      rw [iterT, h.1] at this; cases this
    · exact h.2
  have hlow : ∀ r, (iterT m b r).1.sum ≤ (iterT m b 0).1.sum - r := fun r => by
    induction r with
    | zero => omega
    | succ r ih => have := hdec r; omega
  have hpos := fun r => sum_nonneg (fun k hk => ((iter_ok hm hb r).bd k hk).1)
  have h1 := hlow ((iterT m b 0).1.sum.toNat + 1)
  have h2 := hpos ((iterT m b 0).1.sum.toNat + 1)
  have h3 := hpos 0
  omega
theorem iter_still {m : MapD} (hm : mapB m = true) {b : Nat} (hb : b < m.cost.length) {r : Nat} (h : (iterT m b (r + 1)).2 = false) : ∀ d, (iterT m b (r + d)).1 = (iterT m b r).1 := by
  have h1 : relR m (iterT m b r).1 = ((iterT m b r).1, false) := by
    rcases (relR_sum hm (iter_ok hm hb r)).2 with h2 | h2
    · exact Prod.ext h2.2 h2.1
    · rw [iterT, h2.1] at h; cases h
  intro d
  induction d with
  | zero => rfl
  | succ d ih => rw [show r + (d + 1) = (r + d) + 1 from rfl, iterT, ih, h1]
/-- the least times from all cells to one -/
noncomputable def timL (m : MapD) (b : Nat) : List Int := (iterT m b (Classical.epsilon fun r => (iterT m b (r + 1)).2 = false)).1
theorem timL_eq {m : MapD} (hm : mapB m = true) {b : Nat} (hb : b < m.cost.length) {r : Nat} (h : (iterT m b (r + 1)).2 = false) : timL m b = (iterT m b r).1 ∧ timL m b = (iterT m b (r + 1)).1 := by
  have hex : ∃ r, (iterT m b (r + 1)).2 = false := ⟨r, h⟩
  obtain ⟨q, hq⟩ : ∃ q, q = Classical.epsilon fun r => (iterT m b (r + 1)).2 = false := ⟨_, rfl⟩
  have h2 : (iterT m b (q + 1)).2 = false := by rw [hq]; exact Classical.epsilon_spec hex
  have e : timL m b = (iterT m b q).1 := by rw [hq]; rfl
  have e1 : (iterT m b (q)).1 = (iterT m b r).1 := by
    rcases Nat.le_total r (q) with hle | hle
    · have := iter_still hm hb h (q - r)
      rw [show r + (q - r) = q by omega] at this
      exact this
    · have := iter_still hm hb h2 (r - q)
      rw [show q + (r - q) = r by omega] at this
      exact this.symm
  refine ⟨e.trans e1, (e.trans e1).trans (iter_still hm hb h 1).symm⟩
theorem timL_fix {m : MapD} (hm : mapB m = true) {b : Nat} (hb : b < m.cost.length) : ∃ r, (iterT m b (r + 1)).2 = false ∧ timL m b = (iterT m b r).1 ∧ relR m (timL m b) = (timL m b, false) := by
  obtain ⟨r, h⟩ := iter_ends hm hb
  have e := timL_eq hm hb h
  refine ⟨r, h, e.1, Prod.ext ?_ ?_⟩
  · rw [e.1]; exact (iter_still hm hb h 1)
  · rw [e.1]; exact h
theorem timL_ok {m : MapD} (hm : mapB m = true) {b : Nat} (hb : b < m.cost.length) : OkT m (timL m b) := by
  obtain ⟨r, _, e, _⟩ := timL_fix hm hb
  rw [e]; exact iter_ok hm hb r

/-- nothing is left to be done -/
theorem relK_flag {m : MapD} {i k : Nat} {p : List Int × Bool} : p.2 = true → (relK m i p k).2 = true := by unfold relK; intro h; split <;> simp [h]
theorem fold_flag {α : Type} {f : List Int × Bool → α → List Int × Bool} (hf : ∀ p x, p.2 = true → (f p x).2 = true) : ∀ {l : List α} {p : List Int × Bool}, p.2 = true → (l.foldl f p).2 = true := by
  intro l
  induction l with
  | nil => intro p h; exact h
  | cons a l ih => intro p h; exact ih (hf p a h)
theorem relI_flag {m : MapD} {i : Nat} {p : List Int × Bool} (h : p.2 = true) : (relI m p i).2 = true := by
  unfold relI; split
  · exact h
  · exact fold_flag (fun p x => relK_flag) h
/-- a fold that ends without a flag has changed nothing -/
theorem fold_still {α : Type} {f : List Int × Bool → α → List Int × Bool} (hf : ∀ p x, p.2 = true → (f p x).2 = true) (hs : ∀ o x, (f (o, false) x).2 = false → f (o, false) x = (o, false)) : ∀ {l : List α} {o : List Int}, (l.foldl f (o, false)).2 = false → ∀ x, x ∈ l → f (o, false) x = (o, false) := by
  intro l
  induction l with
  | nil => intro o _ x hx; simp at hx
  | cons a l ih =>
    intro o h x hx
    rw [List.foldl_cons] at h
    have h1 : (f (o, false) a).2 = false := by
      cases e : (f (o, false) a).2
      · rfl
      · rw [fold_flag hf e] at h; cases h
    have h2 := hs o a h1
    rw [h2] at h
    rcases List.mem_cons.1 hx with rfl | hx
    · exact h2
    · exact ih h x hx
theorem relK_still {m : MapD} {i : Nat} (o : List Int) (k : Nat) (h : (relK m i (o, false) k).2 = false) : relK m i (o, false) k = (o, false) := by
  unfold relK at h ⊢; split
  · rename_i hc; rw [if_pos hc] at h; cases h
  · rfl
theorem fold_stillE {α : Type} {f : List Int × Bool → α → List Int × Bool} (hf : ∀ p x, p.2 = true → (f p x).2 = true) (hs : ∀ o x, (f (o, false) x).2 = false → f (o, false) x = (o, false)) {l : List α} {o : List Int} (h : (l.foldl f (o, false)).2 = false) : l.foldl f (o, false) = (o, false) := by
  have h1 := fold_still hf hs h
  clear h
  induction l with
  | nil => rfl
  | cons a l ih =>
    rw [List.foldl_cons, h1 a (List.mem_cons_self ..)]
    exact ih (fun x hx => h1 x (List.mem_cons_of_mem _ hx))
theorem relI_still {m : MapD} (o : List Int) (i : Nat) (h : (relI m (o, false) i).2 = false) : relI m (o, false) i = (o, false) := by
  unfold relI at h ⊢; split
  · rfl
  · rename_i hc
    rw [if_neg hc] at h
    exact fold_stillE (fun p x => relK_flag) relK_still h
/-- at the end no neighbour gives a lesser time -/
theorem timL_edge {m : MapD} (hm : mapB m = true) {b : Nat} (hb : b < m.cost.length) {i k : Nat} (hi : i < m.cost.length) (hk : k < m.cost.length) (hci : nth m.cost i ≠ 0) (hck : 0 < nth m.cost k) (hg : gapI m i k = 1) (hf : nth (timL m b) k < NT) : nth (timL m b) i ≤ nth (timL m b) k + stI m i k := by
  obtain ⟨r, _, _, h⟩ := timL_fix hm hb
  have h1 : ((List.range m.cost.length).foldl (relI m) (timL m b, false)).2 = false := by
    have : relR m (timL m b) = _ := h
    unfold relR at this
    rw [this]
  have h2 := fold_still (fun p x => relI_flag) relI_still h1 i (by simpa using hi)
  unfold relI at h2
  rw [if_neg hci] at h2
  have h3 := fold_still (fun p x => relK_flag) relK_still (by rw [h2]) k (nextL_mem.2 ⟨hk, hck, hg⟩)
  unfold relK at h3
  refine Classical.byContradiction fun hn => ?_
  rw [if_pos ⟨hf, by show nth (timL m b) k + _ < nth (timL m b) i; omega⟩] at h3
  injection h3 with _ h4
  cases h4

/-- cells between which there is a way -/
inductive Conn (m : MapD) : Nat → Nat → Prop
  | refl (a : Nat) : Conn m a a
  | step {a c b : Nat} : a < m.cost.length → 0 < nth m.cost a → c < m.cost.length → 0 < nth m.cost c → gapI m a c = 1 → Conn m c b → Conn m a b
theorem Conn.trans {m : MapD} {a b c : Nat} (h : Conn m a b) (k : Conn m b c) : Conn m a c := by
  induction h with
  | refl => exact k
  | step h1 h2 h3 h4 h5 _ ih => exact .step h1 h2 h3 h4 h5 (ih k)
theorem Conn.symm {m : MapD} {a b : Nat} (h : Conn m a b) : Conn m b a := by
  induction h with
  | refl => exact .refl _
  | step h1 h2 h3 h4 h5 _ ih => exact ih.trans (.step h3 h4 h1 h2 ((gapI_symm _ _ _).trans h5) (.refl _))
/-- finite is what has a way -/
theorem fin_conn {m : MapD} (hm : mapB m = true) {b : Nat} (hb : b < m.cost.length) {a : Nat} (ha : a < m.cost.length) (h : nth (timL m b) a < NT) : Conn m a b := by
  obtain ⟨r, _, e, _⟩ := timL_fix hm hb
  rw [e] at h
  have hall : ∀ r, (iterT m b r).1.length = m.cost.length ∧ ∀ a, a < m.cost.length → nth (iterT m b r).1 a < NT → Conn m a b := fun r => by
    refine iter_keep (I := fun o => o.length = m.cost.length ∧ ∀ a, a < m.cost.length → nth o a < NT → Conn m a b) ⟨by simp [initT], fun a ha h => ?_⟩ (fun q i k hi hk hc hg hci hq => ⟨(relK_len m i k q).trans hq.1, fun a ha h => ?_⟩) r
    · unfold initT at h
      rw [nth_set (by simpa using hb)] at h
      split at h
      · rename_i e; subst e; exact .refl _
      · have : nth (List.replicate m.cost.length NT) a = NT := by simp [nth, ha]
        rw [this] at h; exact absurd h (by decide)
    · unfold relK at h
      split at h
      · rename_i hcc
        have h : nth (q.1.set i (nth q.1 k + stI m i k)) a < NT := h
        rw [nth_set (by have := hq.1; omega)] at h
        by_cases e : i = a
        · subst e
          exact .step hi (by have := (map_at hm hi).1; omega) hk hc hg (hq.2 k hk hcc.1)
        · rw [if_neg e] at h; exact hq.2 a ha h
      · exact hq.2 a ha h
  exact (hall r).2 a ha h
theorem timL_self {m : MapD} (hm : mapB m = true) {b : Nat} (hb : b < m.cost.length) : nth (timL m b) b = 0 := by
  obtain ⟨r, _, e, _⟩ := timL_fix hm hb
  rw [e]
  have hall : ∀ r, OkT m (iterT m b r).1 ∧ nth (iterT m b r).1 b ≤ 0 := fun r => by
    refine iter_keep (I := fun o => OkT m o ∧ nth o b ≤ 0) ⟨init_ok hb, ?_⟩ (fun q i k hi hk hc hg hci hq => ⟨relK_ok hm hq.1 hi hk, ?_⟩) r
    · unfold initT
      rw [nth_set (by simpa using hb), if_pos rfl]; omega
    · unfold relK
      split
      · rename_i hcc
        show nth (q.1.set i _) b ≤ 0
        rw [nth_set (by have := hq.1.len; omega)]
        split
        · rename_i e; subst e; omega
        · exact hq.2
      · exact hq.2
  have h := hall r
  have := (h.1.bd b (by rw [h.1.len]; exact hb)).1
  omega
theorem conn_fin {m : MapD} (hm : mapB m = true) {b : Nat} (hb : b < m.cost.length) {a : Nat} (h : Conn m a b) : nth (timL m b) a < NT := by
  induction h with
  | refl => rw [timL_self hm hb]; decide
  | step h1 h2 h3 h4 h5 _ ih =>
    have hf := ih hb
    have h6 := timL_edge hm hb h1 h3 (by omega) h4 h5 hf
    have h7 := (timL_ok hm hb).fin hm (by rw [(timL_ok hm hb).len]; exact h3) hf
    have h8 := stI_bd hm h1 h3
    have : NT = 1073741824 := rfl
    omega

end Go.Proofs.Ytidcfohlhamgmaa
