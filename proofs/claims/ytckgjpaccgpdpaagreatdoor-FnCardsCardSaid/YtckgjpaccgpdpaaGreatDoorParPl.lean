/-
  Proved here (plain lists): what ParseCard answers: the card whose text a text is, or none; what the words of a card's text give back.
  Conditions: none beyond those in each statement.
-/
import Derived.Test.YtckgjpaccgpdpaaGreatDoorNin
import Derived.Test.YtckgjpaccgpdpaaGreatDoorTxt
namespace Go.Proofs.YtckgjpaccgpdpaaGreatDoor
open Go.RowKit

def noneB : ByteArray := ByteArray.mk #[110, 111, 110, 101]
def minusB : ByteArray := ByteArray.mk #[45, 49]
theorem noneB_eq : noneB = bsOf noneW := rfl
def isNone (W : List ByteArray) : Bool := (nth W 4).toList == noneB.toList
/-- the words, the fifth as a number -/
def setW (W : List ByteArray) : List ByteArray := if isNone W then W.set 4 minusB else W
theorem setW_yes {W : List ByteArray} (h : isNone W = true) : setW W = W.set 4 minusB := by unfold setW; rw [if_pos h]
theorem setW_no {W : List ByteArray} (h : isNone W = false) : setW W = W := by unfold setW; rw [h]; rfl
theorem setW_len (W : List ByteArray) : (setW W).length = W.length := by unfold setW; split <;> simp
theorem nth_set_ne {α : Type} [Inhabited α] {W : List α} {k j : Nat} {x : α} (h : j ≠ k) : nth (W.set k x) j = nth W j := by
  simp [nth, List.getD, Ne.symm h]
theorem nth_set_eq {α : Type} [Inhabited α] {W : List α} {k : Nat} {x : α} (h : k < W.length) : nth (W.set k x) k = x := by
  simp [nth, List.getD, h]
theorem setW_nth {W : List ByteArray} {j : Nat} (h : j ≠ 4) : nth (setW W) j = nth W j := by
  unfold setW; split
  · exact nth_set_ne h
  · rfl
/-- a punch's two words -/
def cutP (x : ByteArray) : List ByteArray := [bsOf (Lib.cut x.data.toList [64]).1, bsOf (Lib.cut x.data.toList [64]).2.1]
def puV (x : ByteArray) : Pch := ⟨nbV (cutP x) 0, nbV (cutP x) 1⟩
def puS (x : ByteArray) : Pch := ⟨nbV (splB 64 x) 0, nbV (splB 64 x) 1⟩
/-- the card that words give -/
def crd (W : List ByteArray) : CardD := ⟨nbV (setW W) 0, nbV (setW W) 2, nbV (setW W) 4, (W.drop 5).map puV⟩
def crdS (W : List ByteArray) : CardD := ⟨nbV W 0, nbV W 2, if isNone W then -1 else nbV W 4, (W.drop 5).map puS⟩
def wordsC (c : CardD) : List ByteArray := bsOf (Lib.itoa c.number) :: bsOf startW :: bsOf (Lib.itoa c.start) :: bsOf finishW :: bsOf (finT c) :: c.ps.map fun p => bsOf (pT p)
theorem wordsC_len (c : CardD) : (wordsC c).length = 5 + c.ps.length := by simp [wordsC]; omega
theorem splB_card (c : CardD) : splB 32 (bsOf (cardT c)) = wordsC c := by
  unfold splB wordsC
  rw [data_bsOf, spl_cardT]
  simp
theorem nbV_of {W : List ByteArray} {p : Nat} {n : Int} (h : nth W p = bsOf (Lib.itoa n)) (h1 : -999999 ≤ n) (h2 : n ≤ 999999) : nbV W p = n ∧ (numOf (nth W p).data.toList).isSome = true := by
  unfold nbV
  rw [h, data_bsOf, numOf_itoa h1 h2]
  exact ⟨rfl, rfl⟩
theorem itoa_m1 : Lib.itoa (-1) = [45, 49] := by
  unfold Lib.itoa
  rw [if_pos (by decide), show (-1 : Int).natAbs = 1 from rfl, Lib.decDigits_one (by decide)]
  rfl
theorem fin_words (c : CardD) : isNone (wordsC c) = decide (c.finish = -1) ∧ (c.finish ≠ -1 → nth (wordsC c) 4 = bsOf (Lib.itoa c.finish)) := by
  have e4 : nth (wordsC c) 4 = bsOf (finT c) := rfl
  by_cases hf : c.finish = -1
  · have e : finT c = noneW := by unfold finT; rw [if_pos hf]
    refine ⟨?_, fun h => absurd hf h⟩
    unfold isNone
    rw [e4, e, ← noneB_eq, decide_eq_true hf]
    simp
  · have e : finT c = Lib.itoa c.finish := by unfold finT; rw [if_neg hf]
    refine ⟨?_, fun _ => by rw [e4, e]⟩
    rw [decide_eq_false hf]
    unfold isNone
    refine eqS_no fun h2 => ?_
    rw [e4, e, noneB_eq] at h2
    have h3 := bsOf_inj h2
    have h4 : (110 : UInt8) ∈ Lib.itoa c.finish := by rw [h3]; decide
    exact itoa_no (by decide) (by decide) h4
theorem head_words {c : CardD} (h : CardBd c) : (nbV (setW (wordsC c)) 0 = c.number ∧ nbV (setW (wordsC c)) 2 = c.start ∧ nbV (setW (wordsC c)) 4 = c.finish) ∧ nbB (setW (wordsC c)) [0, 2, 4] = true := by
  obtain ⟨f1, f2⟩ := fin_words c
  have h0 := nbV_of (W := setW (wordsC c)) (p := 0) (n := c.number) (by rw [setW_nth (by decide)]; rfl) (by have := h.num; omega) (by have := h.num; omega)
  have h2 := nbV_of (W := setW (wordsC c)) (p := 2) (n := c.start) (by rw [setW_nth (by decide)]; rfl) (by have := h.st; omega) (by have := h.st; omega)
  have h4 : nbV (setW (wordsC c)) 4 = c.finish ∧ (numOf (nth (setW (wordsC c)) 4).data.toList).isSome = true := by
    by_cases hf : c.finish = -1
    · rw [decide_eq_true hf] at f1
      refine nbV_of ?_ (by omega) (by omega)
      rw [setW_yes f1, nth_set_eq (by rw [wordsC_len]; omega), hf, itoa_m1]
      rfl
    · rw [decide_eq_false hf] at f1
      refine nbV_of ?_ (by rcases h.fin with h | h <;> omega) (by rcases h.fin with h | h <;> omega)
      rw [setW_no f1]
      exact f2 hf
  refine ⟨⟨h0.1, h2.1, h4.1⟩, ?_⟩
  unfold nbB
  have hl : (setW (wordsC c)).length = 5 + c.ps.length := by rw [setW_len, wordsC_len]
  refine upto_true.2 fun k hk => ?_
  simp only [List.length_cons, List.length_nil] at hk
  unfold okW
  rw [hl]
  match k, hk with
  | 0, _ => simp only [nth, List.getD_cons_zero]; exact (by rw [show (numOf ((setW (wordsC c)).getD 0 default).data.toList).isSome = true from h0.2]; simp; omega)
  | 1, _ => simp only [nth, List.getD_cons_zero, List.getD_cons_succ]; exact (by rw [show (numOf ((setW (wordsC c)).getD 2 default).data.toList).isSome = true from h2.2]; simp; omega)
  | 2, _ => simp only [nth, List.getD_cons_zero, List.getD_cons_succ]; exact (by rw [show (numOf ((setW (wordsC c)).getD 4 default).data.toList).isSome = true from h4.2]; simp; omega)
theorem punch_words {p : Pch} (h1 : 31 ≤ p.code ∧ p.code ≤ 99) (h2 : 0 ≤ p.time ∧ p.time ≤ 36000) : puV (bsOf (pT p)) = p ∧ nbB (cutP (bsOf (pT p))) [0, 1] = true ∧ puS (bsOf (pT p)) = p ∧ (splB 64 (bsOf (pT p))).length = 2 := by
  have e : cutP (bsOf (pT p)) = [bsOf (Lib.itoa p.code), bsOf (Lib.itoa p.time)] := by unfold cutP; rw [data_bsOf, cut_pT]
  have e2 : splB 64 (bsOf (pT p)) = [bsOf (Lib.itoa p.code), bsOf (Lib.itoa p.time)] := by unfold splB; rw [data_bsOf, spl_pT]; rfl
  have a0 := nbV_of (W := [bsOf (Lib.itoa p.code), bsOf (Lib.itoa p.time)]) (p := 0) (n := p.code) rfl (by omega) (by omega)
  have a1 := nbV_of (W := [bsOf (Lib.itoa p.code), bsOf (Lib.itoa p.time)]) (p := 1) (n := p.time) rfl (by omega) (by omega)
  refine ⟨?_, ?_, ?_, by rw [e2]; rfl⟩
  · unfold puV; rw [e, a0.1, a1.1]
  · rw [e]
    unfold nbB
    refine upto_true.2 fun k hk => ?_
    simp only [List.length_cons, List.length_nil] at hk
    unfold okW
    match k, hk with
    | 0, _ => simp only [nth, List.getD_cons_zero]; exact (by rw [show (numOf (bsOf (Lib.itoa p.code)).data.toList).isSome = true from a0.2]; rfl)
    | 1, _ => simp only [nth, List.getD_cons_zero, List.getD_cons_succ]; exact (by rw [show (numOf (bsOf (Lib.itoa p.time)).data.toList).isSome = true from a1.2]; rfl)
  · unfold puS; rw [e2, a0.1, a1.1]
theorem map_id_of {f : Pch → Pch} : ∀ {ps : List Pch}, (∀ p ∈ ps, f p = p) → ps.map f = ps
  | [], _ => rfl
  | p :: ps, h => by
    rw [List.map_cons, h p (by simp), map_id_of (fun q hq => h q (by simp [hq]))]
theorem CardBd.mem {c : CardD} (h : CardBd c) {p : Pch} (hp : p ∈ c.ps) : (31 ≤ p.code ∧ p.code ≤ 99) ∧ (0 ≤ p.time ∧ p.time ≤ 36000) := by
  obtain ⟨k, hk, rfl⟩ := List.getElem_of_mem hp
  have := h.ps k hk
  have e : nth c.ps k = c.ps[k] := by simp [nth, List.getD, List.getElem?_eq_getElem hk]
  rw [e] at this
  exact this
theorem crd_words {c : CardD} (h : CardBd c) : crd (wordsC c) = c := by
  obtain ⟨⟨h0, h2, h4⟩, _⟩ := head_words h
  unfold crd
  rw [h0, h2, h4]
  have e : (wordsC c).drop 5 = c.ps.map fun p => bsOf (pT p) := rfl
  rw [e, List.map_map, map_id_of (f := puV ∘ fun p => bsOf (pT p)) (fun p hp => (punch_words (h.mem hp).1 (h.mem hp).2).1)]
theorem crdS_words {c : CardD} (h : CardBd c) : crdS (wordsC c) = c := by
  obtain ⟨f1, f2⟩ := fin_words c
  unfold crdS
  have h0 := nbV_of (W := wordsC c) (p := 0) (n := c.number) rfl (by have := h.num; omega) (by have := h.num; omega)
  have h2 := nbV_of (W := wordsC c) (p := 2) (n := c.start) rfl (by have := h.st; omega) (by have := h.st; omega)
  have h4 : (if isNone (wordsC c) then -1 else nbV (wordsC c) 4) = c.finish := by
    by_cases hf : c.finish = -1
    · rw [f1, decide_eq_true hf, if_pos rfl, hf]
    · rw [f1, decide_eq_false hf]
      exact (nbV_of (f2 hf) (by rcases h.fin with h | h <;> omega) (by rcases h.fin with h | h <;> omega)).1
  rw [h0.1, h2.1, h4]
  have e : (wordsC c).drop 5 = c.ps.map fun p => bsOf (pT p) := rfl
  rw [e, List.map_map, map_id_of (f := puS ∘ fun p => bsOf (pT p)) (fun p hp => (punch_words (h.mem hp).1 (h.mem hp).2).2.2.1)]

/-- the text is a card's text -/
def prB (s : ByteArray) : Bool := cardB (crd (splB 32 s)) && decide (bsOf (cardT (crd (splB 32 s))) = s)
def prC (s : ByteArray) : CardD := if prB s then crd (splB 32 s) else ⟨0, 0, 0, []⟩
theorem pr_yes {s : ByteArray} {c : CardD} (h1 : cardB c = true) (h2 : bsOf (cardT c) = s) : prB s = true ∧ prC s = c := by
  have e : crd (splB 32 s) = c := by rw [← h2, splB_card, crd_words (card_bd h1)]
  have hB : prB s = true := by unfold prB; rw [e, h1, h2]; simp
  exact ⟨hB, by unfold prC; rw [if_pos hB, e]⟩
theorem pr_no {s : ByteArray} (h : ∀ c, cardB c = true → bsOf (cardT c) = s → False) : prB s = false ∧ prC s = ⟨0, 0, 0, []⟩ := by
  have hB : prB s = false := by
    cases e : prB s with
    | false => rfl
    | true =>
      unfold prB at e
      rw [Bool.and_eq_true, decide_eq_true_eq] at e
      exact (h _ e.1 e.2).elim
  exact ⟨hB, by unfold prC; rw [hB]; rfl⟩
/-- what holds of the words of every card's text, or the text is none's -/
theorem pr_bad {s : ByteArray} {R : List ByteArray → Prop} (hR : ∀ c, CardBd c → R (wordsC c)) (h : ¬ R (splB 32 s)) : prB s = false ∧ prC s = ⟨0, 0, 0, []⟩ :=
  pr_no fun c h1 h2 => h (by rw [← h2, splB_card]; exact hR c (card_bd h1))
theorem pr_ok {s : ByteArray} {c : CardD} (h1 : cardB c = true) (h2 : bsOf (cardT c) = s) : CardBd (prC s) := by rw [(pr_yes h1 h2).2]; exact card_bd h1
theorem pr_zero {s : ByteArray} (h : prB s = false) : prC s = ⟨0, 0, 0, []⟩ := by unfold prC; rw [h]; rfl
theorem pr_cardB {s : ByteArray} (h : cardB (crd (splB 32 s)) = false) : prB s = false ∧ prC s = ⟨0, 0, 0, []⟩ := by
  have e : prB s = false := by unfold prB; rw [h]; rfl
  exact ⟨e, pr_zero e⟩
theorem pr_text {s : ByteArray} (h : bsOf (cardT (crd (splB 32 s))) ≠ s) : prB s = false ∧ prC s = ⟨0, 0, 0, []⟩ := by
  have e : prB s = false := by unfold prB; rw [decide_eq_false h, Bool.and_false]
  exact ⟨e, pr_zero e⟩
theorem prC_len (s : ByteArray) : (prC s).ps.length ≤ 12 := by
  cases e : prB s with
  | false => unfold prC; rw [e]; simp
  | true =>
    have e2 := e
    unfold prB at e2
    rw [Bool.and_eq_true] at e2
    unfold prC
    rw [if_pos e]
    exact (card_bd e2.1).len

end Go.Proofs.YtckgjpaccgpdpaaGreatDoor
