/-
  Proved here: what FnCards asks of found, missing and extra: found places rise, bear their codes, are not extra; the counts; the most that can be found; what the laws' vHas returns; what the cursor's spoilt and DrawParseCard hand back: some text.
  Conditions: those in each statement.
-/
import Derived.Test.YtckgjpaccgpdpaaGreatDoorCards8
import Derived.Test.YtckgjpaccgpdpaaGreatDoorCards10
import Derived.Test.YtckgjpaccgpdpaaGreatDoorSearch
import Derived.Test.YtckgjpaccgpdpaaGreatDoorDrawC
import Derived.Test.YtckgjpaccgpdpaaGreatDoorTxt
import Derived.Deep.DeepCutAuto
import Derived.Deep.CutBlock
namespace Go.Proofs.YtckgjpaccgpdpaaGreatDoor
open Go.RowKit

theorem fI_or (c : CardD) (cs : List Int) (k : Nat) : (fI c cs k < 0 ∧ fI c cs k = -1 ∧ fN c cs (k + 1) = fN c cs k) ∨ ∃ q : Nat, fI c cs k = (q : Int) ∧ fN c cs k ≤ q ∧ q < c.ps.length ∧ fN c cs (k + 1) = q + 1 ∧ (nth c.ps q).code = nth cs k := by
  cases h : atU c (nth cs k) (fN c cs k) with
  | none => exact .inl ⟨by unfold fI; rw [h]; decide, by unfold fI; rw [h], by rw [fN, h]⟩
  | some q =>
    have h1 := atU_lt h
    refine .inr ⟨q, by unfold fI; rw [h], h1.1, h1.2, by rw [fN, h], ?_⟩
    rw [atU, List.find?_range_eq_some] at h
    have h2 := h.1
    simp only [Bool.and_eq_true, decide_eq_true_eq, beq_iff_eq] at h2
    exact h2.2
/-- how many codes of the first are found -/
def cntF (c : CardD) (cs : List Int) : Nat → Nat
  | 0 => 0
  | i + 1 => if fI c cs i < 0 then cntF c cs i else cntF c cs i + 1
/-- the places at which codes of the first are found -/
def foN (c : CardD) (cs : List Int) : Nat → List Nat
  | 0 => []
  | i + 1 => if fI c cs i < 0 then foN c cs i else foN c cs i ++ [(fI c cs i).toNat]
theorem cntF_le (c : CardD) (cs : List Int) : ∀ i, cntF c cs i ≤ i
  | 0 => Nat.le_refl _
  | i + 1 => by unfold cntF; have := cntF_le c cs i; split <;> omega
theorem foN_len (c : CardD) (cs : List Int) : ∀ i, (foN c cs i).length = cntF c cs i
  | 0 => rfl
  | i + 1 => by unfold foN cntF; split <;> simp [foN_len c cs i]
theorem foN_lt (c : CardD) (cs : List Int) : ∀ i, ∀ x ∈ foN c cs i, x < fN c cs i := by
  intro i
  induction i with
  | zero => intro x hx; simp [foN] at hx
  | succ i ih =>
    intro x hx
    rcases fI_or c cs i with ⟨h1, _, h3⟩ | ⟨q, h1, h2, h3, h4, _⟩
    · rw [foN, if_pos h1] at hx
      rw [h3]; exact ih x hx
    · rw [foN, if_neg (by omega), List.mem_append, List.mem_singleton] at hx
      rw [h4]
      rcases hx with hx | rfl
      · have := ih x hx; omega
      · rw [h1]; simp
theorem foN_nodup (c : CardD) (cs : List Int) : ∀ i, (foN c cs i).Nodup := by
  intro i
  induction i with
  | zero => simp [foN]
  | succ i ih =>
    rcases fI_or c cs i with ⟨h1, _, h3⟩ | ⟨q, h1, h2, h3, h4, _⟩
    · rw [foN, if_pos h1]; exact ih
    · rw [foN, if_neg (by omega), List.nodup_append]
      refine ⟨ih, by simp, fun a ha b hb => ?_⟩
      simp only [List.mem_singleton] at hb
      have := foN_lt c cs i a ha
      rw [h1] at hb
      simp at hb
      omega
theorem foN_mem (c : CardD) (cs : List Int) : ∀ i (q : Nat), q ∈ foN c cs i ↔ ∃ k, k < i ∧ fI c cs k = (q : Int) := by
  intro i
  induction i with
  | zero => intro q; simp [foN]
  | succ i ih =>
    intro q
    rcases fI_or c cs i with ⟨h1, h2, _⟩ | ⟨p, h1, _⟩
    · rw [foN, if_pos h1, ih]
      constructor
      · rintro ⟨k, hk, e⟩; exact ⟨k, by omega, e⟩
      · rintro ⟨k, hk, e⟩
        by_cases hki : k = i
        · subst hki; omega
        · exact ⟨k, by omega, e⟩
    · rw [foN, if_neg (by omega), List.mem_append, List.mem_singleton, ih]
      constructor
      · rintro (⟨k, hk, e⟩ | rfl)
        · exact ⟨k, by omega, e⟩
        · exact ⟨i, by omega, by rw [h1]; simp⟩
      · rintro ⟨k, hk, e⟩
        by_cases hki : k = i
        · subst hki; exact .inr (by omega)
        · exact .inl ⟨k, by omega, e⟩
theorem cnt_lt (k : Nat) : ∀ L : List Nat, L.Nodup → L.countP (fun x => decide (x < k + 1)) = L.countP (fun x => decide (x < k)) + if k ∈ L then 1 else 0 := by
  intro L
  induction L with
  | nil => intro _; simp
  | cons x L ih =>
    intro hn
    rw [List.nodup_cons] at hn
    have h := ih hn.2
    rw [List.countP_cons, List.countP_cons, h]
    by_cases hx : x = k
    · subst hx
      simp [hn.1]
    · have hx2 : ¬ k = x := fun e => hx e.symm
      simp only [List.mem_cons, hx2, false_or]
      by_cases hlt : x < k
      · simp [hlt, show x < k + 1 by omega]; omega
      · simp [hlt, show ¬ x < k + 1 by omega]
/-- the last place found -/
def lastF (c : CardD) (cs : List Int) : Nat → Int
  | 0 => -1
  | i + 1 => if fI c cs i < 0 then lastF c cs i else fI c cs i
theorem lastF_eq (c : CardD) (cs : List Int) : ∀ i, lastF c cs i = (fN c cs i : Int) - 1 := by
  intro i
  induction i with
  | zero => rfl
  | succ i ih =>
    rcases fI_or c cs i with ⟨h1, _, h3⟩ | ⟨q, h1, h2, h3, h4, _⟩
    · rw [lastF, if_pos h1, ih, h3]
    · rw [lastF, if_neg (by omega), h1, h4]; omega
theorem mi_cnt (c : CardD) (cs : List Int) : ∀ i, cntF c cs i + (miU c cs i).length = i
  | 0 => rfl
  | i + 1 => by
    have := mi_cnt c cs i
    unfold cntF miU
    split
    · rw [List.length_append]; simp; omega
    · omega
theorem hasF_iff (c : CardD) (cs : List Int) (k : Nat) : hasI (fL c cs cs.length) cs.length k = decide (k ∈ foN c cs cs.length) := by
  by_cases h : k ∈ foN c cs cs.length
  · obtain ⟨j, hj, e⟩ := (foN_mem c cs _ k).1 h
    rw [decide_eq_true h]
    exact hasI_yes hj (by rw [fL_nth c cs hj, e])
  · rw [decide_eq_false h]
    refine hasI_no fun j hj e => h ((foN_mem c cs _ k).2 ⟨j, hj, ?_⟩)
    rw [fL_nth c cs hj] at e
    exact e
theorem ex_cnt (c : CardD) (cs : List Int) : ∀ k, (foN c cs cs.length).countP (fun x => decide (x < k)) + (exU c cs k).length = k := by
  intro k
  induction k with
  | zero => simp [exU]
  | succ k ih =>
    rw [cnt_lt k _ (foN_nodup c cs _), exU, hasF_iff]
    by_cases h : k ∈ foN c cs cs.length
    · simp only [h, decide_true, if_true]; omega
    · simp only [h, decide_false, if_false, Bool.false_eq_true]; rw [List.length_append]; simp; omega
theorem ex_all (c : CardD) (cs : List Int) : cntF c cs cs.length + (exU c cs c.ps.length).length = c.ps.length := by
  have h := ex_cnt c cs c.ps.length
  have e : (foN c cs cs.length).countP (fun x => decide (x < c.ps.length)) = (foN c cs cs.length).length := by
    rw [List.countP_eq_length]
    intro x hx
    have h1 := foN_lt c cs _ x hx
    have h2 := fN_le c cs cs.length
    simp; omega
  rw [e, foN_len] at h
  exact h
theorem exU_no (c : CardD) (cs : List Int) {q : Nat} (hq : q ∈ foN c cs cs.length) : ∀ k, (q : Int) ∉ exU c cs k := by
  intro k
  induction k with
  | zero => simp [exU]
  | succ k ih =>
    rw [exU, hasF_iff]
    by_cases h : k ∈ foN c cs cs.length
    · simp only [h, decide_true, if_true]; exact ih
    · simp only [h, decide_false, Bool.false_eq_true, if_false, List.mem_append, List.mem_singleton, not_or]
      refine ⟨ih, fun e => h ?_⟩
      have : q = k := by omega
      rw [← this]; exact hq
/-- the codes found, in order -/
def foC (c : CardD) (cs : List Int) : Nat → List Int
  | 0 => []
  | i + 1 => if fI c cs i < 0 then foC c cs i else foC c cs i ++ [nth cs i]
theorem foC_len (c : CardD) (cs : List Int) : ∀ i, (foC c cs i).length = cntF c cs i
  | 0 => rfl
  | i + 1 => by unfold foC cntF; split <;> simp [foC_len c cs i]
theorem take_snoc {xs : List Int} {k : Nat} (h : k < xs.length) : xs.take (k + 1) = xs.take k ++ [nth xs k] := by
  have e : nth xs k = xs[k] := by simp [nth, List.getD, List.getElem?_eq_getElem h]
  rw [List.take_add_one, List.getElem?_eq_getElem h, e]; rfl
theorem foC_sub (c : CardD) (cs : List Int) : ∀ i, i ≤ cs.length → List.Sublist (foC c cs i) (cs.take i) ∧ List.Sublist (foC c cs i) ((pco c).take (fN c cs i)) := by
  intro i
  induction i with
  | zero => intro _; simp [foC]
  | succ i ih =>
    intro hi
    obtain ⟨h1, h2⟩ := ih (by omega)
    rw [take_snoc (show i < cs.length by omega)]
    rcases fI_or c cs i with ⟨g1, _, g3⟩ | ⟨q, g1, g2, g3, g4, g5⟩
    · rw [foC, if_pos g1, g3]
      exact ⟨h1.trans (List.sublist_append_left _ _), h2⟩
    · rw [foC, if_neg (by omega), g4, take_snoc (xs := pco c) (by rw [pco_len]; exact g3), pco_nth g3, g5]
      exact ⟨h1.append (List.Sublist.refl _), (h2.trans (List.take_sublist_take_left g2)).append (List.Sublist.refl _)⟩
theorem most_ge (c : CardD) (cs : List Int) : cntF c cs cs.length ≤ lcsB cs (pco c) 0 0 ∧ lcsB cs (pco c) 0 0 ≤ cs.length := by
  obtain ⟨h1, h2⟩ := foC_sub c cs cs.length (Nat.le_refl _)
  unfold lcsB
  rw [List.drop_zero, List.drop_zero]
  refine ⟨?_, (lcs_le _ _).1⟩
  rw [← foC_len]
  refine lcs_ge _ _ _ _ (Nat.le_refl _) ?_ (h2.trans (List.take_sublist _ _))
  rw [List.take_length] at h1
  exact h1


theorem laws_vHas {ao : Option Addr} {cap n : Nat} {xs : List Int} {v : Int} {w : World} (h : RowAt w ao 1 n (ic xs)) (hn : n ≤ 9223372036854775807) :
    Calls Tryz.prog 15 #[.slice ao n cap, .int .i64 v] w fun e w' => e = .returned (.bool (hasI xs n v)) ∧ Ext w w' := by
  go_enter Tryz.func15, Tryz.ntmps15
  go_wp2
  go_loopw [5] (fun i wr => ∃ k : Nat, k ≤ n ∧ i = .int .i64 k ∧ Ext w wr ∧ ∀ j, j < k → nth xs j ≠ v) (fun i _ => n - (intOf i).toNat)
  case atStart => exact ⟨0, Nat.zero_le _, rfl, Ext.refl _, fun j hj => by omega⟩
  case round =>
    obtain ⟨k, hk, rfl, hx, hb⟩ := hrel
    have HB := Lib.hid hb; clear hb
    by_cases hlt : k < n
    · obtain ⟨b, off, rfl, hcell⟩ := intsN h (by omega)
      have d0 := hx.cells (hcell k hlt)
      clear hcell h
      by_cases hv : nth xs k = v
      · have hv' : (nth xs k == v) = true := by simp [hv]
        have HV := Lib.hid hv; clear hv
        go_wp2
        go_ret
        exact ⟨ret_b (by rw [hasI_yes hlt HV.out]), (by repeat (first | (with_reducible exact Ext.refl _) | (with_reducible assumption) | with_reducible refine Ext.drew ?_ | with_reducible refine Ext.alloc ?_ _ | with_reducible refine Ext.setCell ?_ (by first | (simp; done) | (simp; omega) | omega) _ | with_reducible refine Ext.trans ?_ (by with_reducible assumption)))⟩
      · have hv' : (nth xs k == v) = false := by simp [hv]
        go_wp2
        go_roundw
        case rel => exact ⟨k + 1, by omega, by go_num, (by repeat (first | (with_reducible exact Ext.refl _) | (with_reducible assumption) | with_reducible refine Ext.drew ?_ | with_reducible refine Ext.alloc ?_ _ | with_reducible refine Ext.setCell ?_ (by first | (simp; done) | (simp; omega) | omega) _ | with_reducible refine Ext.trans ?_ (by with_reducible assumption))), fun j hj => by by_cases e : j = k; (subst e; exact hv); exact HB.out j (by omega)⟩
        case measure => simp [intOf]; omega
    · have hkn : k = n := by omega
      subst hkn
      go_wp2
      go_ret
      exact ⟨ret_b (by rw [hasI_no HB.out]), (by repeat (first | (with_reducible exact Ext.refl _) | (with_reducible assumption) | with_reducible refine Ext.drew ?_ | with_reducible refine Ext.alloc ?_ _ | with_reducible refine Ext.setCell ?_ (by first | (simp; done) | (simp; omega) | omega) _ | with_reducible refine Ext.trans ?_ (by with_reducible assumption)))⟩

open Go.ChangeShapes Go.WideShapes Go.ChangeAt Go.RowKit

theorem ba_size_append (a b : ByteArray) : (a ++ b).size = a.size + b.size := by simp
theorem ba_size_extract (s : ByteArray) (a b : Nat) : (s.extract a b).size = min b s.size - a := by simp
theorem add_ba {a b : ByteArray} (h : a.size + b.size ≤ 9223372036854775807) (w : World) : (Op.stringOp .add a b).run Tryz.prog w = .ok (.string (a ++ b)) w := run_string_add_sum w a b h

set_option maxRecDepth 100000 in
set_option maxHeartbeats 4000000 in
theorem cu_spoilt {B n : Nat} {t : ByteArray} {w : World} (h : Cu w B n) (hn : n ≤ 900000) (h1 : 1 ≤ t.size) (h2 : t.size ≤ 200) :
    Calls Tryz.prog 46 #[.pointer (some ⟨B, 0, none⟩), .string t, .string (ByteArray.mk #[49, 32, 64, 110, 48])] w fun e w' => ∃ s : ByteArray, e = .returned (.string s) ∧ s.size ≤ 1000 ∧ Cu w' B (n + 3) ∧ Touch w w' (Span B (B + 1)) := by
  have HP1 := Lib.hid (cu_pick (N := t.size) h (by omega) (by omega) (by omega))
  have hne : t.toList ≠ [] := fun e => by
    rw [Lib.toList_data] at e
    have : t.size = 0 := by rw [Lib.size_eq, e]; rfl
    omega
  have hne2 : (t.toList == []) = false := by
    cases e : (t.toList == [])
    · rfl
    · exact absurd (by simpa using e) hne
  clear h hne
  go_enter Tryz.func46, Tryz.ntmps46
  go_wp2_with fail
  refine HP1.out.mono ?_; rintro e w1 ⟨x, rfl, ⟨hx0, hx1⟩, hc1, ht1⟩
  obtain ⟨xn, rfl⟩ : ∃ k : Nat, x = k := ⟨x.toNat, by omega⟩
  have HP2 := Lib.hid (cu_pick (N := 5) hc1 (by omega) (by decide) (by decide))
  have HT1 := Lib.hid ht1
  clear hc1 ht1 HP1
  go_wp2_with fail
  refine HP2.out.mono ?_; rintro e w2 ⟨y, rfl, ⟨hy0, hy1⟩, hc2, ht2⟩
  obtain ⟨yn, rfl⟩ : ∃ k : Nat, y = k := ⟨y.toNat, by omega⟩
  have HP3 := Lib.hid (cu_pick (N := 3) hc2 (by omega) (by decide) (by decide))
  have HT2 := Lib.hid (HT1.out.trans ht2)
  clear hc2 ht2 HP2 HT1
  have y5 : (yn : Int) ≤ 5 := by omega
  have hsz : ((ByteArray.mk #[49, 32, 64, 110, 48]).extract yn 5).size = 5 - yn := by
    rw [ba_size_extract, show (ByteArray.mk #[49, 32, 64, 110, 48]).size = 5 from rfl]; omega
  have hszi : (1 : Int) ≤ (((ByteArray.mk #[49, 32, 64, 110, 48]).extract yn 5).size : Int) := by rw [hsz]; omega
  obtain ⟨K, hK⟩ : ∃ K : ByteArray, K = ((ByteArray.mk #[49, 32, 64, 110, 48]).extract yn 5).extract 0 1 := ⟨_, rfl⟩
  have hks : K.size ≤ 1 := by rw [hK, ba_size_extract]; omega
  clear hsz
  go_upto_region 5 with fail
  rw [← hK]
  clear hK hszi y5 hy0 hy1
  have hta : t.size ≤ 9223372036854775807 := by omega
  have x1 : (xn : Int) ≤ (t.size : Int) := by omega
  have x2 : (xn : Int) + 1 ≤ (t.size : Int) := by omega
  have s0 : (t.extract 0 xn).size = xn := by rw [ba_size_extract]; omega
  have s1 : (t.extract xn t.size).size = t.size - xn := by rw [ba_size_extract]; omega
  have s2 : (t.extract (xn + 1) t.size).size = t.size - (xn + 1) := by rw [ba_size_extract]; omega
  have s3 : (t.extract 0 xn ++ K).size ≤ 201 := by rw [ba_size_append, s0]; omega
  have a1 : ∀ y : World, (Op.stringOp .add (t.extract 0 xn) K).run Tryz.prog y = .ok (.string (t.extract 0 xn ++ K)) y := fun y => add_ba (by rw [s0]; omega) y
  have a2 : ∀ y : World, (Op.stringOp .add (t.extract 0 xn ++ K) (t.extract xn t.size)).run Tryz.prog y = .ok (.string ((t.extract 0 xn ++ K) ++ t.extract xn t.size)) y := fun y => add_ba (by rw [s1]; omega) y
  have a3 : ∀ y : World, (Op.stringOp .add (t.extract 0 xn ++ K) (t.extract (xn + 1) t.size)).run Tryz.prog y = .ok (.string ((t.extract 0 xn ++ K) ++ t.extract (xn + 1) t.size)) y := fun y => add_ba (by rw [s2]; omega) y
  have a4 : ∀ y : World, (Op.stringOp .add (t.extract 0 xn) (t.extract (xn + 1) t.size)).run Tryz.prog y = .ok (.string (t.extract 0 xn ++ t.extract (xn + 1) t.size)) y := fun y => add_ba (by rw [s0, s2]; omega) y
  have HS1 := Lib.hid (show ((t.extract 0 xn ++ K) ++ t.extract xn t.size).size ≤ 1000 by rw [ba_size_append, s1]; omega)
  have HS2 := Lib.hid (show ((t.extract 0 xn ++ K) ++ t.extract (xn + 1) t.size).size ≤ 1000 by rw [ba_size_append, s2]; omega)
  have HS3 := Lib.hid (show (t.extract 0 xn ++ t.extract (xn + 1) t.size).size ≤ 1000 by rw [ba_size_append, s0, s2]; omega)
  clear s0 s1 s2 s3 hks hta
  go_wp2_with fail
  refine HP3.out.mono ?_; rintro e w3 ⟨z, rfl, ⟨hz0, hz1⟩, hc3, ht3⟩
  have HC3 := Lib.hid hc3
  have HT3 := Lib.hid (HT2.out.trans ht3)
  clear hc3 ht3 HP3 HT2
  rcases (show z = 0 ∨ z = 1 ∨ z = 2 by omega) with rfl | rfl | rfl
  · clear hz0 hz1 a3 a4 HS2 HS3
    go_wp2_with fail
    refine wp_region_ext (by kernel_rfl) (by kernel_rfl) ?_
    repeat (go_big_quiet_step (fail))
    refine wpQuiet_nil ?_
    rintro _ ⟨⟨w1, hx1⟩, rfl⟩
    go_wp2
    go_ret
    exact ⟨_, rfl, HS1.out, HC3.out.ext hx1, HT3.out.trans (Touch.of_ext hx1)⟩
  · clear hz0 hz1 a2 a4 HS1 HS3
    go_wp2_with fail
    refine wp_region_ext (by kernel_rfl) (by kernel_rfl) ?_
    repeat (go_big_quiet_step (fail))
    refine wpQuiet_nil ?_
    rintro _ ⟨⟨w1, hx1⟩, rfl⟩
    go_wp2
    go_ret
    exact ⟨_, rfl, HS2.out, HC3.out.ext hx1, HT3.out.trans (Touch.of_ext hx1)⟩
  · clear hz0 hz1 a1 a2 a3 HS1 HS2
    go_wp2_with fail
    refine wp_region_ext (by kernel_rfl) (by kernel_rfl) ?_
    repeat (go_big_quiet_step (fail))
    refine wpQuiet_nil ?_
    rintro _ ⟨⟨w1, hx1⟩, rfl⟩
    go_wp2
    go_ret
    exact ⟨_, rfl, HS3.out, HC3.out.ext hx1, HT3.out.trans (Touch.of_ext hx1)⟩

/-- the text that stands for one that is no card's -/
def textQ : ByteArray := ByteArray.mk #[49, 55, 32, 115, 116, 97, 114, 116, 32, 48, 32, 102, 105, 110, 105, 115, 104, 32, 57, 48, 48, 32, 51, 49, 64, 49, 48, 48, 32, 52, 53, 64, 51, 50, 48]

set_option maxRecDepth 100000 in
set_option maxHeartbeats 4000000 in
theorem draw_parse {w : World} {co : Option Addr} {m cc : Nat} {bs : Nat → Nat} (hr : RowAt w co 1 m (by8 bs)) (hb : ∀ k, bs k < 256) (hm : m ≤ 9223372036854775807) :
    Calls Tryz.prog 22 #[.slice co m cc] w fun e w' => ∃ s : ByteArray, e = .returned (.string s) ∧ s.size ≤ 1000 ∧ Ext w w' := by
  have H0 := fun T => cu_box (cc := cc) (T := T) hr hb hm
  have H := Lib.hid (fun T => cu_codes12 (H0 T) (by omega))
  have HX0 := Lib.hid (Ext.refl w)
  clear hr hb H0
  go_enter Tryz.func22, Tryz.ntmps22
  go_wp2_with fail
  refine (H.out _).mono ?_; rintro e w1 ⟨ao, cap, xs, rfl, hxl, hF, hcap, hc, ht⟩
  simp only [World.size_alloc] at hF
  have hlow := ht.size
  simp only [World.size_alloc] at hlow
  have HE1 : Hid (Ext w w1) := Lib.hid (Touch.spanExt ((Ext.refl w).alloc _) ht (Nat.le_refl _))
  have H2 := Lib.hid (cu_card (cap := cap) hc (by omega) hF.row hxl (fun a e => by have := (hF.base a e).1; omega))
  clear hF hcap hc ht H
  go_wp2_with fail
  refine H2.out.mono ?_; rintro e w2 ⟨c, b, off, gc, rfl, hp, hok, hg1, hg2, hF, hc, ht⟩
  have HE2 : Hid (Ext w w2) := Lib.hid (Touch.spanExt HE1.out ht (Nat.le_refl _))
  have HT := Lib.hid (spec_CardText (c := c) (cap := gc) hF.row (by omega))
  have HC := Lib.hid hc
  have HQ : Hid (cardB c = true → 1 ≤ (bsOf (cardT c)).size ∧ (bsOf (cardT c)).size ≤ 200) := Lib.hid (fun h => by
    have h1 := (card_bd h).textLen
    rw [bsOf_size]
    refine ⟨?_, by omega⟩
    obtain ⟨d, r, e, _⟩ := digits_cons c.number.toNat
    have : (Lib.itoa c.number).length ≥ 1 := by
      have hn := (card_bd h).num
      unfold Lib.itoa; rw [if_neg (by omega), e]; simp
    unfold cardT headT
    simp only [List.length_append, List.length_cons]
    omega)
  clear hp hok hg1 hg2 hF hc ht H2 HE1
  unfold CardD.val at HT ⊢
  obtain ⟨N, hN⟩ : ∃ N, N = cardB c := ⟨_, rfl⟩
  obtain ⟨TX, hTX⟩ : ∃ TX, TX = bsOf (cardT c) := ⟨_, rfl⟩
  rw [← hN, ← hTX] at HT HQ
  clear hN hTX
  go_wp2_with fail
  refine HT.out.mono ?_; rintro e w3 ⟨rfl, hx3⟩
  have HC3 := Lib.hid (HC.out.ext hx3)
  have HE3 := Lib.hid (HE2.out.trans hx3)
  clear hx3 HT HC HE2
  go_upto_if 18 with fail
  go_cut [4] (fun v wx => ∃ t : ByteArray, v = .string t ∧ 1 ≤ t.size ∧ t.size ≤ 200 ∧ wx = w3)
  case first =>
    cases N
    · go_wp2_with fail
      go_meet
      exact ⟨textQ, rfl, by decide, by decide, rfl⟩
    · have hq := HQ.out rfl
      have HQ2 := Lib.hid hq
      clear hq
      go_wp2_with fail
      go_meet
      exact ⟨TX, rfl, HQ2.out.1, HQ2.out.2, rfl⟩
  case rest =>
  obtain ⟨t, rfl, ht1, ht2, rfl⟩ := hcut
  have HP := Lib.hid (cu_one (N := 4) HC3.out (by omega) (by decide) (by decide))
  clear HC3 HQ
  go_wp2_with fail
  refine HP.out.mono ?_; rintro e w4 ⟨x, rfl, hc4, ht4⟩
  have HC4 := Lib.hid hc4
  have HE4 : Hid (Ext w w4) := Lib.hid (Touch.spanExt HE3.out ht4 (Nat.le_refl _))
  clear hc4 ht4 HP HE3
  cases x
  · go_wp2
    go_ret
    exact ⟨t, rfl, by omega, HE4.out⟩
  · have HSP := Lib.hid (cu_spoilt HC4.out (by omega) ht1 ht2)
    clear HC4
    go_wp2_with fail
    refine HSP.out.mono ?_; rintro e w5 ⟨s, rfl, hs, hc5, ht5⟩
    have HE5 : Hid (Ext w w5) := Lib.hid (Touch.spanExt HE4.out ht5 (Nat.le_refl _))
    clear hc5 ht5
    go_wp2
    go_ret
    exact ⟨s, rfl, hs, HE5.out⟩


end Go.Proofs.YtckgjpaccgpdpaaGreatDoor
