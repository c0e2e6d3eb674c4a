/-
  Proved here: what GapIn and its reference return.
  Conditions: the lengths fit an int; no slice is longer than its capacity.
-/
import Derived.Test.YtdbibdecnepobaaHeat3
namespace Go.Proofs.Ytdbibdecnepobaa
open Go.RowKit

/-- the time of the last place, among the first n, where v stands; 0 if none -/
def timeL (h : HeatD) (v : Int) : Nat → Int
  | 0 => 0
  | k + 1 => if nth h.rs k = v then nth h.ts k else timeL h v k
theorem timeL_yes {h : HeatD} {v : Int} {k : Nat} (e : nth h.rs k = v) : timeL h v (k + 1) = nth h.ts k := by simp [timeL, e]
theorem timeL_no {h : HeatD} {v : Int} {k : Nat} (e : nth h.rs k ≠ v) : timeL h v (k + 1) = timeL h v k := by simp [timeL, e]
theorem timeL_none {h : HeatD} {v : Int} {n : Nat} (hn : ∀ j, j < n → nth h.rs j ≠ v) : timeL h v n = 0 := by
  induction n with
  | zero => rfl
  | succ n ih => rw [timeL_no (hn n (by omega)), ih fun j hj => hn j (by omega)]
theorem timeL_at {h : HeatD} {v : Int} {n k : Nat} (hk : k < n) (e : nth h.rs k = v) (hn : ∀ j, k < j → j < n → nth h.rs j ≠ v) : timeL h v n = nth h.ts k := by
  induction n with
  | zero => omega
  | succ n ih =>
    by_cases ek : k = n
    · subst ek; exact timeL_yes e
    · rw [timeL_no (hn n (by omega) (by omega)), ih (by omega) fun j h1 h2 => hn j h1 (by omega)]
/-- the first place of a number, seen by cases -/
theorem idxI_cases (xs : List Int) (n : Nat) (v : Int) : (idxI xs n v = -1 ∧ ∀ j, j < n → nth xs j ≠ v) ∨ ∃ k, k < n ∧ idxI xs n v = (k : Int) ∧ nth xs k = v ∧ ∀ j, j < k → nth xs j ≠ v := by
  by_cases h : ∀ j, j < n → nth xs j ≠ v
  · exact .inl ⟨idxI_none h, h⟩
  · have hex : ∃ j, j < n ∧ nth xs j = v := Classical.byContradiction fun hne => h fun j hj e => hne ⟨j, hj, e⟩
    obtain ⟨j, hj, hp⟩ := hex
    right
    unfold idxI
    cases e : (List.range n).find? (fun k => nth xs k == v) with
    | none => exact absurd (List.find?_eq_none.1 e j (by simpa using hj)) (by simp [hp])
    | some k =>
      rw [List.find?_range_eq_some] at e
      obtain ⟨e1, e2, e3⟩ := e
      exact ⟨k, by simpa using e2, rfl, by simpa using e1, fun j hj => by have := e3 j hj; simpa using this⟩
theorem onceU_ne {xs : List Int} {n k j : Nat} (h : onceU xs n = true) (hk : k < j) (hj : j < n) : nth xs j ≠ nth xs k := by
  intro e
  have := upto_true.1 h j hj
  rw [hasI_yes hk e.symm] at this
  cases this
theorem timeL_idx {h : HeatD} (hh : heatB h = true) (v : Int) : (idxI h.rs h.rs.length v = -1 ∧ timeL h v h.rs.length = 0) ∨ ∃ k, k < h.rs.length ∧ idxI h.rs h.rs.length v = (k : Int) ∧ timeL h v h.rs.length = nth h.ts k := by
  simp only [heatB, headH, Bool.and_eq_true] at hh
  rcases idxI_cases h.rs h.rs.length v with ⟨e, hn⟩ | ⟨k, hk, e, ev, _⟩
  · exact .inl ⟨e, timeL_none hn⟩
  · exact .inr ⟨k, hk, e, timeL_at hk ev fun j h1 h2 e' => onceU_ne hh.1.2 h1 h2 (e'.trans ev.symm)⟩
theorem timeL_bd {h : HeatD} (hh : heatB h = true) (v : Int) {n : Nat} (hn : n ≤ h.rs.length) : 0 ≤ timeL h v n ∧ timeL h v n ≤ 36000 := by
  induction n with
  | zero => simp [timeL]
  | succ n ih =>
    have h2 := upto_true.1 (show upto (okHeatAt h) h.rs.length = true by simp only [heatB, Bool.and_eq_true] at hh; exact hh.2) n (by omega)
    simp only [okHeatAt, Bool.and_eq_true, inB_iff] at h2
    by_cases e : nth h.rs n = v
    · rw [timeL_yes e]; exact h2.1.2
    · rw [timeL_no e]; exact ih (by omega)

def gapB (h : HeatD) (a b : Int) : Bool := heatB h && !decide (timeL h a h.rs.length = 0) && !decide (timeL h b h.rs.length = 0)
def gGap (h : HeatD) (a b : Int) : Value := if gapB h a b then .tuple #[.int .i64 (timeL h b h.rs.length - timeL h a h.rs.length), .bool true] else .tuple #[.int .i64 0, .bool false]

set_option maxHeartbeats 2000000 in
theorem spec_GapIn {h : HeatD} {ao bo : Option Addr} {ac bc : Nat} {a b : Int} {w : World} (hr : RowAt w ao 1 h.rs.length (ic h.rs)) (ht : RowAt w bo 1 h.ts.length (ic h.ts))
    (n1 : h.rs.length ≤ 9223372036854775807) (n2 : h.ts.length ≤ 9223372036854775807) (c1 : h.rs.length ≤ ac) (c2 : h.ts.length ≤ bc) :
    Calls Try.prog 12 #[h.val ao ac bo bc, .int .i64 a, .int .i64 b] w fun e w' => e = .returned (gGap h a b) ∧ Ext w w' := by
  have H := fun x hx => spec_l18One (w := x) (h := h) (hr.ext hx) (ht.ext hx) n1 n2 c1 c2
  unfold HeatD.val at H ⊢
  have hw0 : Ext w (w.alloc (Obj.cells #[.slice ao h.rs.length ac, .slice bo h.ts.length bc] 27)) := (Ext.refl _).alloc _
  cases hh : heatB h
  · rw [hh] at H
    go_enter Try.func12, Try.ntmps12
    go_wp2_with fail
    refine (H _ (by repeat (first | (with_reducible exact Ext.refl _) | (with_reducible assumption) | with_reducible refine Ext.drew ?_ | with_reducible refine Ext.alloc ?_ _ | with_reducible refine Ext.setCell ?_ (by first | (simp; done) | (simp; omega) | omega) _ | with_reducible refine Ext.trans ?_ (by with_reducible assumption)))).mono ?_; rintro e w1 ⟨rfl, hx1⟩
    go_wp2
    go_ret2
    exact ⟨by simp [gGap, gapB, hh], (by repeat (first | (with_reducible exact Ext.refl _) | (with_reducible assumption) | with_reducible refine Ext.drew ?_ | with_reducible refine Ext.alloc ?_ _ | with_reducible refine Ext.setCell ?_ (by first | (simp; done) | (simp; omega) | omega) _ | with_reducible refine Ext.trans ?_ (by with_reducible assumption)))⟩
  · rw [hh] at H
    have hl : h.ts.length = h.rs.length := by simp only [heatB, headH, Bool.and_eq_true, decide_eq_true_eq] at hh; exact hh.1.1.2
    have hbd := fun v => timeL_bd hh v (Nat.le_refl _)
    have hgap : gGap h a b = if timeL h a h.rs.length = 0 then .tuple #[.int .i64 0, .bool false] else if timeL h b h.rs.length = 0 then .tuple #[.int .i64 0, .bool false] else .tuple #[.int .i64 (timeL h b h.rs.length - timeL h a h.rs.length), .bool true] := by
      unfold gGap gapB
      rw [hh]
      by_cases e : timeL h a h.rs.length = 0 <;> by_cases e' : timeL h b h.rs.length = 0 <;> simp [e, e']
    have HG := Lib.hid hgap; clear hgap
    have HL := Lib.hid hl; clear hl
    go_enter Try.func12, Try.ntmps12
    go_wp2_with fail
    refine (H _ (by repeat (first | (with_reducible exact Ext.refl _) | (with_reducible assumption) | with_reducible refine Ext.drew ?_ | with_reducible refine Ext.alloc ?_ _ | with_reducible refine Ext.setCell ?_ (by first | (simp; done) | (simp; omega) | omega) _ | with_reducible refine Ext.trans ?_ (by with_reducible assumption)))).mono ?_; rintro e w1 ⟨rfl, hx1⟩
    clear H
    go_wp2
    go_loopw [8, 9, 10] (fun x y i wr => ∃ k : Nat, k ≤ h.rs.length ∧ i = .int .i64 k ∧ x = .int .i64 (timeL h a k) ∧ y = .int .i64 (timeL h b k) ∧ Ext (w.alloc (Obj.cells #[.slice ao h.rs.length ac, .slice bo h.ts.length bc] 27)) wr) (fun _ _ i _ => h.rs.length - (intOf i).toNat)
    case atStart => exact ⟨0, Nat.zero_le _, rfl, rfl, rfl, hx1⟩
    case round =>
      clear hx1
      obtain ⟨k, hk, rfl, rfl, rfl, hx⟩ := hrel
      have f0 : wr.cell? ⟨w.heap.size, 0, none⟩ = some (.slice ao h.rs.length ac) := hx.cells (by go_simp)
      have f1 : wr.cell? ⟨w.heap.size, 1, none⟩ = some (.slice bo h.ts.length bc) := hx.cells (by go_simp)
      by_cases hlt : k < h.rs.length
      · have hlt' : k < h.ts.length := by rw [HL.out]; exact hlt
        obtain ⟨b1, off, rfl, hcell⟩ := intsN hr (by omega)
        obtain ⟨b2, off', rfl, hcell'⟩ := intsN ht (by omega)
        have d0 := hx.cells (hw0.cells (hcell k hlt))
        have d1 := hx.cells (hw0.cells (hcell' k hlt'))
        clear hcell hcell' hr ht
        by_cases ea : nth h.rs k = a
        all_goals by_cases eb : nth h.rs k = b
        all_goals
          have qa : (nth h.rs k == a) = decide (nth h.rs k = a) := rfl
          have qb : (nth h.rs k == b) = decide (nth h.rs k = b) := rfl
          simp only [ea, eb, decide_true, decide_false] at qa qb
          go_wp2
          go_roundw
          case rel => exact ⟨k + 1, by omega, by go_num, by first | rw [timeL_yes ea] | rw [timeL_no ea], by first | rw [timeL_yes eb] | rw [timeL_no eb], (by repeat (first | (with_reducible exact Ext.refl _) | (with_reducible assumption) | with_reducible refine Ext.drew ?_ | with_reducible refine Ext.alloc ?_ _ | with_reducible refine Ext.setCell ?_ (by first | (simp; done) | (simp; omega) | omega) _ | with_reducible refine Ext.trans ?_ (by with_reducible assumption)))⟩
          case measure => simp [intOf]; omega
      · have hkn : k = h.rs.length := by omega
        have HK := Lib.hid hkn; clear hkn
        have hba := hbd a
        have hbb := hbd b
        rw [← HK.out] at hba hbb HG
        clear hbd
        by_cases ea : timeL h a k = 0
        · have qa : (timeL h a k == 0) = true := by simp [ea]
          go_wp2
          go_ret2
          exact ⟨by rw [HG.out, if_pos ea]; try rfl, (by repeat (first | (with_reducible exact Ext.refl _) | (with_reducible assumption) | with_reducible refine Ext.drew ?_ | with_reducible refine Ext.alloc ?_ _ | with_reducible refine Ext.setCell ?_ (by first | (simp; done) | (simp; omega) | omega) _ | with_reducible refine Ext.trans ?_ (by with_reducible assumption)))⟩
        · have qa : (timeL h a k == 0) = false := by simp [ea]
          by_cases eb : timeL h b k = 0
          · have qb : (timeL h b k == 0) = true := by simp [eb]
            go_wp2
            go_ret2
            exact ⟨by rw [HG.out, if_neg ea, if_pos eb]; try rfl, (by repeat (first | (with_reducible exact Ext.refl _) | (with_reducible assumption) | with_reducible refine Ext.drew ?_ | with_reducible refine Ext.alloc ?_ _ | with_reducible refine Ext.setCell ?_ (by first | (simp; done) | (simp; omega) | omega) _ | with_reducible refine Ext.trans ?_ (by with_reducible assumption)))⟩
          · have qb : (timeL h b k == 0) = false := by simp [eb]
            go_wp2
            go_ret2
            exact ⟨by rw [HG.out, if_neg ea, if_neg eb]; try rfl, (by repeat (first | (with_reducible exact Ext.refl _) | (with_reducible assumption) | with_reducible refine Ext.drew ?_ | with_reducible refine Ext.alloc ?_ _ | with_reducible refine Ext.setCell ?_ (by first | (simp; done) | (simp; omega) | omega) _ | with_reducible refine Ext.trans ?_ (by with_reducible assumption)))⟩

end Go.Proofs.Ytdbibdecnepobaa
