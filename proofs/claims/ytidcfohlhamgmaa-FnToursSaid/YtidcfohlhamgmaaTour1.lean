/-
  Proved here (plain): the cells next to a cell, named one by one; the time of a tour.
  Conditions: those in each statement.
-/
import Derived.Test.YtidcfohlhamgmaaTour0
import Derived.Test.YtidcfohlhamgmaaCtl2
namespace Go.Proofs.Ytidcfohlhamgmaa
open Go.RowKit

def gapN (W a b : Nat) : Nat := (a % W - b % W) + (b % W - a % W) + ((a / W - b / W) + (b / W - a / W))
def candN (W H c : Nat) : List Nat := (if 0 < c / W then [c - W] else []) ++ ((if 0 < c % W then [c - 1] else []) ++ ((if c % W + 1 < W then [c + 1] else []) ++ (if c / W + 1 < H then [c + W] else [])))
def candAll : Bool := (List.range 7).all fun W => (List.range 7).all fun H => (List.range (W * H)).all fun c => decide (W = 0) || ((List.range (W * H)).filter (fun k => Nat.beq (gapN W c k) 1) == candN W H c)
set_option maxRecDepth 1000000 in
theorem candAll_true : candAll = true := by kernel_rfl
theorem cand_eq {W H c : Nat} (h0 : 1 ≤ W) (hW : W ≤ 6) (hH : H ≤ 6) (hc : c < W * H) : (List.range (W * H)).filter (fun k => Nat.beq (gapN W c k) 1) = candN W H c := by
  have h := candAll_true
  unfold candAll at h
  rw [List.all_eq_true] at h
  have h1 := h W (by simp; omega)
  rw [List.all_eq_true] at h1
  have h2 := h1 H (by simp; omega)
  rw [List.all_eq_true] at h2
  have h3 := h2 c (by simpa using hc)
  rw [Bool.or_eq_true, decide_eq_true_eq] at h3
  rcases h3 with h3 | h3
  · omega
  · exact eq_of_beq h3
theorem absI_sub (p q : Nat) : absI ((p : Int) - (q : Int)) = ((p - q + (q - p) : Nat) : Int) := by unfold absI; split <;> omega
theorem gapI_N {m : MapD} {W : Nat} (hw : m.wid = W) (a b : Nat) : gapI m a b = (gapN W a b : Int) := by
  unfold gapI gapN
  rw [hw, ← Int.natCast_emod, ← Int.natCast_emod, ← Int.natCast_ediv, ← Int.natCast_ediv, absI_sub, absI_sub]
  omega
theorem map_dims {m : MapD} (h : mapB m = true) : ∃ W H : Nat, m.wid = W ∧ m.hei = H ∧ 1 ≤ W ∧ W ≤ 6 ∧ 1 ≤ H ∧ H ≤ 6 ∧ m.cost.length = W * H := by
  have hl := map_len h
  obtain ⟨W, hW⟩ : ∃ W : Nat, m.wid = W := ⟨m.wid.toNat, by omega⟩
  obtain ⟨H, hH⟩ : ∃ H : Nat, m.hei = H := ⟨m.hei.toNat, by omega⟩
  refine ⟨W, H, hW, hH, by omega, by omega, by omega, by omega, ?_⟩
  have h4 := hl.2.2.2.1
  rw [hW, hH] at h4
  exact_mod_cast h4
theorem nextL_cand {m : MapD} {W H c : Nat} (hw : m.wid = W) (hn : m.cost.length = W * H) (h0 : 1 ≤ W) (hW : W ≤ 6) (hH : H ≤ 6) (hc : c < m.cost.length) : nextL m c = (candN W H c).filter (fun k => decide (0 < nth m.cost k)) := by
  unfold nextL
  rw [← cand_eq h0 hW hH (by omega), List.filter_filter, hn]
  refine List.filter_congr fun k _ => ?_
  unfold adjB
  rw [gapI_N hw]
  congr 1
  rw [Bool.eq_iff_iff, decide_eq_true_eq, Nat.beq_eq]
  omega
theorem cand_lt {W H c : Nat} (h0 : 1 ≤ W) (hW : W ≤ 6) (hH : H ≤ 6) (hc : c < W * H) {k : Nat} (hk : k ∈ candN W H c) : k < W * H := by
  rw [← cand_eq h0 hW hH hc, List.mem_filter] at hk
  simpa using hk.1

/-- the cell of a code -/
def cellC (xs : List Ctl) (code : Int) : Nat := (nth xs (ofI xs xs.length code).toNat).cell.toNat
/-- the time of a way through cells, and whether each part of it is there -/
noncomputable def wayT (m : MapD) : Nat → List Nat → Int
  | _, [] => 0
  | a, b :: l => nth (timL m b) a + wayT m b l
noncomputable def wayF (m : MapD) : Nat → List Nat → Bool
  | _, [] => true
  | a, b :: l => decide (nth (timL m b) a < NT) && wayF m b l
/-- the time of a tour -/
def tourW (xs : List Ctl) (center : Nat) (cs : List Int) : List Nat := cs.map (cellC xs) ++ [center]
theorem wayT_bd {m : MapD} (hm : mapB m = true) : ∀ (l : List Nat) (a : Nat), a < m.cost.length → (∀ b, b ∈ l → b < m.cost.length) → 0 ≤ wayT m a l ∧ wayT m a l ≤ NT * l.length ∧ (wayF m a l = true → wayT m a l ≤ 945 * l.length) ∧ (wayF m a l = false → NT ≤ wayT m a l) := by
  intro l
  induction l with
  | nil => intro a _ _; exact ⟨Int.le_refl _, Int.le_refl _, fun _ => Int.le_refl _, fun h => by cases h⟩
  | cons b l ih =>
    intro a ha hl
    have hb := hl b (List.mem_cons_self ..)
    have h1 := ih b hb (fun c hc => hl c (List.mem_cons_of_mem _ hc))
    have ho := timL_ok hm hb
    have h2 := ho.bd a (by rw [ho.len]; exact ha)
    have h3 := ho.fin hm (show a < (timL m b).length by rw [ho.len]; exact ha)
    have hNT : NT = 1073741824 := rfl
    simp only [wayT, wayF, List.length_cons]
    refine ⟨by omega, by rw [hNT] at h1 h2 ⊢; omega, fun h => ?_, fun h => ?_⟩
    · rw [Bool.and_eq_true, decide_eq_true_eq] at h
      have := h3 h.1
      have := h1.2.2.1 h.2
      omega
    · rw [Bool.and_eq_false_iff, decide_eq_false_iff_not] at h
      rcases h with h | h
      · have := h1.1; omega
      · have := h1.2.2.2 h; omega

end Go.Proofs.Ytidcfohlhamgmaa
