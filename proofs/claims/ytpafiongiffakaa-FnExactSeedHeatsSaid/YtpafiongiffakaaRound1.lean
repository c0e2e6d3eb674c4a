/-
  Proved here: what IsRound and its reference return.
  Conditions: no more than 1048576 heats.
-/
import Derived.Test.YtpafiongiffakaaTHeatS
import Derived.Test.YtpafiongiffakaaOwn
namespace Go.Proofs.Ytpafiongiffakaa
open Go.RowKit

theorem nth_get {α : Type} [Inhabited α] {xs : List α} {k : Nat} (h : k < xs.length) : nth xs k = xs[k] := by simp [nth, List.getD, h]
theorem hasI_mem {xs : List Int} {v : Int} : hasI xs xs.length v = true ↔ v ∈ xs := by
  constructor
  · intro h
    refine Classical.byContradiction fun hn => ?_
    rw [hasI_no fun k hk e => hn ?_] at h
    · cases h
    · rw [← e, nth_get hk]; exact List.getElem_mem hk
  · intro h
    obtain ⟨k, hk, e⟩ := List.mem_iff_getElem.1 h
    exact hasI_yes hk (by rw [nth_get hk, e])
theorem hasI_lt {xs : List Int} {n : Nat} {v : Int} : hasI xs n v = true ↔ ∃ k, k < n ∧ nth xs k = v := by
  constructor
  · intro h
    refine Classical.byContradiction fun hn => ?_
    rw [hasI_no fun k hk e => hn ⟨k, hk, e⟩] at h
    cases h
  · rintro ⟨k, hk, e⟩; exact hasI_yes hk e
theorem onceU_nodup {xs : List Int} : onceU xs xs.length = true ↔ xs.Nodup := by
  rw [onceU, upto_true, List.Nodup, List.pairwise_iff_getElem]
  constructor
  · intro h i j hi hj hij e
    have := h j hj
    rw [hasI_yes hij (by rw [nth_get hi, nth_get hj, e])] at this
    cases this
  · intro h k hk
    rw [hasI_no fun j hj e => ?_]
    · rfl
    · rw [nth_get hk, nth_get (show j < xs.length by omega)] at e
      exact h j k (by omega) hk hj e

/-- all runners of the first k heats -/
def allR (hs : List HeatD) : Nat → List Int
  | 0 => []
  | k + 1 => allR hs k ++ (nth hs k).rs
def okRound (hs : List HeatD) (k : Nat) : Bool := heatB (nth hs k) && onceU (allR hs (k + 1)) (allR hs (k + 1)).length
def roundB (hs : List HeatD) : Bool := upto (okRound hs) hs.length && inB hs.length 1 4
theorem heatB_len {h : HeatD} (hh : heatB h = true) : 2 ≤ h.rs.length ∧ h.rs.length ≤ 6 := by
  simp only [heatB, headH, Bool.and_eq_true] at hh
  have := inB_iff.1 hh.1.1.1
  omega
theorem heatB_nodup {h : HeatD} (hh : heatB h = true) : h.rs.Nodup := by
  simp only [heatB, headH, Bool.and_eq_true] at hh
  exact onceU_nodup.1 hh.1.2
theorem allR_len {hs : List HeatD} {k : Nat} (h : upto (okRound hs) k = true) : (allR hs k).length ≤ 6 * k := by
  induction k with
  | zero => simp [allR]
  | succ k ih =>
    simp only [upto, Bool.and_eq_true, okRound] at h
    have h1 := ih h.1
    have h2 := heatB_len h.2.1
    simp only [allR, List.length_append]
    omega
/-- none of the runners stands in the list -/
def apart (xs ys : List Int) : Nat → Bool := upto fun j => !hasI xs xs.length (nth ys j)
def okRoundS (hs : List HeatD) (k : Nat) : Bool := heatB (nth hs k) && apart (allR hs k) (nth hs k).rs (nth hs k).rs.length
theorem apart_iff {xs ys : List Int} : apart xs ys ys.length = true ↔ ∀ a, a ∈ xs → ∀ b, b ∈ ys → a ≠ b := by
  rw [apart, upto_true]
  constructor
  · intro h a ha b hb e
    obtain ⟨k, hk, e'⟩ := List.mem_iff_getElem.1 hb
    have := h k hk
    rw [nth_get hk, e', ← e, hasI_mem.2 ha] at this
    cases this
  · intro h k hk
    cases e : hasI xs xs.length (nth ys k)
    · rfl
    · exact absurd rfl (h _ (hasI_mem.1 e) _ (by rw [nth_get hk]; exact List.getElem_mem hk))
theorem round_same (hs : List HeatD) (n : Nat) : upto (okRound hs) n = upto (okRoundS hs) n ∧ (upto (okRound hs) n = true → (allR hs n).Nodup) := by
  induction n with
  | zero => exact ⟨rfl, fun _ => by simp [allR]⟩
  | succ n ih =>
    obtain ⟨h1, h2⟩ := ih
    cases hu : upto (okRound hs) n
    · have hu' := h1.symm.trans hu
      simp [upto, hu, hu']
    · have hu' := h1.symm.trans hu
      have hn := h2 hu
      have e : okRound hs n = okRoundS hs n := by
        unfold okRound okRoundS
        cases hh : heatB (nth hs n)
        · rfl
        · rw [Bool.eq_iff_iff]
          simp only [Bool.true_and]
          rw [onceU_nodup, apart_iff, allR, List.nodup_append]
          exact ⟨fun h => h.2.2, fun h => ⟨hn, heatB_nodup hh, h⟩⟩
      refine ⟨by simp [upto, hu, hu', e], fun h => ?_⟩
      simp only [upto, Bool.and_eq_true, okRound] at h
      exact onceU_nodup.1 h.2.2
theorem roundB_spec (hs : List HeatD) : roundB hs = (upto (okRoundS hs) hs.length && inB hs.length 1 4) := by rw [roundB, (round_same hs _).1]

end Go.Proofs.Ytpafiongiffakaa
