/-
  Proved here (plain lists): facts of the law FnFees: what is open and what is due agree; all clubs' bills; a late entry.
  Conditions: none beyond those in each statement.
-/
import Derived.Test.YtkejhhflpnfepaaFeeW
import Derived.Test.YtkejhhflpnfepaaClb
import Derived.Test.YtkejhhflpnfepaaReqE
namespace Go.Proofs.Ytkejhhflpnfepaa
open Go.RowKit

theorem sumF_snoc (g : ByteArray → Int) : ∀ (cs : List ByteArray) (c : ByteArray), sumF g (cs ++ [c]) = sumF g cs + g c
  | [], c => by simp [sumF]
  | d :: cs, c => by simp only [List.cons_append, sumF]; rw [sumF_snoc g cs c]; omega
theorem sumF_succ (g : ByteArray → Int) {cs : List ByteArray} {k : Nat} (h : k < cs.length) : sumF g (cs.take (k + 1)) = sumF g (cs.take k) + g (nth cs k) := by
  rw [List.take_add_one, List.getElem?_eq_getElem h]
  have e : nth cs k = cs[k] := by simp [nth, List.getD, List.getElem?_eq_getElem h]
  rw [e]
  exact sumF_snoc g _ _
theorem sumF_bd {g : ByteArray → Int} {cs : List ByteArray} {M : Int} (hg : ∀ c, -M ≤ g c ∧ g c ≤ M) : ∀ k, k ≤ cs.length → -(M * k) ≤ sumF g (cs.take k) ∧ sumF g (cs.take k) ≤ M * k := by
  intro k
  induction k with
  | zero => intro _; simp [sumF]
  | succ k ih =>
    intro hk
    have h1 := ih (by omega)
    have h2 := hg (nth cs k)
    rw [sumF_succ g (by omega), show ((k + 1 : Nat) : Int) = (k : Int) + 1 by omega, Int.mul_add, Int.mul_one]
    omega
theorem billX_bd {f : Fee} {xs : List Rnr} {es : List Ent} (h : opOk f xs es = true) (c : ByteArray) : -1200000 ≤ billX f xs es c ∧ billX f xs es c ≤ 1200000 := by
  obtain ⟨h1, h2, h3, h4⟩ := opOk_at h
  have h5 := billU_bd h1 xs c es.length (fun k hk => entB_ok (entsB_at h3 hk))
  have h6 := entsB_len h3
  rw [billX_yes h]
  omega
theorem openU_all (f : Fee) (xs : List Rnr) (es : List Ent) : openU f xs es es.length = sumU (opL f xs es) es.length := by
  rw [openU_sum f xs es _ (Nat.le_refl _), sumU_sum _ _ (by rw [opL_len]; exact Nat.le_refl _)]
/-- all clubs' bills are all that is open -/
theorem fee_clubs {f : Fee} {xs : List Rnr} {es : List Ent} {E : List ByteArray} (h : opOk f xs es = true) (hE : ClubsOk xs E) : sumF (billX f xs es) E = sumU (opL f xs es) es.length := by
  obtain ⟨h1, h2, h3, h4⟩ := opOk_at h
  have e : billX f xs es = fun c => billU f xs es c es.length := funext fun c => billX_yes h
  rw [e, bills_all f xs es hE.nodup es.length (fun k hk => ?_), openU_all]
  obtain ⟨q, hq, hqq⟩ := hasR_at (h4 k hk)
  rw [clubE_at hqq]
  exact hE.has q hq
theorem fee_sumI {f : Fee} {xs : List Rnr} {es : List Ent} (h : opOk f xs es = true) : ∀ k, k ≤ es.length → I64 (sumU (opL f xs es) k) := by
  obtain ⟨h1, h2, h3, h4⟩ := opOk_at h
  have h12 := entsB_len h3
  have H : ∀ k, k ≤ es.length → -100000 * (k : Int) ≤ sumU (opL f xs es) k ∧ sumU (opL f xs es) k ≤ 60000 * (k : Int) := by
    intro k
    induction k with
    | zero => intro _; simp [sumU]
    | succ k ih =>
      intro hk
      have a1 := ih (by omega)
      have a2 := opV_bd h1 xs (entB_ok (entsB_at h3 (show k < es.length by omega)))
      have e : sumU (opL f xs es) (k + 1) = sumU (opL f xs es) k + nth (opL f xs es) k := rfl
      rw [e, opL_nth _ _ _ (by omega)]
      omega
  intro k hk
  have := H k hk
  unfold I64
  omega
/-- the entry's due sum is told where all is in order -/
theorem fee_due {f : Fee} {xs : List Rnr} {es : List Ent} {k : Nat} (h : opOk f xs es = true) (hk : k < es.length) : dueR f xs (nth es k) = .tuple #[.int .i64 (opV f xs (nth es k) + (nth es k).paid), .bool true] := by
  have hb : feeB f = true ∧ rnsB xs = true ∧ entsB es = true := by
    unfold opOk at h; simp only [Bool.and_eq_true] at h; exact ⟨h.1.1.1, h.1.1.2, h.1.2⟩
  have h4 := (opOk_at h).2.2.2 k hk
  unfold dueR
  rw [hb.1, hb.2.1, entsB_at hb.2.2 hk, h4]
  simp [opV]
/-- a late entry is due no less -/
theorem fee_late {f : Fee} {xs : List Rnr} {a c d p : Int} {g : Bool} (h1 : feeB f = true) (h3 : entB ⟨a, c, d, g, p⟩ = true) (h4 : hasR xs a = true) :
    entB ⟨a, c, 365, g, p⟩ = true ∧ dueE f xs ⟨a, c, d, g, p⟩ ≤ dueE f xs ⟨a, c, 365, g, p⟩ := by
  constructor
  · unfold entB at h3 ⊢
    simp only [Bool.and_eq_true, inB_iff] at h3 ⊢
    exact ⟨⟨⟨h3.1.1.1, h3.1.1.2⟩, by omega⟩, h3.2⟩
  · obtain ⟨q, hq, hqq⟩ := hasR_at h4
    rw [dueE_at (k := q) hqq, dueE_at (k := q) hqq]
    exact dueV_late (feeB_ok h1) _

theorem due_form (f : Fee) (xs : List Rnr) (a c d p : Int) (g : Bool) : ∃ D H, dueR f xs ⟨a, c, d, g, p⟩ = .tuple #[.int .i64 D, .bool H] ∧ (H = true → feeB f = true ∧ ∃ D', dueR f xs ⟨a, c, 365, g, p⟩ = .tuple #[.int .i64 D', .bool true] ∧ D ≤ D') := by
  cases h : (feeB f && rnsB xs && entB ⟨a, c, d, g, p⟩)
  · exact ⟨0, false, by unfold dueR; rw [h]; rfl, fun h2 => by cases h2⟩
  · refine ⟨dueE f xs ⟨a, c, d, g, p⟩, hasR xs a, by unfold dueR; rw [h]; rfl, fun h4 => ?_⟩
    simp only [Bool.and_eq_true] at h
    obtain ⟨h5, h6⟩ := fee_late h.1.1 (xs := xs) h.2 h4
    refine ⟨h.1.1, dueE f xs ⟨a, c, 365, g, p⟩, ?_, h6⟩
    unfold dueR
    rw [h.1.1, h.1.2, h5]
    simp [h4]

end Go.Proofs.Ytkejhhflpnfepaa
