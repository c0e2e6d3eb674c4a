/-
  Proved here (plain): what FnTours tells of the best tour, the greedy tour and the empty tour.
  Conditions: those in each statement.
-/
import Derived.Test.YtidcfohlhamgmaaBestW
namespace Go.Proofs.Ytidcfohlhamgmaa
open Go.RowKit

theorem bs_facts {m : MapD} {xs : List Ctl} {r : RuleD} {x : Int} (h : bsB m xs r x = true) :
    grB m xs r x = true ∧ gTS m xs r x (bsT m xs r x).1 = .tuple #[.int .i64 (bsT m xs r x).2, .bool true] ∧ (∃ o, gTS m xs r x (grT m xs r x) = .tuple #[.int .i64 o, .bool true] ∧ o ≤ (bsT m xs r x).2) ∧ gTS m xs r x [] = .tuple #[.int .i64 0, .bool true] := by
  have hT : bsT m xs r x = bestT m xs x.toNat (scT m xs r x.toNat) 5 [] := by unfold bsT; rw [h]; rfl
  have h' := h
  simp only [bsB, Bool.and_eq_true, decide_eq_true_eq] at h'
  obtain ⟨⟨hr, hb⟩, h5⟩ := h'
  have hg : grB m xs r x = true := by unfold grB; rw [hr, hb]; rfl
  have hG : grT m xs r x = grL m xs r.lim x.toNat 8 [] x.toNat := by unfold grT; rw [hg]; rfl
  obtain ⟨c0, ec, hc0⟩ := open_nat hb
  subst ec
  rw [Int.toNat_natCast] at hT hG
  have hc := rule_ctls hr
  have hm := (ctls_map hc).1
  have hl := (rule_len hr).2.2.1
  rw [inB_iff] at hl
  have hw0 := way_none (xs := xs) hm hc0
  have hi := best_inv hc hc0 (scT m xs r c0) 5 [] (.start hc0)
  have hs := gr_steps hc hc0 r.lim 8 [] c0 (.start hc0) (by omega)
  have hall := best_all hc (scT m xs r c0) hs.1 5 (Nat.le_trans left_len h5)
  obtain ⟨h2, hgi⟩ := hs.2.1
  have hlb : (bestT m xs c0 (scT m xs r c0) 5 []).1.length ≤ 8 := by have := hi.2.1; simp at this; omega
  have hlg : (grL m xs r.lim c0 8 [] c0).length ≤ 8 := by have := hs.2.2.1; simpa using this
  refine ⟨hg, ?_, ⟨scT m xs r c0 (grT m xs r c0), ?_, ?_⟩, ?_⟩
  · rw [hT, gTS_yes (by rw [ginv_go hi.1 hc hc0 hb hlb, hr]; rfl), time_way, hi.2.2]; rfl
  · rw [hG, gTS_yes (by rw [ginv_go hgi hc hc0 hb hlg, hr]; rfl), time_way]; rfl
  · rw [hG, hT]; exact hall
  · rw [gTS_yes (by rw [ginv_go (.start hc0) hc hc0 hb (Nat.zero_le _), hr]; rfl), time_way, hw0, score_none hr]
theorem gr_facts {m : MapD} {xs : List Ctl} {r : RuleD} {x : Int} (h : grB m xs r x = true) : ∃ t, gTT m xs x (grT m xs r x) = .tuple #[.int .i64 t, .bool true] ∧ t ≤ r.lim := by
  have hG : grT m xs r x = grL m xs r.lim x.toNat 8 [] x.toNat := by unfold grT; rw [h]; rfl
  have h' := h
  simp only [grB, Bool.and_eq_true] at h'
  obtain ⟨hr, hb⟩ := h'
  obtain ⟨c0, ec, hc0⟩ := open_nat hb
  subst ec
  rw [Int.toNat_natCast] at hG
  have hc := rule_ctls hr
  have hm := (ctls_map hc).1
  have hl := (rule_len hr).2.2.1
  rw [inB_iff] at hl
  have hw0 := way_none (xs := xs) hm hc0
  have hs := gr_steps hc hc0 r.lim 8 [] c0 (.start hc0) (by omega)
  obtain ⟨h2, hgi⟩ := hs.2.1
  have hlg : (grL m xs r.lim c0 8 [] c0).length ≤ 8 := by have := hs.2.2.1; simpa using this
  refine ⟨wayT m c0 (tourW xs c0 (grL m xs r.lim c0 8 [] c0)), ?_, hs.2.2.2⟩
  rw [hG, gTT_yes (ginv_go hgi hc hc0 hb hlg), time_way]
theorem tt_form (m : MapD) (xs : List Ctl) (x : Int) (cs : List Int) : ∃ t b, gTT m xs x cs = .tuple #[.int .i64 t, .bool b] := by
  unfold gTT; split <;> exact ⟨_, _, rfl⟩

theorem grl_len (m : MapD) (xs : List Ctl) (lim : Int) (c0 : Nat) : ∀ (f : Nat) (cs : List Int) (here : Nat), (grL m xs lim c0 f cs here).length ≤ cs.length + f := by
  intro f
  induction f with
  | zero => intro cs _; exact Nat.le_refl _
  | succ f ih =>
    intro cs here
    rw [grL]
    split
    · omega
    · split
      · omega
      · have := ih (cs ++ [(nth xs (pkI m xs here cs xs.length).1.toNat).code]) (cellN (nth xs (pkI m xs here cs xs.length).1.toNat))
        rw [List.length_append, List.length_singleton] at this
        omega
theorem gr_len8 (m : MapD) (xs : List Ctl) (r : RuleD) (center : Int) : (grT m xs r center).length ≤ 8 := by
  unfold grT
  split
  · have := grl_len m xs r.lim center.toNat 8 [] center.toNat
    simpa using this
  · simp
theorem bs_len5 (m : MapD) (xs : List Ctl) (r : RuleD) (center : Int) : (bsT m xs r center).1.length ≤ 5 := by
  unfold bsT
  split
  · rename_i hb
    simp only [bsB, Bool.and_eq_true] at hb
    obtain ⟨c0, ec, hc0⟩ := open_nat hb.1.2
    subst ec
    rw [Int.toNat_natCast]
    exact (best_inv (rule_ctls hb.1.1) hc0 (scT m xs r c0) 5 [] (.start hc0)).2.1
  · exact Nat.zero_le _

end Go.Proofs.Ytidcfohlhamgmaa
