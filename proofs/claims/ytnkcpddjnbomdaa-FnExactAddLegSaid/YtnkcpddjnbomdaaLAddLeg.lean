/-
  Proved here: the law FnExactAddLeg answers true for every input and leaves its arguments as they were.
  Conditions: none.
-/
import Derived.Test.YtnkcpddjnbomdaaAddLeg2
import Derived.Test.YtnkcpddjnbomdaaAddLeg3
import Derived.Test.YtnkcpddjnbomdaaTeamR
namespace Go.Proofs.Ytnkcpddjnbomdaa.AddLeg
open Go.ChangeShapes Go.WideShapes Go.ChangeAt Go.RowKit

theorem leg_len {hs : List TeamD} (h : ∀ k, k < hs.length → (nth hs k).legs.length ≤ 1048576) (k : Nat) : tlen hs k ≤ 1048577 := by
  by_cases hk : k < hs.length
  · have := h k hk; unfold tlen; omega
  · have : nth hs k = default := by simp [nth, List.getD, List.getElem?_eq_none (show hs.length ≤ k by omega)]
    unfold tlen
    rw [this]
    exact Nat.zero_le _
theorem list_len {hs : List TeamD} {legs number time : Int} (hb : ∀ k, k < hs.length → (nth hs k).legs.length ≤ 1048576) (hl : hs.length ≤ 1048576) : (legL hs legs number time).length ≤ 1048577 ∧ ∀ k, tlen (legL hs legs number time) k ≤ 1048577 := by
  unfold legL
  split
  · rw [legAt_len]
    refine ⟨by omega, fun k => ?_⟩
    by_cases hk : k < hs.length
    · rw [tlen, legAt_nth hk]
      split
      · rename_i e
        subst e
        have := hb _ hk
        simp
        exact this
      · have := hb _ hk; omega
    · have h2 : nth (legAt hs (fdT hs number).toNat time) k = default := by
        simp only [nth, List.getD]
        rw [List.getElem?_eq_none (by rw [legAt_len]; omega)]
        rfl
      rw [tlen, h2]
      exact Nat.zero_le _
  · refine ⟨by simp, fun k => ?_⟩
    have : nth ([] : List TeamD) k = default := by simp [nth]
    rw [tlen, this]
    exact Nat.zero_le _
/-- teams in memory as values -/
theorem vs_of {B0 : Nat} {w : World} {b : Nat} {A : Nat → Nat} {ts : List TeamD} (h : TeamsF B0 w b ts.length A (tnum ts) (tlen ts) (tlen ts) (tleg ts)) (hl : ∀ k, tlen ts k ≤ 1048577) :
    ∃ vs : List TmV, vs.length = ts.length ∧ vs.map TmV.t = ts ∧ RowAt w (some ⟨b, 0, none⟩) 2 vs.length (fun k => (nth vs k).c) ∧ ∀ x, x ∈ vs → x.ok w ∧ x.a ≠ none := by
  have hln : ((List.range ts.length).map fun k => (⟨nth ts k, some ⟨A k, 0, none⟩, tlen ts k⟩ : TmV)).length = ts.length := by simp
  refine ⟨(List.range ts.length).map fun k => ⟨nth ts k, some ⟨A k, 0, none⟩, tlen ts k⟩, hln, ?_, ?_, ?_⟩
  · apply List.ext_getElem
    · simp
    · intro i h1 h2
      simp [nth, List.getD, h2]
  · rw [hln]
    refine fun _ => ⟨b, 0, rfl, fun k hk j hj => ?_⟩
    show _ = some ((nth ((List.range ts.length).map fun k => (⟨nth ts k, some ⟨A k, 0, none⟩, tlen ts k⟩ : TmV)) k).c j)
    rw [nth_range hk]
    match j, hj with
    | 0, _ => rw [show 0 + k * 2 + 0 = k * 2 by omega]; exact h.num k hk
    | 1, _ => rw [show 0 + k * 2 + 1 = k * 2 + 1 by omega]; exact h.legs k hk
  · intro x hx
    obtain ⟨k, hk, e⟩ := List.mem_map.1 hx
    rw [List.mem_range] at hk
    subst e
    have := hl k
    unfold tlen at this
    exact ⟨⟨(h.inner k hk).row, Nat.le_refl _, by show (nth ts k).legs.length ≤ _; omega⟩, by simp⟩

set_option maxRecDepth 100000 in
set_option maxHeartbeats 4000000 in
theorem walk {ao : Option Addr} {cap : Nat} {hs : List TeamD} {legs number time : Int} {w : World} (hn : hs.length ≤ 9223372036854775807) (h : GRow w ao 2 hs.length (tsC hs)) (_ : True) (_h1 : I64 legs) (_h2 : I64 number) (_h3 : I64 time) :
    Calls Try.prog 3 #[.slice ao hs.length cap, .int .i64 legs, .int .i64 number, .int .i64 time] w fun e w' => e = .returned (.bool true) ∧ Ext w w' := by
  have hcon : ∀ (f : FuncId), (∀ (x : World) (a : Option Addr) (c : Nat) (vs : List TmV), RowAt x a 2 vs.length (fun k => (nth vs k).c) → (∀ y, y ∈ vs → y.ok x ∧ y.a ≠ none) → vs.length ≤ 9223372036854775807 → Calls Try.prog f #[.slice a vs.length c, .int .i64 legs, .int .i64 number, .int .i64 time] x (ResT x (legL (vs.map TmV.t) legs number time) (legB (vs.map TmV.t) legs number time))) →
      ∀ (x : World) (B0 b : Nat) (A : Nat → Nat), TeamsF B0 x b hs.length A (tnum hs) (tlen hs) (tlen hs) (tleg hs) → (∀ k, tlen hs k ≤ 1048577) → Calls Try.prog f #[.slice (some ⟨b, 0, none⟩) hs.length hs.length, .int .i64 legs, .int .i64 number, .int .i64 time] x (ResT x (legL hs legs number time) (legB hs legs number time)) := fun f hf x B0 b A hT hl => by
    obtain ⟨vs, h1, h2, h3, h4⟩ := vs_of hT hl
    have := hf x (some ⟨b, 0, none⟩) hs.length vs h3 h4 (by omega)
    rw [h2, h1] at this
    exact this
  have HSP := Lib.hid (hcon 8 (fun x a c vs h1 h2 h3 => spec_AddLeg (w := x) (ao := a) (cap := c) h1 h2 h3))
  have HIM := Lib.hid (hcon 10 (fun x a c vs h1 h2 h3 => impl_AddLeg (w := x) (ao := a) (cap := c) h1 h2 h3))
  have HLl := Lib.hid (fun hb hl => list_len (hs := hs) (legs := legs) (number := number) (time := time) hb hl)
  have hone : eqL TeamD.eqB (legL hs legs number time) (legL hs legs number time) = true := (eqL_iff TeamD.eqB_iff).2 rfl
  generalize legL hs legs number time = L at *
  generalize legB hs legs number time = B at *
  have HONE := Lib.hid hone
  have HH := Lib.hid h
  clear hcon hone h
  go_enter Try.func3, Try.ntmps3
  go_wp2_with fail
  refine (laws_szTeamS HH.out hn).mono ?_; rintro e w1 ⟨r, rfl, hx1, hr⟩
  rcases hr with hr | ⟨hr, hl, hb⟩
  · go_wp2
    go_ret
    exact ⟨rfl, (by repeat (first | (with_reducible exact Ext.refl _) | (with_reducible assumption) | with_reducible refine Ext.drew ?_ | with_reducible refine Ext.alloc ?_ _ | with_reducible refine Ext.setCell ?_ (by first | (simp; done) | (simp; omega) | omega) _ | with_reducible refine Ext.trans ?_ (by with_reducible assumption)))⟩
  · obtain ⟨hL1, hLk⟩ := HLl.out hb hl
    have hL2 : L.length ≤ 9223372036854775807 := by omega
    have hlb := leg_len hb
    have hkb := tkU_bd (k0 := 1) hlb hs.length
    have hkL := tkU_bd (k0 := 1) hLk L.length
    have HB := Lib.hid hb; clear hb
    have HLB := Lib.hid hlb; clear hlb
    have HLK := Lib.hid hLk; clear hLk
    go_wp2_with fail
    refine (laws_toTeamF (HH.out.ext hx1) hl HB.out).mono ?_; rintro e w2 ⟨B2, A2, rfl, hx2, hT2⟩
    have hy2 := hx1.trans hx2
    go_wp2_with fail
    refine (HSP.out _ _ _ _ hT2 HLB.out).mono ?_; rintro e w3 ⟨bo, bc, rfl, hx3, hW⟩
    have hy3 := hy2.trans hx3
    have HW := Lib.hid (show RT w2.heap.size w3 bo bc L from hW)
    clear hT2 hx1 hx2 hx3 hW hy2
    go_wp2_with fail
    refine (laws_toTeamF (HH.out.ext hy3) hl HB.out).mono ?_; rintro e w4 ⟨B4, A4, rfl, hx4, hT4⟩
    have hz4 := hx4
    go_wp2_with fail
    refine (HIM.out _ _ _ _ hT4 HLB.out).mono ?_; rintro e w5 ⟨go, gc, rfl, hx5, hG⟩
    have hz5 := hz4.trans hx5
    have HG := Lib.hid (show RT w4.heap.size w5 go gc L from hG)
    clear hG
    have hrow4 := fun x (hx : Ext w4 x) => (hT4.ext hx).row (fun k hk => Nat.le_refl _) (fun k hk => by have := HLB.out k; omega)
    have HROW4 := Lib.hid hrow4
    have hset1 : ∀ k, TeamsF.set B4 hs.length A4 k → w3.heap.size ≤ k := fun k hset => by
      rcases hset with h2 | ⟨i, hi, h2⟩
      · have := hT4.base.1; omega
      · have := ((hT4.inner i hi).base _ rfl).1
        simp only at this
        omega
    have hset2 : ∀ k, TeamsF.set B4 hs.length A4 k → k < w4.heap.size := fun k hset => by
      rcases hset with h2 | ⟨i, hi, h2⟩
      · have := hT4.base.2; omega
      · have := ((hT4.inner i hi).base _ rfl).2
        simp only at this
        omega
    have HS1 := Lib.hid hset1; have HS2 := Lib.hid hset2
    have HT4 := Lib.hid hT4
    clear hrow4 hset1 hset2 hT4 hx4
    go_wp2_with fail
    refine (laws_eqTeamS (HG.out.row HLK.out) ((HW.out.ext hz5).row HLK.out) hL2 hL2).mono ?_; rintro e w6 ⟨rfl, hx6⟩
    rw [HONE.out]
    have hz6 := hz5.trans hx6
    go_wp2_with fail
    refine (laws_toTeamS (HH.out.ext (hy3.trans hz6)) hl HB.out).mono ?_; rintro e w7 ⟨B7, rfl, hx7, hG7⟩
    go_wp2_with fail
    refine (laws_eqTeamS (HROW4.out _ (hx5.trans (hx6.trans hx7))) hG7 hn hn).mono ?_; rintro e w8 ⟨rfl, hx8⟩
    rw [(eqL_iff TeamD.eqB_iff).2 rfl]
    have hz8 := hz6.trans (hx7.trans hx8)
    have HT8 := Lib.hid (HT4.out.ext (hx5.trans (hx6.trans (hx7.trans hx8))))
    have HG8 := Lib.hid (HG.out.ext (hx6.trans (hx7.trans hx8)))
    have hs8 : w4.heap.size ≤ w8.heap.size := (hx5.trans (hx6.trans (hx7.trans hx8))).size
    have hs34 := hz4.size
    clear hG7 hx5 hx6 hx7 hx8 hz5 hz6 HG HT4 HROW4
    go_wp2_with fail
    refine (laws_markTeamF HT8.out (by omega) HLB.out (by decide) (by decide)).mono ?_; rintro e w9 ⟨rfl, ht9, _⟩
    have hz9 := ht9.ext hz8 HS1.out
    have HG9 := Lib.hid (HG8.out.low ht9 HS2.out)
    clear ht9 HT8 HG8
    go_wp2_with fail
    refine (laws_eqTeamS (HG9.out.row HLK.out) ((HW.out.ext hz9).row HLK.out) hL2 hL2).mono ?_; rintro e w10 ⟨rfl, hx10⟩
    rw [HONE.out]
    have hz10 := hz9.trans hx10
    have HG10 := Lib.hid (HG9.out.ext hx10)
    clear hx10 HG9
    go_wp2_with fail
    refine (laws_markTeamR (k0 := 1) HG10.out (by omega) HLK.out (by decide) (by decide)).mono ?_; rintro e w11 ⟨rfl, ⟨S, ht11, hS⟩, hM⟩
    have hz11 := ht11.ext hz10 (fun k hk => by have := hS k hk; omega)
    have HM := Lib.hid hM
    clear ht11 hS hM HG10
    go_wp2_with fail
    refine (laws_heldTeamR (k0 := 1) HM.out (by omega) HLK.out (by decide) (by decide)).mono ?_; rintro e w12 ⟨rfl, hx12⟩
    have hz12 := hz11.trans hx12
    go_wp2_with fail
    refine (laws_toTeamF (HH.out.ext (hy3.trans hz12)) hl HB.out).mono ?_; rintro e w13 ⟨B13, A13, rfl, hx13, hT13⟩
    go_wp2_with fail
    refine (HIM.out _ _ _ _ hT13 HLB.out).mono ?_; rintro e w14 ⟨ho, hc, rfl, hx14, hH⟩
    have hxx := hx13.trans hx14
    go_wp2_with fail
    refine (laws_eqTeamS ((show RT w13.heap.size w14 ho hc L from hH).row HLK.out) ((HW.out.ext (hz12.trans hxx)).row HLK.out) hL2 hL2).mono ?_; rintro e w15 ⟨rfl, hx15⟩
    rw [HONE.out]
    go_wp2_with fail
    refine (laws_heldTeamR (k0 := 1) (HM.out.ext (hx12.trans (hxx.trans hx15))) (by omega) HLK.out (by decide) (by decide)).mono ?_; rintro e w16 ⟨rfl, hx16⟩
    go_wp2
    go_ret
    exact ⟨rfl, hy3.trans (hz12.trans (hxx.trans (hx15.trans hx16)))⟩

set_option maxRecDepth 100000 in
theorem lifted (os : Os) (started : os.Started) (H : Type) (enc : TypeId × Value → H) :
    ReturnsInHanded {} Try.checked os 3 .any (Rows.fnExactAddLegSpec.pre6 enc Try.prog Try.f3 Rows.fnExactAddLegRow.domain false) (Rows.fnExactAddLegSpec.post enc Try.prog Try.f3 false true false false) := by
  refine returnsInHanded_of_change (C := Try.checked) (by kernel_rfl) started (by kernel_rfl) Try.func3
    (ChangeSpec.witness6 (enc := enc) (C := Try.checked) false ⟨#[], #[.slice none 0 0, .int .i64 0, .int .i64 0, .int .i64 0], []⟩ 8 (by kernel_rfl) (by kernel_rfl) (by kernel_rfl) (by kernel_rfl)) ?_
  intro W base args ds gs before hval0 hW _ _
  have hval : ∀ (j : Nat) t v, Try.f3.params[j]? = some t → args[j]? = some v → Value.okWide Try.prog W .any base t v := hval0
  have hW' := hW
  obtain ⟨p, q, hA0, hV, rfl, hfz, hnd⟩ := hW
  have hA : DataW.TrodAll enc Try.prog W 0 (fun _ => true) true Try.f3.params.toList args.toList ds p := hA0
  rw [Try.params3] at hA hval
  obtain ⟨v0, vs0, d0, ds0, p0, q0, hargs, rfl, rfl, h0, r0⟩ := trodAll_cons hA
  obtain ⟨v1, vs1, d1, ds1, p1, q1, rfl, rfl, rfl, h1, r1⟩ := trodAll_cons r0
  obtain ⟨v2, vs2, d2, ds2, p2, q2, rfl, rfl, rfl, h2, r2⟩ := trodAll_cons r1
  obtain ⟨v3, vs3, d3, ds3, p3, q3, rfl, rfl, rfl, h3, r3⟩ := trodAll_cons r2
  obtain ⟨rfl, rfl, rfl⟩ := trodAll_nil r3
  obtain rfl : args = #[v0, v1, v2, v3] := by cases args; simp_all
  obtain ⟨rfl, rfl⟩ := trodVars_none hV
  obtain ⟨ao0, cap0, xs0, rfl, hl0, hr0, hw0⟩ := open_TeamS (hval 0 22 v0 rfl rfl) h0
  obtain ⟨a1, rfl, _, _, wa1⟩ := open_int Try.underlying3 (hval 1 3 v1 rfl rfl) h1
  obtain ⟨a2, rfl, _, _, wa2⟩ := open_int Try.underlying3 (hval 2 3 v2 rfl rfl) h2
  obtain ⟨a3, rfl, _, _, wa3⟩ := open_int Try.underlying3 (hval 3 3 v3 rfl rfl) h3
  refine (walk hl0 hr0 hw0 (I64.of_wf wa1) (I64.of_wf wa2) (I64.of_wf wa3)).mono fun e W' ⟨he, hx⟩ => ?_
  subst he
  exact ⟨_, rfl, law_post (by kernel_rfl) (by kernel_rfl) Try.underlying4 rfl rfl hW' rfl hx⟩

theorem holds : Rows.FnExactAddLegSaid :=
  OpenClaim.holds_of_wide 3 Try.f3 rfl rfl rfl rfl rfl rfl rfl ⟨rfl, rfl, rfl, rfl, rfl⟩ rfl rfl rfl rfl rfl (by kernel_rfl) Try.func3 (by kernel_rfl)
    (of_decide_eq_true (by kernel_rfl)) (by unfold Func.isWrapper; first | (rw [if_pos (by decide +kernel)]; kernel_rfl) | (rw [if_neg (by decide +kernel)]; exact ⟨rfl, rfl⟩))
    (fun os started H enc _ => lifted os started H enc)
end Go.Proofs.Ytnkcpddjnbomdaa.AddLeg
