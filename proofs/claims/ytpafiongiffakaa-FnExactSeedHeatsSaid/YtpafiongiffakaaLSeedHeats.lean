/-
  Proved here: the law FnExactSeedHeats answers true for every input and leaves its arguments as they were.
  Conditions: none.
-/
import Derived.Test.YtpafiongiffakaaSeed3
import Derived.Test.YtpafiongiffakaaSeed4
import Derived.Test.YtpafiongiffakaaSS
import Derived.Test.YtpafiongiffakaaMarkInts
import Derived.Test.YtpafiongiffakaaTIntS
namespace Go.Proofs.Ytpafiongiffakaa.SeedHeats
open Go.ChangeShapes Go.WideShapes Go.ChangeAt Go.RowKit

theorem offG_bound {len : Nat → Nat} {n c : Nat} (h : ∀ k, k < n → len k ≤ c) : offG len n ≤ n * c := by
  induction n with
  | zero => exact Nat.zero_le _
  | succ n ih =>
    have h1 := ih (fun k hk => h k (by omega))
    have h2 := h n (by omega)
    rw [offG, Nat.succ_mul]
    omega

set_option maxRecDepth 100000 in
set_option maxHeartbeats 4000000 in
theorem walk {ao : Option Addr} {cap : Nat} {ms : List Int} {heats : Int} {w : World} (h : RowAt w ao 1 ms.length (ic ms)) (hn : ms.length ≤ 9223372036854775807)
    (hw : (∀ k, k < ms.length → I64 (nth ms k)) ∧ ms.length ≤ cap) (hheats : I64 heats) :
    Calls Try.prog 3 #[.slice ao ms.length cap, .int .i64 heats] w fun e w' => e = .returned (.bool true) ∧ Ext w w' := by
  have _hw := hw
  by_cases hle : ms.length ≤ 1048576
  · have hsp := fun x ao' cap' hx hcp => spec_SeedHeats (w := x) (ao := ao') (cap := cap') (xs := ms) hx hn hcp hheats
    have him := fun x ao' cap' hx hcp => impl_SeedHeats (w := x) (ao := ao') (cap := cap') (xs := ms) hx hn hcp hheats
    obtain ⟨hL1, hLk⟩ := (seed_bounds (xs := ms) (h := heats) : (seedL ms heats).length ≤ 1000 ∧ ∀ k, k < (seedL ms heats).length → (nth (seedL ms heats) k).length ≤ 1000)
    generalize seedL ms heats = L at *
    generalize seedB ms heats = B at *
    have hL2 : L.length ≤ 9223372036854775807 := by omega
    have hL3 : L.length ≤ 1099511627776 := by omega
    have hL4 : ∀ k, k < L.length → (nth L k).length ≤ 9223372036854775807 := fun k hk => by have := hLk k hk; omega
    have hL5 : offG (lenL L) L.length ≤ 1099511627776 := by
      have h1 := offG_bound (len := lenL L) hLk
      have h2 : L.length * 1000 ≤ 1000 * 1000 := Nat.mul_le_mul_right _ hL1
      omega
    have HSP := Lib.hid hsp; have HIM := Lib.hid him; have HL4 := Lib.hid hL4
    have HH := Lib.hid h
    clear hsp him hL4 hLk h
    go_enter Try.func3, Try.ntmps3
    go_wp2_with fail
    refine (laws_toIntS HH.out hle).mono ?_; rintro e w1 ⟨B1, rfl, hx1, hF1⟩
    go_wp2_with fail
    refine (HSP.out _ _ _ hF1.row (Nat.le_refl _)).mono ?_; rintro e w2 ⟨bo, bc, bf, rfl, hx2, hW⟩
    have hy2 := hx1.trans hx2
    have HW := Lib.hid hW
    clear hF1 hx1 hx2 hW
    go_wp2_with fail
    refine (laws_toIntS (HH.out.ext hy2) hle).mono ?_; rintro e w3 ⟨B3, rfl, hx3, hF3⟩
    go_wp2_with fail
    refine (HIM.out _ _ _ hF3.row (Nat.le_refl _)).mono ?_; rintro e w4 ⟨go, gc, gf, rfl, hx4, hG⟩
    have hz4 := hx3.trans hx4
    have HG := Lib.hid hG
    clear hG
    go_wp2_with fail
    refine (laws_eqIntSS HG.out.row (HW.out.ext hz4).row hL2 HL4.out).mono ?_; rintro e w5 ⟨rfl, hx5⟩
    have hz5 := hz4.trans hx5
    go_wp2_with fail
    refine (laws_toIntS (HH.out.ext (hy2.trans hz5)) hle).mono ?_; rintro e w6 ⟨B6, rfl, hx6, hF6⟩
    go_wp2_with fail
    refine (laws_eqIntS (hF3.ext (hx4.trans (hx5.trans hx6))).row hF6.row hn hn).mono ?_; rintro e w7 ⟨rfl, hx7⟩
    rw [(eqL_iff eqI_iff).2 rfl]
    have hx57 := hx5.trans (hx6.trans hx7)
    have hz7 := hz4.trans hx57
    have hX7 := hF3.ext (hx4.trans hx57)
    have hb3 := hF3.base _ rfl
    have HG7 := Lib.hid (HG.out.ext hx57)
    have hs4 := hx4.size
    have hs57 := hx57.size
    simp only at hb3
    clear hF3 hF6 hx4 hx5 hx6 hx7 hx57 HG
    go_wp2_with fail
    refine (laws_markIntS hX7 (by omega) (by decide) (by decide)).mono ?_; rintro e w8 ⟨rfl, hg8, hX8⟩
    have hbk : ∀ k, blk (some (⟨B3, 0, none⟩ : Addr)) = some k → k = B3 := fun k e => by injection e with e; exact e.symm
    have hz8 := grown_ext hz7 hg8 (fun k e => by have := hbk k e; omega)
    have hs8 := hg8.size
    have HG8 := Lib.hid (HG7.out.low hg8 (fun k e => by have := hbk k e; omega))
    clear hX7 hX8 hg8 HG7 hbk
    go_wp2_with fail
    refine (laws_eqIntSS HG8.out.row (HW.out.ext hz8).row hL2 HL4.out).mono ?_; rintro e w9 ⟨rfl, hx9⟩
    have hz9 := hz8.trans hx9
    have HG9 := Lib.hid (HG8.out.ext hx9)
    have hs9 := hx9.size
    clear hx9 HG8
    go_wp2_with fail
    refine (laws_markIntSS (m := 1) HG9.out hL3 hL5 (by decide) (by omega)).mono ?_; rintro e w10 ⟨rfl, hb10, hG10⟩
    have hz10 := Ext.below hz9 hb10 (by have := hx3.size; omega)
    have HG10 := Lib.hid hG10
    clear hb10 hG10 HG9
    go_wp2_with fail
    refine (laws_heldIntSS (m := 1) HG10.out.row hL3 hL5 (by decide)).mono ?_; rintro e w11 ⟨rfl, hx11⟩
    have hz11 := hz10.trans hx11
    go_wp2_with fail
    refine (laws_toIntS (HH.out.ext (hy2.trans hz11)) hle).mono ?_; rintro e w12 ⟨B12, rfl, hx12, hF12⟩
    go_wp2_with fail
    refine (HIM.out _ _ _ hF12.row (Nat.le_refl _)).mono ?_; rintro e w13 ⟨ho, hc, hf, rfl, hx13, hH⟩
    have hx113 := hx12.trans hx13
    go_wp2_with fail
    refine (laws_eqIntSS hH.row (HW.out.ext (hz11.trans hx113)).row hL2 HL4.out).mono ?_; rintro e w14 ⟨rfl, hx14⟩
    go_wp2_with fail
    refine (laws_heldIntSS (m := 1) (HG10.out.ext (hx11.trans (hx113.trans hx14))).row hL3 hL5 (by decide)).mono ?_; rintro e w15 ⟨rfl, hx15⟩
    go_wp2
    go_ret
    exact ⟨rfl, hy2.trans (hz11.trans (hx113.trans (hx14.trans hx15)))⟩
  · go_enter Try.func3, Try.ntmps3
    go_wp2
    go_ret
    exact ⟨rfl, Ext.refl _⟩

set_option maxRecDepth 100000 in
theorem lifted (os : Os) (started : os.Started) (H : Type) (enc : TypeId × Value → H) :
    ReturnsInHanded {} Try.checked os 3 .any (Rows.fnExactSeedHeatsSpec.pre6 enc Try.prog Try.f3 Rows.fnExactSeedHeatsRow.domain false) (Rows.fnExactSeedHeatsSpec.post enc Try.prog Try.f3 false true false false) := by
  refine returnsInHanded_of_change (C := Try.checked) (by kernel_rfl) started (by kernel_rfl) Try.func3
    (ChangeSpec.witness6 (enc := enc) (C := Try.checked) false ⟨#[], #[.slice none 0 0, .int .i64 0], []⟩ 8 (by kernel_rfl) (by kernel_rfl) (by kernel_rfl) (by kernel_rfl)) ?_
  intro W base args ds gs before hval0 hW _ _
  have hval : ∀ (j : Nat) t v, Try.f3.params[j]? = some t → args[j]? = some v → Value.okWide Try.prog W .any base t v := hval0
  have hW' := hW
  obtain ⟨p, q, hA0, hV, rfl, hfz, hnd⟩ := hW
  have hA : DataW.TrodAll enc Try.prog W 0 (fun _ => true) true Try.f3.params.toList args.toList ds p := hA0
  rw [Try.params3] at hA hval
  obtain ⟨v0, vs0, d0, ds0, p0, q0, hargs, rfl, rfl, h0, r0⟩ := trodAll_cons hA
  obtain ⟨v1, vs1, d1, ds1, p1, q1, rfl, rfl, rfl, h1, r1⟩ := trodAll_cons r0
  obtain ⟨rfl, rfl, rfl⟩ := trodAll_nil r1
  obtain rfl : args = #[v0, v1] := by cases args; simp_all
  obtain ⟨rfl, rfl⟩ := trodVars_none hV
  obtain ⟨ao0, cap0, xs0, rfl, hl0, hr0, hw0⟩ := open_IntS (hval 0 22 v0 rfl rfl) h0
  obtain ⟨a1, rfl, _, _, wa1⟩ := open_int Try.underlying3 (hval 1 3 v1 rfl rfl) h1
  refine (walk hr0 hl0 hw0 (I64.of_wf wa1)).mono fun e W' ⟨he, hx⟩ => ?_
  subst he
  exact ⟨_, rfl, law_post (by kernel_rfl) (by kernel_rfl) Try.underlying4 rfl rfl hW' rfl hx⟩

theorem holds : Rows.FnExactSeedHeatsSaid :=
  OpenClaim.holds_of_wide 3 Try.f3 rfl rfl rfl rfl rfl rfl rfl ⟨rfl, rfl, rfl, rfl, rfl⟩ rfl rfl rfl rfl rfl (by kernel_rfl) Try.func3 (by kernel_rfl)
    (of_decide_eq_true (by kernel_rfl)) (by unfold Func.isWrapper; first | (rw [if_pos (by decide +kernel)]; kernel_rfl) | (rw [if_neg (by decide +kernel)]; exact ⟨rfl, rfl⟩))
    (fun os started H enc _ => lifted os started H enc)
end Go.Proofs.Ytpafiongiffakaa.SeedHeats
