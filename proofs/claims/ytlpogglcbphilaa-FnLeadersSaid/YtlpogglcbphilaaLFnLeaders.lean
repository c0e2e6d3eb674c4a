/-
  Proved here: the law FnLeaders answers true for every input and leaves its arguments as they were.
  Conditions: none.
-/
import Derived.Test.YtlpogglcbphilaaFnLeaA
import Derived.IntWalk
import Derived.Deep.DrawnRows
import Derived.Deep.DeepCutAuto
import Derived.Deep.CutBlock
namespace Go.Proofs.Ytlpogglcbphilaa.FnLeaders
open Go.ChangeShapes Go.WideShapes Go.ChangeAt Go.RowKit

set_option maxRecDepth 100000 in
set_option maxHeartbeats 8000000 in
theorem partA {co : Option Addr} {cc m : Nat} {bs : Nat → Nat} {w wc : World} {u1 u2 u7 u8 u9 u10 u11 u12 u13 u14 u15 u16 u17 u18 u19 u20 u21 u22 u23 u24 u25 u26 u27 u28 u29 u30 u31 u32 u33 u34 u35 u36 u37 u38 u39 u40 u41 u42 u43 u44 u45 u46 u47 u48 u49 u50 u51 u52 u53 u54 u55 u56 u57 u58 u59 u60 u61 u62 u63 u64 u65 u66 u67 u68 u69 u70 u71 u72 u73 u74 u75 u76 u77 u78 u79 u80 u81 u82 u83 u84 u85 u86 u87 u88 u89 u90 u91 u92 u93 u94 u95 u96 u97 u98 u99 u100 u101 u102 u103 u104 u105 u106 u107 u108 u109 u110 u111 u112 u113 u114 u115 u116 u117 u118 u119 u120 u121 u122 u123 u124 u125 u126 u127 u128 u129 u130 u131 u132 u133 u134 u135 u136 u137 u138 u139 u140 u141 u142 u143 u144 u145 u146 u147 u148 u149 u150 u151 u152 u153 u154 u155 u156 u157 u158 u159 u160 u161 u162 u163 u164 u165 u166 u167 u168 u169 u170 u171 u172 u173 u174 u175 u176 u177 u178 u179 u180 u181 u182 u183 u184 u185 u186 u187 u188 u189 u190 u191 u192 u193 u194 u195 u196 u197 u198 u199 u200 u201 u202 u203 u204 u205 u206 u207 u208 u209 u210 u211 u212 u213 u214 u215 u216 u217 u218 u219 u220 u221 u222 u223 u224 u225 u226 u227 u228 u229 u230 u231 u232 u233 u234 u235 u236 u237 u238 u239 u240 u241 u242 u243 u244 u245 u246 u247 u248 u249 u250 u251 u252 u253 u254 u255 u256 u257 u258 u259 u260 u261 u262 u263 u264 u265 u266 u267 u268 u269 : Value} {ao : Option Addr} {cap : Nat} {vs : List TmV} {legs mass leg : Int}
    (HR : Hid (RowAt w co 1 m (by8 bs))) (HM : Hid (m ≤ 9223372036854775807)) (HBS : Hid (∀ k, bs k < 256)) (HX0 : Hid (Ext w wc))
    (hD : DrawnT w.heap.size wc vs ao cap) (h1 : I64 legs) (h2 : I64 mass) (h3 : I64 leg) :
    Code.wp Try.prog (dropS 3 (Try.f4.body.getD .skip)) (bodyPost Try.prog Try.f4 fun e w' => e = .returned (.bool true) ∧ Ext w w') ⟨#[.slice co m cc, u1, u2, .slice ao vs.length cap, .int .i64 legs, .int .i64 mass, .int .i64 leg, u7, u8, u9, u10, u11, u12, u13, u14, u15, u16, u17, u18, u19, u20, u21, u22, u23, u24, u25, u26, u27, u28, u29, u30, u31, u32, u33, u34, u35, u36, u37, u38, u39, u40, u41, u42, u43, u44, u45, u46, u47, u48, u49, u50, u51, u52, u53, u54, u55, u56, u57, u58, u59, u60, u61, u62, u63, u64, u65, u66, u67, u68, u69, u70, u71, u72, u73, u74, u75, u76, u77, u78, u79, u80, u81, u82, u83, u84, u85, u86, u87, u88, u89, u90, u91, u92, u93, u94, u95, u96, u97, u98, u99, u100, u101, u102, u103, u104, u105, u106, u107, u108, u109, u110, u111, u112, u113, u114, u115, u116, u117, u118, u119, u120, u121, u122, u123, u124, u125, u126, u127, u128, u129, u130, u131, u132, u133, u134, u135, u136, u137, u138, u139, u140, u141, u142, u143, u144, u145, u146, u147, u148, u149, u150, u151, u152, u153, u154, u155, u156, u157, u158, u159, u160, u161, u162, u163, u164, u165, u166, u167, u168, u169, u170, u171, u172, u173, u174, u175, u176, u177, u178, u179, u180, u181, u182, u183, u184, u185, u186, u187, u188, u189, u190, u191, u192, u193, u194, u195, u196, u197, u198, u199, u200, u201, u202, u203, u204, u205, u206, u207, u208, u209, u210, u211, u212, u213, u214, u215, u216, u217, u218, u219, u220, u221, u222, u223, u224, u225, u226, u227, u228, u229, u230, u231, u232, u233, u234, u235, u236, u237, u238, u239, u240, u241, u242, u243, u244, u245, u246, u247, u248, u249, u250, u251, u252, u253, u254, u255, u256, u257, u258, u259, u260, u261, u262, u263, u264, u265, u266, u267, u268, u269], []⟩ wc := by
  conv => arg 2; whnf
  generalize hwc : wc = w1 at hD HX0 ⊢
  clear hwc wc
  have HX1 := HX0
  clear HX0

  have hlen : (vs.map TmV.t).length = vs.length := by rw [List.length_map]
  have hG := hD.grow
  have hl8 := hD.len
  have hnil := hD.nil

  have HMI := Lib.hid (fun x (hx : Ext w1 x) => impl_LeaderAfter (w := x) (cap := cap) (hG.ext hx) (by omega) h1 h2 h3)
  have HMS := Lib.hid (fun x (hx : Ext w1 x) => spec_LeaderAfter (w := x) (cap := cap) (hG.ext hx) (by omega) h1 h2 h3)
  have HRO := Lib.hid (fun x (hx : Ext w1 x) => impl_RelayOrder (w := x) (cap := cap) (legs := legs) (hG.ext hx) (by omega) h1 hnil)
  rw [hlen] at HMI HMS HRO
  have hform := lead_form (vs.map TmV.t) legs mass leg
  clear hD hlen hG hnil h1 h2 h3
  rcases hform with e2 | ⟨l, e2 | ⟨e2, hlg, hlast⟩⟩
  · rw [e2] at HMI HMS
    clear e2 HRO

    go_wp2_with fail
    refine (HMI.out _ (Ext.refl _)).mono ?_; rintro e w2 ⟨rfl, hx2⟩
    have HX2 := Lib.hid hx2
    clear hx2 HMI
    go_wp2_with fail
    refine (HMS.out _ HX2.out).mono ?_; rintro e w3 ⟨rfl, hx3⟩
    have HX3 := Lib.hid (HX2.out.trans hx3)
    clear hx3 HMS HX2
    go_upto_if 79 with fail
    go_cut [] (fun wc => Ext w1 wc)
    case rest =>
      have HXC := Lib.hid (HX1.out.trans hcut)
      clear hcut HX3
      rename_i hK
      exact hK _ _ (partB HR HM HBS HXC)
    case first =>

      go_wp2_with fail
      go_meet
      exact HX3.out

  · rw [e2] at HMI HMS
    clear e2 HRO

    go_wp2_with fail
    refine (HMI.out _ (Ext.refl _)).mono ?_; rintro e w2 ⟨rfl, hx2⟩
    have HX2 := Lib.hid hx2
    clear hx2 HMI
    go_wp2_with fail
    refine (HMS.out _ HX2.out).mono ?_; rintro e w3 ⟨rfl, hx3⟩
    have HX3 := Lib.hid (HX2.out.trans hx3)
    clear hx3 HMS HX2
    go_upto_if 79 with fail
    go_cut [] (fun wc => Ext w1 wc)
    case rest =>
      have HXC := Lib.hid (HX1.out.trans hcut)
      clear hcut HX3
      rename_i hK
      exact hK _ _ (partB HR HM HBS HXC)
    case first =>

      go_wp2_with fail
      go_meet
      exact HX3.out

  · rw [e2] at HMI HMS
    have hlg0 := hlg.1; have hlg1 := hlg.2
    clear e2 hlg
    by_cases hll : leg = legs - 1
    · obtain ⟨hB, hL0, hL1⟩ := hlast hll
      have hLl := relL_len (vs.map TmV.t) legs
      rw [hB] at HRO
      generalize relL (vs.map TmV.t) legs = L at *
      have HL1 := Lib.hid hL1
      subst hll
      clear hlast hB hL1

      go_wp2_with fail
      refine (HMI.out _ (Ext.refl _)).mono ?_; rintro e w2 ⟨rfl, hx2⟩
      have HX2 := Lib.hid hx2
      clear hx2 HMI
      go_wp2_with fail
      refine (HMS.out _ HX2.out).mono ?_; rintro e w3 ⟨rfl, hx3⟩
      have HX3 := Lib.hid (HX2.out.trans hx3)
      clear hx3 HMS HX2
      go_upto_if 79 with fail
      go_cut [] (fun wc => Ext w1 wc)
      case rest =>
        have HXC := Lib.hid (HX1.out.trans hcut)
        clear hcut HX3
        rename_i hK
        exact hK _ _ (partB HR HM HBS HXC)
      case first =>

        go_wp2_with fail
        refine (HRO.out _ HX3.out).mono ?_; rintro e w4 ⟨bo, bc, rfl, hx4, hF⟩
        obtain ⟨b, off, rfl, hcell⟩ := ints_at' hF.row (by omega)
        have d0 := hcell 0 hL0
        rw [HL1.out, Nat.add_zero] at d0
        have HX4 := Lib.hid (HX3.out.trans hx4)
        have hne : ¬ L.length = 0 := by omega
        have hne2 : decide (L.length = 0) = false := by simpa using hne
        have hne3 : ¬ L = [] := fun q => by rw [q] at hL0; simp at hL0
        have hpos : (0 : Int) < (L.length : Int) := by omega
        clear hcell hF hx4
        go_wp2_with fail
        go_meet
        exact HX4.out
    · have hne : (leg == legs - 1) = false := by simpa using hll
      clear hlast HRO

      go_wp2_with fail
      refine (HMI.out _ (Ext.refl _)).mono ?_; rintro e w2 ⟨rfl, hx2⟩
      have HX2 := Lib.hid hx2
      clear hx2 HMI
      go_wp2_with fail
      refine (HMS.out _ HX2.out).mono ?_; rintro e w3 ⟨rfl, hx3⟩
      have HX3 := Lib.hid (HX2.out.trans hx3)
      clear hx3 HMS HX2
      go_upto_if 79 with fail
      go_cut [] (fun wc => Ext w1 wc)
      case rest =>
        have HXC := Lib.hid (HX1.out.trans hcut)
        clear hcut HX3
        rename_i hK
        exact hK _ _ (partB HR HM HBS HXC)
      case first =>

        go_wp2_with fail
        go_meet
        exact HX3.out
set_option maxRecDepth 100000 in
set_option maxHeartbeats 8000000 in
theorem walk {co : Option Addr} {cc m : Nat} {bs : Nat → Nat} {w : World} (hr : RowAt w co 1 m (by8 bs)) (hm : m ≤ 9223372036854775807) (hb : ∀ k, bs k < 256) :
    Calls Try.prog 4 #[.slice co m cc] w fun e w' => e = .returned (.bool true) ∧ Ext w w' := by
  have HV := Lib.hid (laws_vBig (ao := co) (cap := cc) (w := w) hm)
  have HR := Lib.hid hr; have HM := Lib.hid hm; have HBS := Lib.hid hb
  clear hr hb
  by_cases hbig : 65536 < m
  · have HBIG : Hid (decide (65536 < m) = true) := Lib.hid (by simpa using hbig)
    clear hbig hm
    go_enter Try.func4, Try.ntmps4
    go_wp2_with fail
    refine HV.out.mono ?_; rintro e w1 ⟨rfl, rfl⟩
    rw [HBIG.out]
    clear HV HBIG
    go_wp2
    go_ret
    exact ⟨rfl, Ext.refl _⟩
  · have HBIG : Hid (decide (65536 < m) = false) := Lib.hid (by simpa using hbig)
    clear hbig hm
    go_enter Try.func4, Try.ntmps4
    go_upto_region 1 with fail
    go_cut [41] (fun b wc => b = .bool false ∧ Ext w wc)
    case first =>
      go_wp2_with fail
      refine HV.out.mono ?_; rintro e w1 ⟨rfl, rfl⟩
      rw [HBIG.out]
      clear HV HBIG
      go_wp2_with fail
      go_meet
      exact ⟨rfl, Ext.refl _⟩
    case rest =>
      obtain ⟨rfl, hcut⟩ := hcut
      generalize wc = w0 at hcut ⊢
      have HXC := Lib.hid hcut
      clear hcut
      go_upto_region 3 with fail
      have HD := Lib.hid (draw_leader (cc := cc) (HR.out.ext HXC.out) HBS.out HM.out)
      go_cut [3, 4, 5, 6] (fun a b c d w1 => ∃ (ao : Option Addr) (cap : Nat) (vs : List TmV) (legs mass leg : Int), a = .slice ao vs.length cap ∧ b = .int .i64 legs ∧ c = .int .i64 mass ∧ d = .int .i64 leg ∧ DrawnT w.heap.size w1 vs ao cap ∧ I64 legs ∧ I64 mass ∧ I64 leg ∧ Ext w w1)
      case first =>
        go_wp2_with fail
        refine HD.out.mono ?_; rintro e w1 ⟨ao, cap, vs, legs, mass, leg, rfl, hD, h1, h2, h3, hx⟩
        have HQ := Lib.hid (show DrawnT w.heap.size w1 vs ao cap ∧ I64 legs ∧ I64 mass ∧ I64 leg ∧ Ext w w1 from ⟨hD.mono HXC.out.size, h1, h2, h3, HXC.out.trans hx⟩)
        clear hD h1 h2 h3 hx HD
        go_wp2_with fail
        go_meet
        exact ⟨ao, cap, vs, legs, mass, leg, rfl, rfl, rfl, rfl, HQ.out⟩
      case rest =>
        obtain ⟨ao, cap, vs, legs, mass, leg, rfl, rfl, rfl, rfl, hD, h1, h2, h3, hx⟩ := hcut
        have HXD := Lib.hid hx
        clear hx HD HXC
        rename_i hK
        exact hK _ _ (partA HR HM HBS HXD hD h1 h2 h3)

set_option maxRecDepth 100000 in
theorem lifted (os : Os) (started : os.Started) (H : Type) (enc : TypeId × Value → H) :
    ReturnsInHanded {} Try.checked os 4 .any (Rows.fnLeadersSpec.pre6 enc Try.prog Try.f4 Rows.fnLeadersRow.domain false) (Rows.fnLeadersSpec.post enc Try.prog Try.f4 false true false false) := by
  refine returnsInHanded_of_change (C := Try.checked) (by kernel_rfl) started (by kernel_rfl) Try.func4
    (ChangeSpec.witness6 (enc := enc) (C := Try.checked) false ⟨#[], #[.slice none 0 0], []⟩ 8 (by kernel_rfl) (by kernel_rfl) (by kernel_rfl) (by kernel_rfl)) ?_
  intro W base args ds gs before hval0 hW _ _
  have hval : ∀ (j : Nat) t v, Try.f4.params[j]? = some t → args[j]? = some v → Value.okWide Try.prog W .any base t v := hval0
  have hW' := hW
  obtain ⟨p, q, hA0, hV, rfl, hfz, hnd⟩ := hW
  have hA : DataW.TrodAll enc Try.prog W 0 (fun _ => true) true Try.f4.params.toList args.toList ds p := hA0
  rw [Try.params4] at hA hval
  obtain ⟨v0, vs0, d0, ds0, p0, q0, hargs, rfl, rfl, h0, r0⟩ := trodAll_cons hA
  obtain ⟨rfl, rfl, rfl⟩ := trodAll_nil r0
  obtain rfl : args = #[v0] := by cases args; simp_all
  obtain ⟨rfl, rfl⟩ := trodVars_none hV
  obtain ⟨ao0, cap0, m0, bs0, rfl, hl0, hr0, hw0⟩ := open_ByteS (hval 0 22 v0 rfl rfl) h0
  refine (walk hr0 hl0 hw0).mono fun e W' ⟨he, hx⟩ => ?_
  subst he
  exact ⟨_, rfl, law_post (by kernel_rfl) (by kernel_rfl) Try.underlying4 rfl rfl hW' rfl hx⟩

theorem holds : Rows.FnLeadersSaid :=
  OpenClaim.holds_of_wide 4 Try.f4 rfl rfl rfl rfl rfl rfl rfl ⟨rfl, rfl, rfl, rfl, rfl⟩ rfl rfl rfl rfl rfl (by kernel_rfl) Try.func4 (by kernel_rfl)
    (of_decide_eq_true (by kernel_rfl)) (by unfold Func.isWrapper; first | (rw [if_pos (by decide +kernel)]; kernel_rfl) | (rw [if_neg (by decide +kernel)]; exact ⟨rfl, rfl⟩))
    (fun os started H enc _ => lifted os started H enc)

end Go.Proofs.Ytlpogglcbphilaa.FnLeaders
