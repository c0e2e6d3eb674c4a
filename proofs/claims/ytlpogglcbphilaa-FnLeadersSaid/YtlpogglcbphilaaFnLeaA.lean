/-
  Proved here: parts of the walk of the law FnLeaders.
  Conditions: none.
-/
import Derived.Test.YtlpogglcbphilaaRelF
import Derived.Test.YtlpogglcbphilaaDrawT
import Derived.Test.YtlpogglcbphilaaVRel
import Derived.Test.YtlpogglcbphilaaRelO1
import Derived.Test.YtlpogglcbphilaaAddLeg2
import Derived.Test.YtlpogglcbphilaaAddLeg3
import Derived.Test.YtlpogglcbphilaaTByteS
import Derived.IntWalk
import Derived.Deep.DrawnRows
import Derived.Deep.DeepCutAuto
import Derived.Deep.CutBlock
namespace Go.Proofs.Ytlpogglcbphilaa.FnLeaders
open Go.ChangeShapes Go.WideShapes Go.ChangeAt Go.RowKit

/-- the code behind the first K statements -/
def dropS : Nat → Code → Code
  | 0, c => c
  | n + 1, .seq _ b => dropS n b
  | _ + 1, c => c
theorem legL_small {ts : List TeamD} {legs number time : Int} {k : Nat} (hk : k < (legL ts legs number time).length) : tlen (legL ts legs number time) k ≤ 4 := by
  unfold legL at hk ⊢
  split at hk
  · rename_i hb
    rw [if_pos hb]
    simp only [legB, Bool.and_eq_true] at hb
    have h1 := teamsB_at hb.2
    have h2 := (h1.2.2 k hk).2.1
    have h3 := h1.1.2
    unfold tlen
    omega
  · simp at hk
theorem res_row {w w' : World} {B : Bool} {e : Ending} {ts : List TeamD} {legs number time : Int} (h : ResT w (legL ts legs number time) B e w') :
    ∃ bo bc, e = .returned (.tuple #[.slice bo (legL ts legs number time).length bc, .bool B]) ∧ Ext w w' ∧ GRow w' bo 2 (legL ts legs number time).length (tsC (legL ts legs number time)) := by
  obtain ⟨bo, bc, he, hx, h⟩ := h
  refine ⟨bo, bc, he, hx, ?_⟩
  rcases h with ⟨_, _, hL⟩ | ⟨b, A, cp, hb, hT, hc⟩
  · intro hn
    rw [hL] at hn
    exact absurd hn (by simp)
  · subst hb
    exact hT.row hc (fun k hk => by have := legL_small hk; omega)

set_option maxRecDepth 100000 in
set_option maxHeartbeats 8000000 in
theorem partD {co : Option Addr} {cc m : Nat} {bs : Nat → Nat} {w wc : World} {u1 u2 u3 u4 u5 u6 u7 u8 u9 u10 u11 u12 u13 u14 u15 u16 u17 u18 u19 u20 u21 u22 u23 u24 u25 u26 u27 u28 u29 u30 u31 u32 u33 u34 u35 u36 u37 u38 u39 u40 u41 u42 u43 u44 u45 u46 u47 u48 u49 u50 u51 u52 u53 u54 u55 u56 u57 u58 u59 u60 u61 u62 u63 u64 u65 u66 u67 u68 u69 u70 u71 u72 u73 u74 u75 u76 u77 u78 u79 u80 u81 u82 u83 u84 u85 u86 u87 u88 u89 u90 u91 u92 u93 u94 u95 u96 u97 u98 u99 u100 u101 u102 u103 u104 u105 u106 u107 u108 u109 u110 u111 u112 u113 u114 u115 u116 u117 u118 u119 u120 u121 u122 u123 u124 u125 u126 u127 u128 u129 u130 u131 u132 u133 u134 u135 u136 u137 u138 u139 u140 u141 u142 u143 u144 u145 u146 u147 u148 u149 u150 u151 u152 u153 u154 u155 u156 u157 u158 u159 u160 u161 u162 u163 u164 u165 u166 u167 u168 u169 u170 u171 u172 u173 u174 u175 u176 u177 u178 u179 u180 u181 u182 u183 u184 u185 u186 u187 u188 u189 u190 u191 u192 u193 u194 u195 u196 u197 u198 u199 u200 u201 u202 u203 u204 u205 u206 u207 u208 u209 u210 u211 u212 u213 u214 u215 u216 u217 u218 u219 u220 u221 u222 u223 u224 u225 u226 u227 u228 u229 u230 u231 u232 u233 u234 u235 u236 u237 u238 u239 u240 u241 u242 u243 u244 u245 u246 u247 u248 u249 u250 u251 u252 u253 u254 u255 u256 u257 u258 u259 u260 u261 u262 u263 u264 u265 u266 u267 u268 u269 : Value}
    (HR : Hid (RowAt w co 1 m (by8 bs))) (HM : Hid (m ≤ 9223372036854775807)) (HBS : Hid (∀ k, bs k < 256)) (HX0 : Hid (Ext w wc)) :
    Code.wp Try.prog (dropS 14 (Try.f4.body.getD .skip)) (bodyPost Try.prog Try.f4 fun e w' => e = .returned (.bool true) ∧ Ext w w') ⟨#[.slice co m cc, u1, u2, u3, u4, u5, u6, u7, u8, u9, u10, u11, u12, u13, u14, u15, u16, u17, u18, u19, u20, u21, u22, u23, u24, u25, u26, u27, u28, u29, u30, u31, u32, u33, u34, u35, u36, u37, u38, u39, u40, u41, u42, u43, u44, u45, u46, u47, u48, u49, u50, u51, u52, u53, u54, u55, u56, u57, u58, u59, u60, u61, u62, u63, u64, u65, u66, u67, u68, u69, u70, u71, u72, u73, u74, u75, u76, u77, u78, u79, u80, u81, u82, u83, u84, u85, u86, u87, u88, u89, u90, u91, u92, u93, u94, u95, u96, u97, u98, u99, u100, u101, u102, u103, u104, u105, u106, u107, u108, u109, u110, u111, u112, u113, u114, u115, u116, u117, u118, u119, u120, u121, u122, u123, u124, u125, u126, u127, u128, u129, u130, u131, u132, u133, u134, u135, u136, u137, u138, u139, u140, u141, u142, u143, u144, u145, u146, u147, u148, u149, u150, u151, u152, u153, u154, u155, u156, u157, u158, u159, u160, u161, u162, u163, u164, u165, u166, u167, u168, u169, u170, u171, u172, u173, u174, u175, u176, u177, u178, u179, u180, u181, u182, u183, u184, u185, u186, u187, u188, u189, u190, u191, u192, u193, u194, u195, u196, u197, u198, u199, u200, u201, u202, u203, u204, u205, u206, u207, u208, u209, u210, u211, u212, u213, u214, u215, u216, u217, u218, u219, u220, u221, u222, u223, u224, u225, u226, u227, u228, u229, u230, u231, u232, u233, u234, u235, u236, u237, u238, u239, u240, u241, u242, u243, u244, u245, u246, u247, u248, u249, u250, u251, u252, u253, u254, u255, u256, u257, u258, u259, u260, u261, u262, u263, u264, u265, u266, u267, u268, u269], []⟩ wc := by
  conv => arg 2; whnf
  have HD := Lib.hid (draw_comes (cc := cc) (HR.out.ext HX0.out) HBS.out HM.out)
  go_wp2_with fail
  refine HD.out.mono ?_; rintro e w1 ⟨ao, cap, vs, legs, mass, number, leg, rfl, hD, h1, h2, h3, h4, hx⟩

  have hlen : (vs.map TmV.t).length = vs.length := by rw [List.length_map]
  have hG := hD.grow
  have hl8 := hD.len
  have hnil := hD.nil

  have HX1 := Lib.hid (HX0.out.trans hx)
  have HMI := Lib.hid (fun x (hx : Ext w1 x) => impl_ComesBack (w := x) (cap := cap) (hG.ext hx) (by omega) h1 h2 h3 h4)
  have HMS := Lib.hid (fun x (hx : Ext w1 x) => spec_ComesBack (w := x) (cap := cap) (hG.ext hx) (by omega) h1 h2 h3 h4)
  rw [hlen] at HMI HMS
  have hfm : ∃ (t : Int) (b : Bool), gBack (vs.map TmV.t) legs mass number leg = .tuple #[.int .i64 t, .bool b] := by unfold gBack; cases backO (vs.map TmV.t) legs mass number leg <;> exact ⟨_, _, rfl⟩
  obtain ⟨t, b, e2⟩ := hfm
  rw [e2] at HMI HMS
  clear hx hD hlen hG hnil h1 h2 h3 h4 HD HX0 e2
  go_wp2_with fail
  refine (HMI.out _ (Ext.refl _)).mono ?_; rintro e w2 ⟨rfl, hx2⟩
  have HX2 := Lib.hid hx2
  clear hx2 HMI
  go_wp2_with fail
  refine (HMS.out _ HX2.out).mono ?_; rintro e w3 ⟨rfl, hx3⟩
  have HX3 := Lib.hid (HX1.out.trans (HX2.out.trans hx3))
  clear hx3 HMS HX2 HX1
  go_wp2
  go_ret
  exact ⟨ret_b (by simp), HX3.out⟩
set_option maxRecDepth 100000 in
set_option maxHeartbeats 8000000 in
theorem partC {co : Option Addr} {cc m : Nat} {bs : Nat → Nat} {w wc : World} {u1 u2 u3 u4 u5 u6 u7 u8 u9 u10 u11 u12 u13 u14 u15 u16 u17 u18 u19 u20 u21 u22 u23 u24 u25 u26 u27 u28 u29 u30 u31 u32 u33 u34 u35 u36 u37 u38 u39 u40 u41 u42 u43 u44 u45 u46 u47 u48 u49 u50 u51 u52 u53 u54 u55 u56 u57 u58 u59 u60 u61 u62 u63 u64 u65 u66 u67 u68 u69 u70 u71 u72 u73 u74 u75 u76 u77 u78 u79 u80 u81 u82 u83 u84 u85 u86 u87 u88 u89 u90 u91 u92 u93 u94 u95 u96 u97 u98 u99 u100 u101 u102 u103 u104 u105 u106 u107 u108 u109 u110 u111 u112 u113 u114 u115 u116 u117 u118 u119 u120 u121 u122 u123 u124 u125 u126 u127 u128 u129 u130 u131 u132 u133 u134 u135 u136 u137 u138 u139 u140 u141 u142 u143 u144 u145 u146 u147 u148 u149 u150 u151 u152 u153 u154 u155 u156 u157 u158 u159 u160 u161 u162 u163 u164 u165 u166 u167 u168 u169 u170 u171 u172 u173 u174 u175 u176 u177 u178 u179 u180 u181 u182 u183 u184 u185 u186 u187 u188 u189 u190 u191 u192 u193 u194 u195 u196 u197 u198 u199 u200 u201 u202 u203 u204 u205 u206 u207 u208 u209 u210 u211 u212 u213 u214 u215 u216 u217 u218 u219 u220 u221 u222 u223 u224 u225 u226 u227 u228 u229 u230 u231 u232 u233 u234 u235 u236 u237 u238 u239 u240 u241 u242 u243 u244 u245 u246 u247 u248 u249 u250 u251 u252 u253 u254 u255 u256 u257 u258 u259 u260 u261 u262 u263 u264 u265 u266 u267 u268 u269 : Value}
    (HR : Hid (RowAt w co 1 m (by8 bs))) (HM : Hid (m ≤ 9223372036854775807)) (HBS : Hid (∀ k, bs k < 256)) (HX0 : Hid (Ext w wc)) :
    Code.wp Try.prog (dropS 10 (Try.f4.body.getD .skip)) (bodyPost Try.prog Try.f4 fun e w' => e = .returned (.bool true) ∧ Ext w w') ⟨#[.slice co m cc, u1, u2, u3, u4, u5, u6, u7, u8, u9, u10, u11, u12, u13, u14, u15, u16, u17, u18, u19, u20, u21, u22, u23, u24, u25, u26, u27, u28, u29, u30, u31, u32, u33, u34, u35, u36, u37, u38, u39, u40, u41, u42, u43, u44, u45, u46, u47, u48, u49, u50, u51, u52, u53, u54, u55, u56, u57, u58, u59, u60, u61, u62, u63, u64, u65, u66, u67, u68, u69, u70, u71, u72, u73, u74, u75, u76, u77, u78, u79, u80, u81, u82, u83, u84, u85, u86, u87, u88, u89, u90, u91, u92, u93, u94, u95, u96, u97, u98, u99, u100, u101, u102, u103, u104, u105, u106, u107, u108, u109, u110, u111, u112, u113, u114, u115, u116, u117, u118, u119, u120, u121, u122, u123, u124, u125, u126, u127, u128, u129, u130, u131, u132, u133, u134, u135, u136, u137, u138, u139, u140, u141, u142, u143, u144, u145, u146, u147, u148, u149, u150, u151, u152, u153, u154, u155, u156, u157, u158, u159, u160, u161, u162, u163, u164, u165, u166, u167, u168, u169, u170, u171, u172, u173, u174, u175, u176, u177, u178, u179, u180, u181, u182, u183, u184, u185, u186, u187, u188, u189, u190, u191, u192, u193, u194, u195, u196, u197, u198, u199, u200, u201, u202, u203, u204, u205, u206, u207, u208, u209, u210, u211, u212, u213, u214, u215, u216, u217, u218, u219, u220, u221, u222, u223, u224, u225, u226, u227, u228, u229, u230, u231, u232, u233, u234, u235, u236, u237, u238, u239, u240, u241, u242, u243, u244, u245, u246, u247, u248, u249, u250, u251, u252, u253, u254, u255, u256, u257, u258, u259, u260, u261, u262, u263, u264, u265, u266, u267, u268, u269], []⟩ wc := by
  conv => arg 2; whnf
  have HD := Lib.hid (draw_fastest (cc := cc) (HR.out.ext HX0.out) HBS.out HM.out)
  go_wp2_with fail
  refine HD.out.mono ?_; rintro e w1 ⟨ao, cap, vs, legs, leg, rfl, hD, h1, h2, hx⟩

  have hlen : (vs.map TmV.t).length = vs.length := by rw [List.length_map]
  have hG := hD.grow
  have hl8 := hD.len
  have hnil := hD.nil

  have HX1 := Lib.hid (HX0.out.trans hx)
  have HMI := Lib.hid (fun x (hx : Ext w1 x) => impl_FastestOn (w := x) (cap := cap) (hG.ext hx) (by omega) h1 h2)
  have HMS := Lib.hid (fun x (hx : Ext w1 x) => spec_FastestOn (w := x) (cap := cap) (hG.ext hx) (by omega) h1 h2)
  rw [hlen] at HMI HMS
  have hform := fast_form (vs.map TmV.t) legs leg
  have HG := Lib.hid hG; have HLEN := Lib.hid hlen
  clear hx hD hG hnil h1 h2 HD HX0 hlen
  rcases hform with e2 | ⟨b, l, e2, m2, hm2, hm3, hmin⟩
  · rw [e2] at HMI HMS; simp only [fastV] at HMI HMS
    clear e2
    go_wp2_with fail
    refine (HMI.out _ (Ext.refl _)).mono ?_; rintro e w2 ⟨rfl, hx2⟩
    have HX2 := Lib.hid hx2
    clear hx2 HMI
    go_wp2_with fail
    refine (HMS.out _ HX2.out).mono ?_; rintro e w3 ⟨rfl, hx3⟩
    have HX3 := Lib.hid (HX2.out.trans hx3)
    clear hx3 HMS HX2
    go_upto_if 198 with fail
    go_cut [] (fun wc => Ext w1 wc)
    case first =>
      go_wp2_with fail
      go_meet
      exact HX3.out
    case rest =>
      have HXC := Lib.hid (HX1.out.trans hcut)
      clear hcut HX3
      rename_i hK
      exact hK _ _ (partD HR HM HBS HXC)
  · subst hm2
    rw [e2] at HMI HMS; simp only [fastV] at HMI HMS
    have HMN := Lib.hid hmin
    clear e2 hmin
    go_wp2_with fail
    refine (HMI.out _ (Ext.refl _)).mono ?_; rintro e w2 ⟨rfl, hx2⟩
    have HX2 := Lib.hid hx2
    clear hx2 HMI
    go_wp2_with fail
    refine (HMS.out _ HX2.out).mono ?_; rintro e w3 ⟨rfl, hx3⟩
    have HX3 := Lib.hid (HX2.out.trans hx3)
    clear hx3 HMS HX2
    go_upto_if 198 with fail
    go_cut [] (fun wc => Ext w1 wc)
    case rest =>
      have HXC := Lib.hid (HX1.out.trans hcut)
      clear hcut HX3
      rename_i hK
      exact hK _ _ (partD HR HM HBS HXC)
    case first =>
      go_wp2_with fail
      go_loopw [31] (fun i wr => ∃ k : Nat, k ≤ vs.length ∧ i = .int .i64 k ∧ Ext w3 wr) (fun i _ => vs.length - (intOf i).toNat)
      case atStart => exact ⟨0, Nat.zero_le _, rfl, Ext.refl _⟩
      case round =>
        obtain ⟨k, hk, rfl, hx⟩ := hrel
        by_cases hlt : k < vs.length
        · have hgr := HG.out.ext (HX3.out.trans hx)
          obtain ⟨b', off, rfl, hcell⟩ := hgr (by rw [HLEN.out]; omega)
          obtain ⟨a1, c1, d0, d1, r1, n1, l1⟩ := teams_at (fun j hj => hcell k (by rw [HLEN.out]; exact hlt) j hj)
          have hmk := HMN.out k (by rw [HLEN.out]; exact hlt)
          generalize nth (vs.map TmV.t) k = t at *
          have HXW := Lib.hid hx
          have hk0 : (0 : Int) ≤ (k : Int) := by omega
          have hk1 : (k : Int) < (vs.length : Int) := by omega
          clear hcell hgr hx
          by_cases hlm : m2 < t.legs.length
          · obtain ⟨lb, loff, rfl, hlc⟩ := ints_at' r1 (by omega)
            have dl := hlc m2 hlm
            rw [legT_in hlm] at hmk
            generalize nth t.legs m2 = y at hmk dl
            have hi0 : (0 : Int) ≤ (m2 : Int) := by omega
            have hi1 : (m2 : Int) < (t.legs.length : Int) := by omega
            clear hlc r1
            by_cases hy : 0 < y
            · have hle := hmk hy
              clear hmk
              go_wp2
              go_roundw
              case rel => exact ⟨k + 1, by omega, by go_num, HXW.out⟩
              case measure => simp [intOf] <;> omega
            · clear hmk
              go_wp2
              go_roundw
              case rel => exact ⟨k + 1, by omega, by go_num, HXW.out⟩
              case measure => simp [intOf] <;> omega
          · have hi1 : ¬ (m2 : Int) < (t.legs.length : Int) := by omega
            clear hmk r1
            go_wp2
            go_roundw
            case rel => exact ⟨k + 1, by omega, by go_num, HXW.out⟩
            case measure => simp [intOf] <;> omega
        · have hnk : ¬ (k : Int) < (vs.length : Int) := by omega
          have HXE := Lib.hid (HX3.out.trans hx)
          clear hx
          go_wp2_with fail
          go_meet
          exact HXE.out
set_option maxRecDepth 100000 in
set_option maxHeartbeats 8000000 in
theorem partB {co : Option Addr} {cc m : Nat} {bs : Nat → Nat} {w wc : World} {u1 u2 u3 u4 u5 u6 u7 u8 u9 u10 u11 u12 u13 u14 u15 u16 u17 u18 u19 u20 u21 u22 u23 u24 u25 u26 u27 u28 u29 u30 u31 u32 u33 u34 u35 u36 u37 u38 u39 u40 u41 u42 u43 u44 u45 u46 u47 u48 u49 u50 u51 u52 u53 u54 u55 u56 u57 u58 u59 u60 u61 u62 u63 u64 u65 u66 u67 u68 u69 u70 u71 u72 u73 u74 u75 u76 u77 u78 u79 u80 u81 u82 u83 u84 u85 u86 u87 u88 u89 u90 u91 u92 u93 u94 u95 u96 u97 u98 u99 u100 u101 u102 u103 u104 u105 u106 u107 u108 u109 u110 u111 u112 u113 u114 u115 u116 u117 u118 u119 u120 u121 u122 u123 u124 u125 u126 u127 u128 u129 u130 u131 u132 u133 u134 u135 u136 u137 u138 u139 u140 u141 u142 u143 u144 u145 u146 u147 u148 u149 u150 u151 u152 u153 u154 u155 u156 u157 u158 u159 u160 u161 u162 u163 u164 u165 u166 u167 u168 u169 u170 u171 u172 u173 u174 u175 u176 u177 u178 u179 u180 u181 u182 u183 u184 u185 u186 u187 u188 u189 u190 u191 u192 u193 u194 u195 u196 u197 u198 u199 u200 u201 u202 u203 u204 u205 u206 u207 u208 u209 u210 u211 u212 u213 u214 u215 u216 u217 u218 u219 u220 u221 u222 u223 u224 u225 u226 u227 u228 u229 u230 u231 u232 u233 u234 u235 u236 u237 u238 u239 u240 u241 u242 u243 u244 u245 u246 u247 u248 u249 u250 u251 u252 u253 u254 u255 u256 u257 u258 u259 u260 u261 u262 u263 u264 u265 u266 u267 u268 u269 : Value}
    (HR : Hid (RowAt w co 1 m (by8 bs))) (HM : Hid (m ≤ 9223372036854775807)) (HBS : Hid (∀ k, bs k < 256)) (HX0 : Hid (Ext w wc)) :
    Code.wp Try.prog (dropS 6 (Try.f4.body.getD .skip)) (bodyPost Try.prog Try.f4 fun e w' => e = .returned (.bool true) ∧ Ext w w') ⟨#[.slice co m cc, u1, u2, u3, u4, u5, u6, u7, u8, u9, u10, u11, u12, u13, u14, u15, u16, u17, u18, u19, u20, u21, u22, u23, u24, u25, u26, u27, u28, u29, u30, u31, u32, u33, u34, u35, u36, u37, u38, u39, u40, u41, u42, u43, u44, u45, u46, u47, u48, u49, u50, u51, u52, u53, u54, u55, u56, u57, u58, u59, u60, u61, u62, u63, u64, u65, u66, u67, u68, u69, u70, u71, u72, u73, u74, u75, u76, u77, u78, u79, u80, u81, u82, u83, u84, u85, u86, u87, u88, u89, u90, u91, u92, u93, u94, u95, u96, u97, u98, u99, u100, u101, u102, u103, u104, u105, u106, u107, u108, u109, u110, u111, u112, u113, u114, u115, u116, u117, u118, u119, u120, u121, u122, u123, u124, u125, u126, u127, u128, u129, u130, u131, u132, u133, u134, u135, u136, u137, u138, u139, u140, u141, u142, u143, u144, u145, u146, u147, u148, u149, u150, u151, u152, u153, u154, u155, u156, u157, u158, u159, u160, u161, u162, u163, u164, u165, u166, u167, u168, u169, u170, u171, u172, u173, u174, u175, u176, u177, u178, u179, u180, u181, u182, u183, u184, u185, u186, u187, u188, u189, u190, u191, u192, u193, u194, u195, u196, u197, u198, u199, u200, u201, u202, u203, u204, u205, u206, u207, u208, u209, u210, u211, u212, u213, u214, u215, u216, u217, u218, u219, u220, u221, u222, u223, u224, u225, u226, u227, u228, u229, u230, u231, u232, u233, u234, u235, u236, u237, u238, u239, u240, u241, u242, u243, u244, u245, u246, u247, u248, u249, u250, u251, u252, u253, u254, u255, u256, u257, u258, u259, u260, u261, u262, u263, u264, u265, u266, u267, u268, u269], []⟩ wc := by
  conv => arg 2; whnf
  have HD := Lib.hid (draw_addleg (cc := cc) (HR.out.ext HX0.out) HBS.out HM.out)
  go_wp2_with fail
  refine HD.out.mono ?_; rintro e w1 ⟨ao, cap, vs, legs, number, time, rfl, hD, h1, h2, h3, hx⟩
  have hl8 := hD.len
  have HX1 := Lib.hid (HX0.out.trans hx)
  have HMI := Lib.hid (fun x (hx : Ext w1 x) => impl_AddLeg (w := x) (cap := cap) (legs := legs) (number := number) (time := time) (hD.row.ext hx) (fun y hy => ⟨(hD.ok y hy).1.ext hx, (hD.ok y hy).2⟩) (by omega))
  have HMS := Lib.hid (fun x (hx : Ext w1 x) => spec_AddLeg (w := x) (cap := cap) (legs := legs) (number := number) (time := time) (hD.row.ext hx) (fun y hy => ⟨(hD.ok y hy).1.ext hx, (hD.ok y hy).2⟩) (by omega))
  have hLl : (legL (vs.map TmV.t) legs number time).length ≤ 8 := by have := legL_len (vs.map TmV.t) legs number time; rw [List.length_map] at this; omega
  have HLAST := Lib.hid (fun k => @leg_last (vs.map TmV.t) legs number time k)
  have HSM := Lib.hid (fun k => @legL_small (vs.map TmV.t) legs number time k)
  clear hx hD h1 h2 h3 HD HX0
  go_wp2_with fail
  refine (HMI.out _ (Ext.refl _)).mono ?_; rintro e w2 hres
  obtain ⟨bo, bc, rfl, hx2, hg⟩ := res_row hres
  have HF2 := Lib.hid hg; have HX2 := Lib.hid hx2
  clear hg hx2 HMI hres
  go_wp2_with fail
  refine (HMS.out _ HX2.out).mono ?_; rintro e w3 hres
  obtain ⟨bo', bc', rfl, hx3, hg⟩ := res_row hres
  have HF3 := Lib.hid (HF2.out.ext hx3); have HK3 := Lib.hid hg; have HX3 := Lib.hid (HX2.out.trans hx3)
  clear hg hx3 HMS HX2 hres HF2
  generalize legL (vs.map TmV.t) legs number time = L at *
  generalize legB (vs.map TmV.t) legs number time = RB at *
  have HVP := Lib.hid (laws_vTeams (ac := bc) (bc := bc') HF3.out HK3.out (by omega))
  go_upto_region 15 with fail
  go_cut [131] (fun b wc => b = .bool false ∧ Ext w1 wc ∧ GRow wc bo 2 L.length (tsC L))
  case first =>
    cases RB
    all_goals
      go_wp2_with fail
      refine HVP.out.mono ?_; rintro e w4 ⟨rfl, hx4⟩
      have HF4 := Lib.hid (HF3.out.ext hx4); have HX4 := Lib.hid (HX3.out.trans hx4)
      clear hx4 HVP HF3 HX3
      go_wp2_with fail
      go_meet
      exact ⟨rfl, HX4.out, HF4.out⟩
  case rest =>
  obtain ⟨rfl, hcut⟩ := hcut
  generalize wc = w4 at hcut ⊢
  have HX4 := Lib.hid hcut.1; have HF4 := Lib.hid hcut.2
  clear hcut HVP HF3 HX3 HK3
  go_upto_block 0 with fail
  go_cut [] (fun wc => Ext w4 wc)
  case rest =>
    have HXC := Lib.hid (HX1.out.trans (HX4.out.trans hcut))
    clear hcut
    rename_i hK
    exact hK _ _ (partC HR HM HBS HXC)
  case first =>
    go_wp2
    go_loopw [21] (fun i wr => ∃ k : Nat, k ≤ L.length ∧ i = .int .i64 k ∧ Ext w4 wr) (fun i _ => L.length - (intOf i).toNat)
    case atStart => exact ⟨0, Nat.zero_le _, rfl, Ext.refl _⟩
    case round =>
      obtain ⟨k, hk, rfl, hx⟩ := hrel
      by_cases hlt : k < L.length
      · obtain ⟨b, off, rfl, hcell⟩ := HF4.out (by omega)
        obtain ⟨a1, c1, d0, d1, r1, n1, l1⟩ := teams_at (fun j hj => (hcell k hlt j hj).ext hx)
        have hlast := HLAST.out k hlt
        have hsm : (nth L k).legs.length ≤ 4 := HSM.out k hlt
        generalize nth L k = t at *
        have HXW := Lib.hid hx
        have hk0 : (0 : Int) ≤ (k : Int) := by omega
        have hk1 : (k : Int) < (L.length : Int) := by omega
        clear hcell hx
        by_cases hnum : t.num = number
        · obtain ⟨l0, hl0⟩ := hlast hnum
          rw [hl0, List.length_append, List.length_singleton] at d1 r1 n1 l1 hsm
          obtain ⟨lb, loff, rfl, hlc⟩ := ints_at' (xs := l0 ++ [time]) (by rw [List.length_append]; exact r1) (by simp)
          have dl := hlc l0.length (by simp)
          have e1 : nth (l0 ++ [time]) l0.length = time := by simp [nth]
          rw [e1] at dl
          subst hnum
          generalize l0.length = z at *
          have hz : ((z + 1 : Nat) : Int) - 1 = (z : Int) := by omega
          have hz0 : (0 : Int) ≤ (z : Int) := by omega
          have hz1 : (z : Int) < ((z + 1 : Nat) : Int) := by omega
          clear hlc r1 e1 hl0 hlast
          go_wp2
          go_quiet (fail)
          go_wp2
          go_roundw
          case rel => exact ⟨k + 1, by omega, by go_num, HXW.out.trans (Ext.drewQ _ _)⟩
          case measure => simp [intOf] <;> omega
        · have hne : (t.num == number) = false := by simpa using hnum
          have hne2 : decide (t.num = number) = false := by simpa using hnum
          clear r1 hlast
          go_wp2
          go_quiet (fail)
          go_wp2
          go_roundw
          case rel => exact ⟨k + 1, by omega, by go_num, HXW.out.trans (Ext.drewQ _ _)⟩
          case measure => simp [intOf] <;> omega
      · have hnk : ¬ (k : Int) < (L.length : Int) := by omega
        have HXE := Lib.hid hx
        clear hx
        go_wp2_with fail
        go_meet
        exact HXE.out
end Go.Proofs.Ytlpogglcbphilaa.FnLeaders
