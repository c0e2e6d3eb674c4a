/-
  Proved here: parts of the walk of the law FnRelays.
  Conditions: none.
-/
import Derived.Test.YtlpogglcbphilaaRelF
import Derived.Test.YtlpogglcbphilaaDrawT
import Derived.Test.YtlpogglcbphilaaVRel
import Derived.Test.YtlpogglcbphilaaRelO1
import Derived.Test.YtlpogglcbphilaaTByteS
import Derived.IntWalk
import Derived.Deep.DrawnRows
import Derived.Deep.DeepCutAuto
import Derived.Deep.CutBlock
namespace Go.Proofs.Ytlpogglcbphilaa.FnRelays
open Go.ChangeShapes Go.WideShapes Go.ChangeAt Go.RowKit

/-- the code behind the first K statements -/
def dropS : Nat → Code → Code
  | 0, c => c
  | n + 1, .seq _ b => dropS n b
  | _ + 1, c => c
set_option maxRecDepth 100000 in
set_option maxHeartbeats 8000000 in
theorem part4 {co : Option Addr} {cc m : Nat} {bs : Nat → Nat} {w wc : World} {u1 u2 u3 u4 u5 u6 u7 u8 u9 u10 u11 u12 u13 u14 u15 u16 u17 u18 u19 u20 u21 u22 u23 u24 u25 u26 u27 u28 u29 u30 u31 u32 u33 u34 u35 u36 u37 u38 u39 u40 u41 u42 u43 u44 u45 u46 u47 u48 u49 u50 u51 u52 u53 u54 u55 u56 u57 u58 u59 u60 u61 u62 u63 u64 u65 u66 u67 u68 u69 u70 u71 u72 u73 u74 u75 u76 u77 u78 u79 u80 u81 u82 u83 u84 u85 u86 u87 u88 u89 u90 u91 u92 u93 u94 u95 u96 u97 u98 u99 u100 u101 u102 u103 u104 u105 u106 u107 u108 u109 u110 u111 u112 u113 u114 u115 u116 u117 u118 u119 u120 u121 u122 u123 u124 u125 u126 u127 u128 u129 u130 u131 u132 u133 u134 u135 u136 u137 u138 u139 u140 u141 u142 u143 u144 u145 u146 u147 u148 u149 u150 u151 u152 u153 u154 u155 u156 u157 u158 u159 u160 u161 u162 u163 u164 u165 u166 u167 u168 u169 u170 u171 u172 u173 u174 u175 u176 u177 u178 u179 u180 u181 u182 u183 u184 u185 u186 u187 u188 u189 u190 u191 u192 u193 u194 u195 u196 u197 u198 u199 u200 u201 u202 u203 u204 u205 u206 u207 u208 u209 u210 u211 u212 u213 u214 u215 u216 u217 u218 u219 u220 u221 u222 u223 u224 u225 u226 u227 u228 u229 u230 u231 u232 u233 u234 u235 u236 u237 u238 u239 u240 u241 u242 u243 u244 u245 u246 u247 u248 u249 u250 u251 u252 u253 u254 u255 u256 u257 u258 u259 u260 u261 u262 u263 u264 u265 u266 u267 u268 u269 u270 u271 u272 u273 u274 u275 u276 u277 u278 u279 u280 u281 u282 u283 u284 u285 u286 u287 u288 u289 u290 u291 u292 u293 u294 u295 u296 u297 u298 u299 u300 u301 u302 u303 u304 u305 u306 u307 u308 u309 u310 u311 u312 : Value}
    (HR : Hid (RowAt w co 1 m (by8 bs))) (HM : Hid (m ≤ 9223372036854775807)) (HBS : Hid (∀ k, bs k < 256)) (HX0 : Hid (Ext w wc)) :
    Code.wp Try.prog (dropS 16 (Try.f3.body.getD .skip)) (bodyPost Try.prog Try.f3 fun e w' => e = .returned (.bool true) ∧ Ext w w') ⟨#[.slice co m cc, u1, u2, u3, u4, u5, u6, u7, u8, u9, u10, u11, u12, u13, u14, u15, u16, u17, u18, u19, u20, u21, u22, u23, u24, u25, u26, u27, u28, u29, u30, u31, u32, u33, u34, u35, u36, u37, u38, u39, u40, u41, u42, u43, u44, u45, u46, u47, u48, u49, u50, u51, u52, u53, u54, u55, u56, u57, u58, u59, u60, u61, u62, u63, u64, u65, u66, u67, u68, u69, u70, u71, u72, u73, u74, u75, u76, u77, u78, u79, u80, u81, u82, u83, u84, u85, u86, u87, u88, u89, u90, u91, u92, u93, u94, u95, u96, u97, u98, u99, u100, u101, u102, u103, u104, u105, u106, u107, u108, u109, u110, u111, u112, u113, u114, u115, u116, u117, u118, u119, u120, u121, u122, u123, u124, u125, u126, u127, u128, u129, u130, u131, u132, u133, u134, u135, u136, u137, u138, u139, u140, u141, u142, u143, u144, u145, u146, u147, u148, u149, u150, u151, u152, u153, u154, u155, u156, u157, u158, u159, u160, u161, u162, u163, u164, u165, u166, u167, u168, u169, u170, u171, u172, u173, u174, u175, u176, u177, u178, u179, u180, u181, u182, u183, u184, u185, u186, u187, u188, u189, u190, u191, u192, u193, u194, u195, u196, u197, u198, u199, u200, u201, u202, u203, u204, u205, u206, u207, u208, u209, u210, u211, u212, u213, u214, u215, u216, u217, u218, u219, u220, u221, u222, u223, u224, u225, u226, u227, u228, u229, u230, u231, u232, u233, u234, u235, u236, u237, u238, u239, u240, u241, u242, u243, u244, u245, u246, u247, u248, u249, u250, u251, u252, u253, u254, u255, u256, u257, u258, u259, u260, u261, u262, u263, u264, u265, u266, u267, u268, u269, u270, u271, u272, u273, u274, u275, u276, u277, u278, u279, u280, u281, u282, u283, u284, u285, u286, u287, u288, u289, u290, u291, u292, u293, u294, u295, u296, u297, u298, u299, u300, u301, u302, u303, u304, u305, u306, u307, u308, u309, u310, u311, u312], []⟩ wc := by
  conv => arg 2; whnf
  have HD := Lib.hid (draw_massst (cc := cc) (HR.out.ext HX0.out) HBS.out HM.out)
  go_wp2_with fail
  refine HD.out.mono ?_; rintro e w1 ⟨ao, cap, vs, legs, mass, rfl, hD, h1, h2, hx⟩

  have hlen : (vs.map TmV.t).length = vs.length := by rw [List.length_map]
  have hG := hD.grow
  have hl8 := hD.len
  have hnil := hD.nil

  have HX1 := Lib.hid (HX0.out.trans hx)
  have HMI := Lib.hid (fun x (hx : Ext w1 x) => impl_MassStarters (w := x) (cap := cap) (legs := legs) (mass := mass) (hG.ext hx) (by omega) h1 h2)
  have HMS := Lib.hid (fun x (hx : Ext w1 x) => spec_MassStarters (w := x) (cap := cap) (legs := legs) (mass := mass) (hG.ext hx) (by omega) h1 h2)
  have hsl : ∀ i, i < (msL (vs.map TmV.t) legs mass).length → ∀ x, Ext w1 x → Calls Try.prog 7 #[.slice ao vs.length cap, .int .i64 legs, .int .i64 mass, .int .i64 (nth (msL (vs.map TmV.t) legs mass) i).a, .int .i64 (nth (msL (vs.map TmV.t) legs mass) i).b] x fun e w' => e = .returned (.tuple #[.int .i64 mass, .bool true]) ∧ Ext x w' := fun i hi x hx => by
    have hs := mass_starts hi
    have := impl_StartOf (w := x) (cap := cap) (legs := legs) (mass := mass) (hG.ext hx) (by omega) h1 h2 hs.2.1 hs.2.2
    rw [hs.1, hlen] at this
    exact this
  have HSL := Lib.hid hsl
  have hml := msL_len (vs.map TmV.t) legs mass
  rw [hlen] at HMI HMS
  generalize msL (vs.map TmV.t) legs mass = L at *
  generalize relB (vs.map TmV.t) legs mass = RB at *
  clear hx hD hsl hlen hG hnil h1 h2 HD HX0 HR HM HBS
  go_wp2_with fail
  refine (HMI.out _ (Ext.refl _)).mono ?_; rintro e w2 ⟨bo, bc, rfl, hx2, hF⟩
  have HF2 := Lib.hid hF.row; have HX2 := Lib.hid hx2
  clear hF hx2 HMI
  go_wp2_with fail
  refine (HMS.out _ HX2.out).mono ?_; rintro e w3 ⟨bo', bc', rfl, hx3, hF⟩
  have HF3 := Lib.hid (HF2.out.ext hx3); have HK3 := Lib.hid hF.row; have HX3 := Lib.hid (HX2.out.trans hx3)
  have HVP := Lib.hid (laws_vPairs (ac := bc) (bc := bc') HF3.out HK3.out (by omega))
  clear hF hx3 HMS HX2 HF2
  cases RB
  all_goals
    go_wp2_with fail
    refine HVP.out.mono ?_; rintro e w4 ⟨rfl, hx4⟩
    have HF4 := Lib.hid (HF3.out.ext hx4); have HX4 := Lib.hid (HX3.out.trans hx4)
    clear hx4 HVP HF3 HX3
    go_wp2
    go_loopw [42] (fun i wr => ∃ k : Nat, k ≤ L.length ∧ i = .int .i64 k ∧ Ext w4 wr) (fun i _ => L.length - (intOf i).toNat)
    case atStart => exact ⟨0, Nat.zero_le _, rfl, Ext.refl _⟩
    case round =>
      obtain ⟨k, hk, rfl, hx⟩ := hrel
      by_cases hlt : k < L.length
      · obtain ⟨b, off, rfl, hcell⟩ := HF4.out (by omega)
        have d0 : wr.cell? ⟨b, off + k * 2, none⟩ = some (.int .i64 (nth L k).a) := hx.cells (hcell k hlt 0 (by decide))
        have d1 : wr.cell? ⟨b, off + k * 2 + 1, none⟩ = some (.int .i64 (nth L k).b) := hx.cells (hcell k hlt 1 (by decide))
        have HXR := Lib.hid (HX4.out.trans hx); have HXW := Lib.hid hx
        have HC := Lib.hid (fun x (hx : Ext wr x) => HSL.out k hlt x (HXR.out.trans hx))
        have g0 := Grow.cells d0
        have g1 := Grow.cells d1
        have hk0 : (0 : Int) ≤ (k : Int) := by omega
        have hk1 : (k : Int) < (L.length : Int) := by omega
        generalize nth L k = P at HC g0 g1
        clear hcell d0 d1 hx
        go_wp2
        refine wp_region_ext (by kernel_rfl) (by kernel_rfl) ?_
        repeat (go_big_quiet_step ((go_at_call 7; with_reducible exact Calls.ext_of (HC.out _ (Grow.h _)))))
        refine wpQuiet_nil ?_
        rintro _ ⟨⟨w1, hx1⟩, rfl⟩
        clear g0 g1
        have HXE := Lib.hid (HXW.out.trans hx1)
        clear hx1
        go_wp2
        go_roundw
        case rel => exact ⟨k + 1, by omega, by go_num, HXE.out⟩
        case measure => simp [intOf] <;> omega
      · have hnk : ¬ (k : Int) < (L.length : Int) := by omega
        have HXE := Lib.hid (HX1.out.trans (HX4.out.trans hx))
        clear hx
        go_wp2
        go_ret
        exact ⟨rfl, HXE.out⟩
set_option maxRecDepth 100000 in
set_option maxHeartbeats 8000000 in
theorem part3 {co : Option Addr} {cc m : Nat} {bs : Nat → Nat} {w wc : World} {u1 u2 u3 u4 u5 u6 u7 u8 u9 u10 u11 u12 u13 u14 u15 u16 u17 u18 u19 u20 u21 u22 u23 u24 u25 u26 u27 u28 u29 u30 u31 u32 u33 u34 u35 u36 u37 u38 u39 u40 u41 u42 u43 u44 u45 u46 u47 u48 u49 u50 u51 u52 u53 u54 u55 u56 u57 u58 u59 u60 u61 u62 u63 u64 u65 u66 u67 u68 u69 u70 u71 u72 u73 u74 u75 u76 u77 u78 u79 u80 u81 u82 u83 u84 u85 u86 u87 u88 u89 u90 u91 u92 u93 u94 u95 u96 u97 u98 u99 u100 u101 u102 u103 u104 u105 u106 u107 u108 u109 u110 u111 u112 u113 u114 u115 u116 u117 u118 u119 u120 u121 u122 u123 u124 u125 u126 u127 u128 u129 u130 u131 u132 u133 u134 u135 u136 u137 u138 u139 u140 u141 u142 u143 u144 u145 u146 u147 u148 u149 u150 u151 u152 u153 u154 u155 u156 u157 u158 u159 u160 u161 u162 u163 u164 u165 u166 u167 u168 u169 u170 u171 u172 u173 u174 u175 u176 u177 u178 u179 u180 u181 u182 u183 u184 u185 u186 u187 u188 u189 u190 u191 u192 u193 u194 u195 u196 u197 u198 u199 u200 u201 u202 u203 u204 u205 u206 u207 u208 u209 u210 u211 u212 u213 u214 u215 u216 u217 u218 u219 u220 u221 u222 u223 u224 u225 u226 u227 u228 u229 u230 u231 u232 u233 u234 u235 u236 u237 u238 u239 u240 u241 u242 u243 u244 u245 u246 u247 u248 u249 u250 u251 u252 u253 u254 u255 u256 u257 u258 u259 u260 u261 u262 u263 u264 u265 u266 u267 u268 u269 u270 u271 u272 u273 u274 u275 u276 u277 u278 u279 u280 u281 u282 u283 u284 u285 u286 u287 u288 u289 u290 u291 u292 u293 u294 u295 u296 u297 u298 u299 u300 u301 u302 u303 u304 u305 u306 u307 u308 u309 u310 u311 u312 : Value}
    (HR : Hid (RowAt w co 1 m (by8 bs))) (HM : Hid (m ≤ 9223372036854775807)) (HBS : Hid (∀ k, bs k < 256)) (HX0 : Hid (Ext w wc)) :
    Code.wp Try.prog (dropS 13 (Try.f3.body.getD .skip)) (bodyPost Try.prog Try.f3 fun e w' => e = .returned (.bool true) ∧ Ext w w') ⟨#[.slice co m cc, u1, u2, u3, u4, u5, u6, u7, u8, u9, u10, u11, u12, u13, u14, u15, u16, u17, u18, u19, u20, u21, u22, u23, u24, u25, u26, u27, u28, u29, u30, u31, u32, u33, u34, u35, u36, u37, u38, u39, u40, u41, u42, u43, u44, u45, u46, u47, u48, u49, u50, u51, u52, u53, u54, u55, u56, u57, u58, u59, u60, u61, u62, u63, u64, u65, u66, u67, u68, u69, u70, u71, u72, u73, u74, u75, u76, u77, u78, u79, u80, u81, u82, u83, u84, u85, u86, u87, u88, u89, u90, u91, u92, u93, u94, u95, u96, u97, u98, u99, u100, u101, u102, u103, u104, u105, u106, u107, u108, u109, u110, u111, u112, u113, u114, u115, u116, u117, u118, u119, u120, u121, u122, u123, u124, u125, u126, u127, u128, u129, u130, u131, u132, u133, u134, u135, u136, u137, u138, u139, u140, u141, u142, u143, u144, u145, u146, u147, u148, u149, u150, u151, u152, u153, u154, u155, u156, u157, u158, u159, u160, u161, u162, u163, u164, u165, u166, u167, u168, u169, u170, u171, u172, u173, u174, u175, u176, u177, u178, u179, u180, u181, u182, u183, u184, u185, u186, u187, u188, u189, u190, u191, u192, u193, u194, u195, u196, u197, u198, u199, u200, u201, u202, u203, u204, u205, u206, u207, u208, u209, u210, u211, u212, u213, u214, u215, u216, u217, u218, u219, u220, u221, u222, u223, u224, u225, u226, u227, u228, u229, u230, u231, u232, u233, u234, u235, u236, u237, u238, u239, u240, u241, u242, u243, u244, u245, u246, u247, u248, u249, u250, u251, u252, u253, u254, u255, u256, u257, u258, u259, u260, u261, u262, u263, u264, u265, u266, u267, u268, u269, u270, u271, u272, u273, u274, u275, u276, u277, u278, u279, u280, u281, u282, u283, u284, u285, u286, u287, u288, u289, u290, u291, u292, u293, u294, u295, u296, u297, u298, u299, u300, u301, u302, u303, u304, u305, u306, u307, u308, u309, u310, u311, u312], []⟩ wc := by
  conv => arg 2; whnf
  have HD := Lib.hid (draw_teamtime (cc := cc) (HR.out.ext HX0.out) HBS.out HM.out)
  go_wp2_with fail
  refine HD.out.mono ?_; rintro e w1 ⟨ao, cap, vs, legs, number, rfl, hD, h1, h2, hx⟩

  have hlen : (vs.map TmV.t).length = vs.length := by rw [List.length_map]
  have hG := hD.grow
  have hl8 := hD.len
  have hnil := hD.nil

  have HX1 := Lib.hid (HX0.out.trans hx)
  have HMI := Lib.hid (fun x (hx : Ext w1 x) => impl_TeamTime (w := x) (cap := cap) (legs := legs) (number := number) (hG.ext hx) (by omega) h1 h2)
  have HMS := Lib.hid (fun x (hx : Ext w1 x) => spec_TeamTime (w := x) (cap := cap) (legs := legs) (number := number) (hG.ext hx) (by omega) h1 h2)
  rw [hlen] at HMI HMS
  have hfm : ∃ (t : Int) (b : Bool), gTime (vs.map TmV.t) legs number = .tuple #[.int .i64 t, .bool b] := by unfold gTime; split <;> exact ⟨_, _, rfl⟩
  obtain ⟨t, b, e2⟩ := hfm
  rw [e2] at HMI HMS
  clear hx hD hlen hG hnil h1 h2 HD HX0 e2
  go_wp2_with fail
  refine (HMI.out _ (Ext.refl _)).mono ?_; rintro e w2 ⟨rfl, hx2⟩
  have HX2 := Lib.hid hx2
  clear hx2 HMI
  go_wp2_with fail
  refine (HMS.out _ HX2.out).mono ?_; rintro e w3 ⟨rfl, hx3⟩
  have HX3 := Lib.hid (HX1.out.trans (HX2.out.trans hx3))
  clear hx3 HMS HX2 HX1
  go_upto_if 253 with fail
  go_cut [] (fun wc => Ext w wc)
  case first =>
    cases b
    all_goals
      go_wp2_with fail
      go_meet
      exact HX3.out
  case rest =>
    have HXC := Lib.hid hcut
    clear hcut HX3
    rename_i hK
    exact hK _ _ (part4 HR HM HBS HXC)
set_option maxRecDepth 100000 in
set_option maxHeartbeats 8000000 in
theorem part2 {co : Option Addr} {cc m : Nat} {bs : Nat → Nat} {w wc : World} {u1 u2 u3 u4 u5 u6 u7 u8 u9 u10 u11 u12 u13 u14 u15 u16 u17 u18 u19 u20 u21 u22 u23 u24 u25 u26 u27 u28 u29 u30 u31 u32 u33 u34 u35 u36 u37 u38 u39 u40 u41 u42 u43 u44 u45 u46 u47 u48 u49 u50 u51 u52 u53 u54 u55 u56 u57 u58 u59 u60 u61 u62 u63 u64 u65 u66 u67 u68 u69 u70 u71 u72 u73 u74 u75 u76 u77 u78 u79 u80 u81 u82 u83 u84 u85 u86 u87 u88 u89 u90 u91 u92 u93 u94 u95 u96 u97 u98 u99 u100 u101 u102 u103 u104 u105 u106 u107 u108 u109 u110 u111 u112 u113 u114 u115 u116 u117 u118 u119 u120 u121 u122 u123 u124 u125 u126 u127 u128 u129 u130 u131 u132 u133 u134 u135 u136 u137 u138 u139 u140 u141 u142 u143 u144 u145 u146 u147 u148 u149 u150 u151 u152 u153 u154 u155 u156 u157 u158 u159 u160 u161 u162 u163 u164 u165 u166 u167 u168 u169 u170 u171 u172 u173 u174 u175 u176 u177 u178 u179 u180 u181 u182 u183 u184 u185 u186 u187 u188 u189 u190 u191 u192 u193 u194 u195 u196 u197 u198 u199 u200 u201 u202 u203 u204 u205 u206 u207 u208 u209 u210 u211 u212 u213 u214 u215 u216 u217 u218 u219 u220 u221 u222 u223 u224 u225 u226 u227 u228 u229 u230 u231 u232 u233 u234 u235 u236 u237 u238 u239 u240 u241 u242 u243 u244 u245 u246 u247 u248 u249 u250 u251 u252 u253 u254 u255 u256 u257 u258 u259 u260 u261 u262 u263 u264 u265 u266 u267 u268 u269 u270 u271 u272 u273 u274 u275 u276 u277 u278 u279 u280 u281 u282 u283 u284 u285 u286 u287 u288 u289 u290 u291 u292 u293 u294 u295 u296 u297 u298 u299 u300 u301 u302 u303 u304 u305 u306 u307 u308 u309 u310 u311 u312 : Value}
    (HR : Hid (RowAt w co 1 m (by8 bs))) (HM : Hid (m ≤ 9223372036854775807)) (HBS : Hid (∀ k, bs k < 256)) (HX0 : Hid (Ext w wc)) :
    Code.wp Try.prog (dropS 8 (Try.f3.body.getD .skip)) (bodyPost Try.prog Try.f3 fun e w' => e = .returned (.bool true) ∧ Ext w w') ⟨#[.slice co m cc, u1, u2, u3, u4, u5, u6, u7, u8, u9, u10, u11, u12, u13, u14, u15, u16, u17, u18, u19, u20, u21, u22, u23, u24, u25, u26, u27, u28, u29, u30, u31, u32, u33, u34, u35, u36, u37, u38, u39, u40, u41, u42, u43, u44, u45, u46, u47, u48, u49, u50, u51, u52, u53, u54, u55, u56, u57, u58, u59, u60, u61, u62, u63, u64, u65, u66, u67, u68, u69, u70, u71, u72, u73, u74, u75, u76, u77, u78, u79, u80, u81, u82, u83, u84, u85, u86, u87, u88, u89, u90, u91, u92, u93, u94, u95, u96, u97, u98, u99, u100, u101, u102, u103, u104, u105, u106, u107, u108, u109, u110, u111, u112, u113, u114, u115, u116, u117, u118, u119, u120, u121, u122, u123, u124, u125, u126, u127, u128, u129, u130, u131, u132, u133, u134, u135, u136, u137, u138, u139, u140, u141, u142, u143, u144, u145, u146, u147, u148, u149, u150, u151, u152, u153, u154, u155, u156, u157, u158, u159, u160, u161, u162, u163, u164, u165, u166, u167, u168, u169, u170, u171, u172, u173, u174, u175, u176, u177, u178, u179, u180, u181, u182, u183, u184, u185, u186, u187, u188, u189, u190, u191, u192, u193, u194, u195, u196, u197, u198, u199, u200, u201, u202, u203, u204, u205, u206, u207, u208, u209, u210, u211, u212, u213, u214, u215, u216, u217, u218, u219, u220, u221, u222, u223, u224, u225, u226, u227, u228, u229, u230, u231, u232, u233, u234, u235, u236, u237, u238, u239, u240, u241, u242, u243, u244, u245, u246, u247, u248, u249, u250, u251, u252, u253, u254, u255, u256, u257, u258, u259, u260, u261, u262, u263, u264, u265, u266, u267, u268, u269, u270, u271, u272, u273, u274, u275, u276, u277, u278, u279, u280, u281, u282, u283, u284, u285, u286, u287, u288, u289, u290, u291, u292, u293, u294, u295, u296, u297, u298, u299, u300, u301, u302, u303, u304, u305, u306, u307, u308, u309, u310, u311, u312], []⟩ wc := by
  conv => arg 2; whnf
  have HD := Lib.hid (draw_rorder (cc := cc) (HR.out.ext HX0.out) HBS.out HM.out)
  go_wp2_with fail
  refine HD.out.mono ?_; rintro e w1 ⟨ao, cap, vs, legs, rfl, hD, h1, hx⟩

  have hlen : (vs.map TmV.t).length = vs.length := by rw [List.length_map]
  have hG := hD.grow
  have hl8 := hD.len
  have hnil := hD.nil

  have HX1 := Lib.hid (HX0.out.trans hx)
  have HMI := Lib.hid (fun x (hx : Ext w1 x) => impl_RelayOrder (w := x) (cap := cap) (legs := legs) (hG.ext hx) (by omega) h1 hnil)
  have HMS := Lib.hid (fun x (hx : Ext w1 x) => spec_RelayOrder (w := x) (capt := cap) (legs := legs) (hG.ext hx) (by omega) h1 hnil)
  have HMA := Lib.hid (fun x (hx : Ext w1 x) => impl_AreTeams (w := x) (cap := cap) (legs := legs) (hG.ext hx) (by omega))
  have hsl : ∀ i, i < (relL (vs.map TmV.t) legs).length → lastK (vs.map TmV.t) legs i ≤ tmK (vs.map TmV.t) legs i ∧ ∀ x, Ext w1 x → Calls Try.prog 16 #[.slice ao vs.length cap, .int .i64 legs, .int .i64 (nth (relL (vs.map TmV.t) legs) i)] x fun e w' => e = .returned (.tuple #[.int .i64 (tmK (vs.map TmV.t) legs i), .bool true]) ∧ Ext x w' := fun i hi => by
    have hs := order_times hi
    refine ⟨hs.2.1, fun x hx => ?_⟩
    have := impl_TeamTime (w := x) (cap := cap) (legs := legs) (hG.ext hx) (by omega) h1 hs.2.2
    rw [hs.1, hlen] at this
    exact this
  have HSL := Lib.hid hsl
  have hml := relL_len (vs.map TmV.t) legs
  have HLS := Lib.hid (show ∀ i, lastK (vs.map TmV.t) legs (i + 1) = tmK (vs.map TmV.t) legs i from fun i => rfl)
  have HL0 := Lib.hid (show lastK (vs.map TmV.t) legs 0 = 0 from rfl)
  rw [hlen] at HMI HMS HMA
  generalize relL (vs.map TmV.t) legs = L at *
  generalize teamsB (vs.map TmV.t) legs = RB at *
  generalize lastK (vs.map TmV.t) legs = LK at *
  generalize tmK (vs.map TmV.t) legs = TK at *
  clear hx hD hsl hlen hG hnil h1 HD HX0
  go_wp2_with fail
  refine (HMI.out _ (Ext.refl _)).mono ?_; rintro e w2 ⟨bo, bc, rfl, hx2, hF⟩
  have HF2 := Lib.hid hF.row; have HX2 := Lib.hid hx2
  clear hF hx2 HMI
  go_wp2_with fail
  refine (HMS.out _ HX2.out).mono ?_; rintro e w3 ⟨bo', bc', rfl, hx3, hF⟩
  have HF3 := Lib.hid (HF2.out.ext hx3); have HK3 := Lib.hid hF.row; have HX3 := Lib.hid (HX2.out.trans hx3)
  have HVP := Lib.hid (laws_vInts (ac := bc) (bc := bc') HF3.out HK3.out (by omega))
  clear hF hx3 HMS HX2 HF2
  go_upto_region 19 with fail
  go_cut [201] (fun b wc => b = .bool false ∧ Ext w1 wc ∧ RowAt wc bo 1 L.length (ic L))
  case first =>
    cases RB
    all_goals
      go_wp2_with fail
      refine HVP.out.mono ?_; rintro e w4 ⟨rfl, hx4⟩
      have HF4 := Lib.hid (HF3.out.ext hx4); have HX4 := Lib.hid (HX3.out.trans hx4)
      clear hx4 HVP HF3 HX3
      go_wp2_with fail
      refine (HMA.out _ HX4.out).mono ?_; rintro e w5 ⟨rfl, hx5⟩
      have HF5 := Lib.hid (HF4.out.ext hx5); have HX5 := Lib.hid (HX4.out.trans hx5)
      clear hx5 HF4 HX4
      go_wp2_with fail
      go_meet
      exact ⟨rfl, HX5.out, HF5.out⟩
  case rest =>
  obtain ⟨rfl, hcut⟩ := hcut
  generalize wc = w4 at hcut ⊢
  have HX4 := Lib.hid hcut.1; have HF4 := Lib.hid hcut.2
  clear hcut HVP HF3 HX3 HK3 HMA
  go_upto_block 0 with fail
  go_cut [] (fun wc => Ext w4 wc)
  case first =>
    go_wp2
    go_loopw [24, 25] (fun l i wr => ∃ k : Nat, k ≤ L.length ∧ i = .int .i64 k ∧ l = .int .i64 (LK k) ∧ Ext w4 wr) (fun _ i _ => L.length - (intOf i).toNat)
    case atStart => exact ⟨0, Nat.zero_le _, rfl, by rw [HL0.out], Ext.refl _⟩
    case round =>
      obtain ⟨k, hk, rfl, rfl, hx⟩ := hrel
      by_cases hlt : k < L.length
      · obtain ⟨b, off, rfl, hcell⟩ := ints_at' HF4.out (by omega)
        have d0 := hx.cells (hcell k hlt)
        have HXW := Lib.hid hx
        have hle := (HSL.out k hlt).1
        have HC := Lib.hid ((HSL.out k hlt).2 wr (HX4.out.trans hx))
        have HLT := Lib.hid (HLS.out k)
        have hk0 : (0 : Int) ≤ (k : Int) := by omega
        have hk1 : (k : Int) < (L.length : Int) := by omega
        generalize LK k = lk at hle
        generalize TK k = tk at hle HC HLT
        clear hcell hx
        go_wp2_with fail
        refine HC.out.mono ?_; rintro e w5 ⟨rfl, hx5⟩
        have HX5 := Lib.hid (HXW.out.trans hx5)
        clear hx5 d0
        go_wp2
        go_roundw
        case rel => exact ⟨k + 1, by omega, by go_num, by rw [HLT.out], HX5.out⟩
        case measure => simp [intOf] <;> omega
      · have hnk : ¬ (k : Int) < (L.length : Int) := by omega
        have HXE := Lib.hid hx
        clear hx
        go_wp2_with fail
        go_meet
        exact HXE.out
  case rest =>
    have HXC := Lib.hid (HX1.out.trans (HX4.out.trans hcut))
    clear hcut
    rename_i hK
    exact hK _ _ (part3 HR HM HBS HXC)
end Go.Proofs.Ytlpogglcbphilaa.FnRelays
