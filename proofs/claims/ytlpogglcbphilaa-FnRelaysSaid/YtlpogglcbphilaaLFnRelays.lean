/-
  Proved here: the law FnRelays answers true for every input and leaves its arguments as they were.
  Conditions: none.
-/
import Derived.Test.YtlpogglcbphilaaFnRelA
import Derived.IntWalk
import Derived.Deep.DrawnRows
import Derived.Deep.DeepCutAuto
import Derived.Deep.CutBlock
namespace Go.Proofs.Ytlpogglcbphilaa.FnRelays
open Go.ChangeShapes Go.WideShapes Go.ChangeAt Go.RowKit

set_option maxRecDepth 100000 in
set_option maxHeartbeats 8000000 in
theorem partTa {co : Option Addr} {cc m : Nat} {bs : Nat → Nat} {w wc : World} {u1 u2 u10 u11 u12 u13 u14 u15 u16 u17 u18 u19 u20 u21 u22 u23 u24 u25 u26 u27 u28 u29 u30 u31 u32 u33 u34 u35 u36 u37 u38 u39 u40 u41 u42 u43 u44 u45 u46 u47 u48 u49 u50 u51 u52 u53 u54 u55 u56 u57 u58 u59 u60 u61 u62 u63 u64 u65 u66 u67 u68 u69 u70 u71 u72 u73 u74 u75 u76 u77 u78 u79 u80 u81 u82 u83 u84 u85 u86 u87 u88 u89 u90 u91 u92 u93 u94 u95 u96 u97 u98 u99 u100 u101 u102 u103 u104 u105 u106 u107 u108 u109 u110 u111 u112 u113 u114 u115 u116 u117 u118 u119 u120 u121 u122 u123 u124 u125 u126 u127 u128 u129 u130 u131 u132 u133 u134 u135 u136 u137 u138 u139 u140 u141 u142 u143 u144 u145 u146 u147 u148 u149 u150 u151 u152 u153 u154 u155 u156 u157 u158 u159 u160 u161 u162 u163 u164 u165 u166 u167 u168 u169 u170 u171 u172 u173 u174 u175 u176 u177 u178 u179 u180 u181 u182 u183 u184 u185 u186 u187 u188 u189 u190 u191 u192 u193 u194 u195 u196 u197 u198 u199 u200 u201 u202 u203 u204 u205 u206 u207 u208 u209 u210 u211 u212 u213 u214 u215 u216 u217 u218 u219 u220 u221 u222 u223 u224 u225 u226 u227 u228 u229 u230 u231 u232 u233 u234 u235 u236 u237 u238 u239 u240 u241 u242 u243 u244 u245 u246 u247 u248 u249 u250 u251 u252 u253 u254 u255 u256 u257 u258 u259 u260 u261 u262 u263 u264 u265 u266 u267 u268 u269 u270 u271 u272 u273 u274 u275 u276 u277 u278 u279 u280 u281 u282 u283 u284 u285 u286 u287 u288 u289 u290 u291 u292 u293 u294 u295 u296 u297 u298 u299 u300 u301 u302 u303 u304 u305 u306 u307 u308 u309 u310 u311 u312 : Value} {ao : Option Addr} {cap : Nat} {vs : List TmV} {legs mass number leg : Int} {st : Int} {ok : Bool}
    (HR : Hid (RowAt w co 1 m (by8 bs))) (HM : Hid (m ≤ 9223372036854775807)) (HBS : Hid (∀ k, bs k < 256)) (HX0 : Hid (Ext w wc))
    (hD : DrawnT w.heap.size wc vs ao cap) (h1 : I64 legs) (h2 : I64 mass) (h3 : I64 number) (h4 : I64 leg)
    (e2 : gBack (vs.map TmV.t) legs mass number leg = stV none) :
    Code.wp Try.prog (dropS 5 (Try.f3.body.getD .skip)) (bodyPost Try.prog Try.f3 fun e w' => e = .returned (.bool true) ∧ Ext w w') ⟨#[.slice co m cc, u1, u2, .slice ao vs.length cap, .int .i64 legs, .int .i64 mass, .int .i64 number, .int .i64 leg, .int .i64 st, .bool ok, u10, u11, u12, u13, u14, u15, u16, u17, u18, u19, u20, u21, u22, u23, u24, u25, u26, u27, u28, u29, u30, u31, u32, u33, u34, u35, u36, u37, u38, u39, u40, u41, u42, u43, u44, u45, u46, u47, u48, u49, u50, u51, u52, u53, u54, u55, u56, u57, u58, u59, u60, u61, u62, u63, u64, u65, u66, u67, u68, u69, u70, u71, u72, u73, u74, u75, u76, u77, u78, u79, u80, u81, u82, u83, u84, u85, u86, u87, u88, u89, u90, u91, u92, u93, u94, u95, u96, u97, u98, u99, u100, u101, u102, u103, u104, u105, u106, u107, u108, u109, u110, u111, u112, u113, u114, u115, u116, u117, u118, u119, u120, u121, u122, u123, u124, u125, u126, u127, u128, u129, u130, u131, u132, u133, u134, u135, u136, u137, u138, u139, u140, u141, u142, u143, u144, u145, u146, u147, u148, u149, u150, u151, u152, u153, u154, u155, u156, u157, u158, u159, u160, u161, u162, u163, u164, u165, u166, u167, u168, u169, u170, u171, u172, u173, u174, u175, u176, u177, u178, u179, u180, u181, u182, u183, u184, u185, u186, u187, u188, u189, u190, u191, u192, u193, u194, u195, u196, u197, u198, u199, u200, u201, u202, u203, u204, u205, u206, u207, u208, u209, u210, u211, u212, u213, u214, u215, u216, u217, u218, u219, u220, u221, u222, u223, u224, u225, u226, u227, u228, u229, u230, u231, u232, u233, u234, u235, u236, u237, u238, u239, u240, u241, u242, u243, u244, u245, u246, u247, u248, u249, u250, u251, u252, u253, u254, u255, u256, u257, u258, u259, u260, u261, u262, u263, u264, u265, u266, u267, u268, u269, u270, u271, u272, u273, u274, u275, u276, u277, u278, u279, u280, u281, u282, u283, u284, u285, u286, u287, u288, u289, u290, u291, u292, u293, u294, u295, u296, u297, u298, u299, u300, u301, u302, u303, u304, u305, u306, u307, u308, u309, u310, u311, u312], []⟩ wc := by
  conv => arg 2; whnf
  generalize hwc : wc = w1 at hD HX0 ⊢
  clear hwc wc
  have HX1 := HX0
  clear HX0

  have hlen : (vs.map TmV.t).length = vs.length := by rw [List.length_map]
  have hG := hD.grow
  have hl8 := hD.len
  have hnil := hD.nil
  have HCI := Lib.hid (fun x (hx : Ext w1 x) => impl_ComesBack (w := x) (cap := cap) (hG.ext hx) (by omega) h1 h2 h3 h4)
  have HCS := Lib.hid (fun x (hx : Ext w1 x) => spec_ComesBack (w := x) (cap := cap) (hG.ext hx) (by omega) h1 h2 h3 h4)
  rw [hlen] at HCI HCS
  rw [e2] at HCI HCS; simp only [stV] at HCI HCS
  clear hD hlen hG hnil h1 h2 h3 h4 e2
  cases ok
  all_goals
    go_wp2_with fail
    refine (HCI.out _ (Ext.refl _)).mono ?_; rintro e w2 ⟨rfl, hx⟩
    have HX2 := Lib.hid hx
    clear hx HCI
    go_wp2_with fail
    refine (HCS.out _ HX2.out).mono ?_; rintro e w3 ⟨rfl, hx⟩
    have HX3 := Lib.hid (HX2.out.trans hx)
    clear hx HCS HX2

    go_upto_if 141 with fail
    go_cut [] (fun wc => Ext w1 wc)
    case rest =>
      have HXC := Lib.hid (HX1.out.trans hcut)
      clear hcut
      rename_i hK
      exact hK _ _ (part2 HR HM HBS HXC)
    case first =>
      go_wp2_with fail
      go_meet
      exact HX3.out
set_option maxRecDepth 100000 in
set_option maxHeartbeats 8000000 in
theorem partTb {co : Option Addr} {cc m : Nat} {bs : Nat → Nat} {w wc : World} {u1 u2 u10 u11 u12 u13 u14 u15 u16 u17 u18 u19 u20 u21 u22 u23 u24 u25 u26 u27 u28 u29 u30 u31 u32 u33 u34 u35 u36 u37 u38 u39 u40 u41 u42 u43 u44 u45 u46 u47 u48 u49 u50 u51 u52 u53 u54 u55 u56 u57 u58 u59 u60 u61 u62 u63 u64 u65 u66 u67 u68 u69 u70 u71 u72 u73 u74 u75 u76 u77 u78 u79 u80 u81 u82 u83 u84 u85 u86 u87 u88 u89 u90 u91 u92 u93 u94 u95 u96 u97 u98 u99 u100 u101 u102 u103 u104 u105 u106 u107 u108 u109 u110 u111 u112 u113 u114 u115 u116 u117 u118 u119 u120 u121 u122 u123 u124 u125 u126 u127 u128 u129 u130 u131 u132 u133 u134 u135 u136 u137 u138 u139 u140 u141 u142 u143 u144 u145 u146 u147 u148 u149 u150 u151 u152 u153 u154 u155 u156 u157 u158 u159 u160 u161 u162 u163 u164 u165 u166 u167 u168 u169 u170 u171 u172 u173 u174 u175 u176 u177 u178 u179 u180 u181 u182 u183 u184 u185 u186 u187 u188 u189 u190 u191 u192 u193 u194 u195 u196 u197 u198 u199 u200 u201 u202 u203 u204 u205 u206 u207 u208 u209 u210 u211 u212 u213 u214 u215 u216 u217 u218 u219 u220 u221 u222 u223 u224 u225 u226 u227 u228 u229 u230 u231 u232 u233 u234 u235 u236 u237 u238 u239 u240 u241 u242 u243 u244 u245 u246 u247 u248 u249 u250 u251 u252 u253 u254 u255 u256 u257 u258 u259 u260 u261 u262 u263 u264 u265 u266 u267 u268 u269 u270 u271 u272 u273 u274 u275 u276 u277 u278 u279 u280 u281 u282 u283 u284 u285 u286 u287 u288 u289 u290 u291 u292 u293 u294 u295 u296 u297 u298 u299 u300 u301 u302 u303 u304 u305 u306 u307 u308 u309 u310 u311 u312 : Value} {ao : Option Addr} {cap : Nat} {vs : List TmV} {legs mass number leg : Int} {st back : Int}
    (HR : Hid (RowAt w co 1 m (by8 bs))) (HM : Hid (m ≤ 9223372036854775807)) (HBS : Hid (∀ k, bs k < 256)) (HX0 : Hid (Ext w wc))
    (hD : DrawnT w.heap.size wc vs ao cap) (h1 : I64 legs) (h2 : I64 mass) (h3 : I64 number) (h4 : I64 leg)
    (e2 : gBack (vs.map TmV.t) legs mass number leg = stV (some back)) (hlt : st < back) (hlr : 0 ≤ leg ∧ leg ≤ 3)
    (hnx : leg + 1 < legs → ∃ next : Int, gStart (vs.map TmV.t) legs mass number (leg + 1) = stV (some next) ∧ next ≤ back ∧ (next < back → next = mass)) :
    Code.wp Try.prog (dropS 5 (Try.f3.body.getD .skip)) (bodyPost Try.prog Try.f3 fun e w' => e = .returned (.bool true) ∧ Ext w w') ⟨#[.slice co m cc, u1, u2, .slice ao vs.length cap, .int .i64 legs, .int .i64 mass, .int .i64 number, .int .i64 leg, .int .i64 st, .bool true, u10, u11, u12, u13, u14, u15, u16, u17, u18, u19, u20, u21, u22, u23, u24, u25, u26, u27, u28, u29, u30, u31, u32, u33, u34, u35, u36, u37, u38, u39, u40, u41, u42, u43, u44, u45, u46, u47, u48, u49, u50, u51, u52, u53, u54, u55, u56, u57, u58, u59, u60, u61, u62, u63, u64, u65, u66, u67, u68, u69, u70, u71, u72, u73, u74, u75, u76, u77, u78, u79, u80, u81, u82, u83, u84, u85, u86, u87, u88, u89, u90, u91, u92, u93, u94, u95, u96, u97, u98, u99, u100, u101, u102, u103, u104, u105, u106, u107, u108, u109, u110, u111, u112, u113, u114, u115, u116, u117, u118, u119, u120, u121, u122, u123, u124, u125, u126, u127, u128, u129, u130, u131, u132, u133, u134, u135, u136, u137, u138, u139, u140, u141, u142, u143, u144, u145, u146, u147, u148, u149, u150, u151, u152, u153, u154, u155, u156, u157, u158, u159, u160, u161, u162, u163, u164, u165, u166, u167, u168, u169, u170, u171, u172, u173, u174, u175, u176, u177, u178, u179, u180, u181, u182, u183, u184, u185, u186, u187, u188, u189, u190, u191, u192, u193, u194, u195, u196, u197, u198, u199, u200, u201, u202, u203, u204, u205, u206, u207, u208, u209, u210, u211, u212, u213, u214, u215, u216, u217, u218, u219, u220, u221, u222, u223, u224, u225, u226, u227, u228, u229, u230, u231, u232, u233, u234, u235, u236, u237, u238, u239, u240, u241, u242, u243, u244, u245, u246, u247, u248, u249, u250, u251, u252, u253, u254, u255, u256, u257, u258, u259, u260, u261, u262, u263, u264, u265, u266, u267, u268, u269, u270, u271, u272, u273, u274, u275, u276, u277, u278, u279, u280, u281, u282, u283, u284, u285, u286, u287, u288, u289, u290, u291, u292, u293, u294, u295, u296, u297, u298, u299, u300, u301, u302, u303, u304, u305, u306, u307, u308, u309, u310, u311, u312], []⟩ wc := by
  conv => arg 2; whnf
  generalize hwc : wc = w1 at hD HX0 ⊢
  clear hwc wc
  have HX1 := HX0
  clear HX0

  have hlen : (vs.map TmV.t).length = vs.length := by rw [List.length_map]
  have hG := hD.grow
  have hl8 := hD.len
  have hnil := hD.nil
  have hr0 := hlr.1; have hr1 := hlr.2; have hl1 := h1.1; have hl2 := h1.2
  have HSM := Lib.hid (fun x (hx : Ext w1 x) => impl_StartOf (w := x) (cap := cap) (leg := leg + 1) (hG.ext hx) (by omega) h1 h2 h3 ⟨by omega, by omega⟩)
  rw [hlen] at HSM
  have HCI := Lib.hid (fun x (hx : Ext w1 x) => impl_ComesBack (w := x) (cap := cap) (hG.ext hx) (by omega) h1 h2 h3 h4)
  have HCS := Lib.hid (fun x (hx : Ext w1 x) => spec_ComesBack (w := x) (cap := cap) (hG.ext hx) (by omega) h1 h2 h3 h4)
  rw [hlen] at HCI HCS
  rw [e2] at HCI HCS; simp only [stV] at HCI HCS
  clear hD hlen hG hnil h1 h2 h3 h4 e2 hlr

  go_wp2_with fail
  refine (HCI.out _ (Ext.refl _)).mono ?_; rintro e w2 ⟨rfl, hx⟩
  have HX2 := Lib.hid hx
  clear hx HCI
  go_wp2_with fail
  refine (HCS.out _ HX2.out).mono ?_; rintro e w3 ⟨rfl, hx⟩
  have HX3 := Lib.hid (HX2.out.trans hx)
  clear hx HCS HX2

  go_upto_if 141 with fail
  go_cut [] (fun wc => Ext w1 wc)
  case rest =>
    have HXC := Lib.hid (HX1.out.trans hcut)
    clear hcut
    rename_i hK
    exact hK _ _ (part2 HR HM HBS HXC)
  case first =>
    by_cases hc : leg + 1 < legs
    · obtain ⟨next, e3, hn1, hn2⟩ := hnx hc
      rw [e3] at HSM; simp only [stV] at HSM
      clear e3 hnx
      by_cases hnb : next < back
      · obtain rfl := hn2 hnb
        clear hn2
        go_wp2_with fail
        refine (HSM.out _ HX3.out).mono ?_; rintro e w6 ⟨rfl, hx⟩
        have HX6 := Lib.hid (HX3.out.trans hx)
        clear hx
        go_wp2_with fail
        go_meet
        exact HX6.out
      · clear hn2
        go_wp2_with fail
        refine (HSM.out _ HX3.out).mono ?_; rintro e w6 ⟨rfl, hx⟩
        have HX6 := Lib.hid (HX3.out.trans hx)
        clear hx
        go_wp2_with fail
        go_meet
        exact HX6.out
    · clear hnx
      go_wp2_with fail
      go_meet
      exact HX3.out
set_option maxRecDepth 100000 in
set_option maxHeartbeats 8000000 in
theorem partSa {co : Option Addr} {cc m : Nat} {bs : Nat → Nat} {w wc : World} {u1 u2 u8 u9 u10 u11 u12 u13 u14 u15 u16 u17 u18 u19 u20 u21 u22 u23 u24 u25 u26 u27 u28 u29 u30 u31 u32 u33 u34 u35 u36 u37 u38 u39 u40 u41 u42 u43 u44 u45 u46 u47 u48 u49 u50 u51 u52 u53 u54 u55 u56 u57 u58 u59 u60 u61 u62 u63 u64 u65 u66 u67 u68 u69 u70 u71 u72 u73 u74 u75 u76 u77 u78 u79 u80 u81 u82 u83 u84 u85 u86 u87 u88 u89 u90 u91 u92 u93 u94 u95 u96 u97 u98 u99 u100 u101 u102 u103 u104 u105 u106 u107 u108 u109 u110 u111 u112 u113 u114 u115 u116 u117 u118 u119 u120 u121 u122 u123 u124 u125 u126 u127 u128 u129 u130 u131 u132 u133 u134 u135 u136 u137 u138 u139 u140 u141 u142 u143 u144 u145 u146 u147 u148 u149 u150 u151 u152 u153 u154 u155 u156 u157 u158 u159 u160 u161 u162 u163 u164 u165 u166 u167 u168 u169 u170 u171 u172 u173 u174 u175 u176 u177 u178 u179 u180 u181 u182 u183 u184 u185 u186 u187 u188 u189 u190 u191 u192 u193 u194 u195 u196 u197 u198 u199 u200 u201 u202 u203 u204 u205 u206 u207 u208 u209 u210 u211 u212 u213 u214 u215 u216 u217 u218 u219 u220 u221 u222 u223 u224 u225 u226 u227 u228 u229 u230 u231 u232 u233 u234 u235 u236 u237 u238 u239 u240 u241 u242 u243 u244 u245 u246 u247 u248 u249 u250 u251 u252 u253 u254 u255 u256 u257 u258 u259 u260 u261 u262 u263 u264 u265 u266 u267 u268 u269 u270 u271 u272 u273 u274 u275 u276 u277 u278 u279 u280 u281 u282 u283 u284 u285 u286 u287 u288 u289 u290 u291 u292 u293 u294 u295 u296 u297 u298 u299 u300 u301 u302 u303 u304 u305 u306 u307 u308 u309 u310 u311 u312 : Value} {ao : Option Addr} {cap : Nat} {vs : List TmV} {legs mass number leg : Int}
    (HR : Hid (RowAt w co 1 m (by8 bs))) (HM : Hid (m ≤ 9223372036854775807)) (HBS : Hid (∀ k, bs k < 256)) (HX0 : Hid (Ext w wc))
    (hD : DrawnT w.heap.size wc vs ao cap) (h1 : I64 legs) (h2 : I64 mass) (h3 : I64 number) (h4 : I64 leg) (e1 : gStart (vs.map TmV.t) legs mass number leg = stV none) (e2 : gBack (vs.map TmV.t) legs mass number leg = stV none) :
    Code.wp Try.prog (dropS 3 (Try.f3.body.getD .skip)) (bodyPost Try.prog Try.f3 fun e w' => e = .returned (.bool true) ∧ Ext w w') ⟨#[.slice co m cc, u1, u2, .slice ao vs.length cap, .int .i64 legs, .int .i64 mass, .int .i64 number, .int .i64 leg, u8, u9, u10, u11, u12, u13, u14, u15, u16, u17, u18, u19, u20, u21, u22, u23, u24, u25, u26, u27, u28, u29, u30, u31, u32, u33, u34, u35, u36, u37, u38, u39, u40, u41, u42, u43, u44, u45, u46, u47, u48, u49, u50, u51, u52, u53, u54, u55, u56, u57, u58, u59, u60, u61, u62, u63, u64, u65, u66, u67, u68, u69, u70, u71, u72, u73, u74, u75, u76, u77, u78, u79, u80, u81, u82, u83, u84, u85, u86, u87, u88, u89, u90, u91, u92, u93, u94, u95, u96, u97, u98, u99, u100, u101, u102, u103, u104, u105, u106, u107, u108, u109, u110, u111, u112, u113, u114, u115, u116, u117, u118, u119, u120, u121, u122, u123, u124, u125, u126, u127, u128, u129, u130, u131, u132, u133, u134, u135, u136, u137, u138, u139, u140, u141, u142, u143, u144, u145, u146, u147, u148, u149, u150, u151, u152, u153, u154, u155, u156, u157, u158, u159, u160, u161, u162, u163, u164, u165, u166, u167, u168, u169, u170, u171, u172, u173, u174, u175, u176, u177, u178, u179, u180, u181, u182, u183, u184, u185, u186, u187, u188, u189, u190, u191, u192, u193, u194, u195, u196, u197, u198, u199, u200, u201, u202, u203, u204, u205, u206, u207, u208, u209, u210, u211, u212, u213, u214, u215, u216, u217, u218, u219, u220, u221, u222, u223, u224, u225, u226, u227, u228, u229, u230, u231, u232, u233, u234, u235, u236, u237, u238, u239, u240, u241, u242, u243, u244, u245, u246, u247, u248, u249, u250, u251, u252, u253, u254, u255, u256, u257, u258, u259, u260, u261, u262, u263, u264, u265, u266, u267, u268, u269, u270, u271, u272, u273, u274, u275, u276, u277, u278, u279, u280, u281, u282, u283, u284, u285, u286, u287, u288, u289, u290, u291, u292, u293, u294, u295, u296, u297, u298, u299, u300, u301, u302, u303, u304, u305, u306, u307, u308, u309, u310, u311, u312], []⟩ wc := by
  conv => arg 2; whnf
  generalize hwc : wc = w1 at hD HX0 ⊢
  clear hwc wc
  have HX1 := HX0
  clear HX0

  have hlen : (vs.map TmV.t).length = vs.length := by rw [List.length_map]
  have hG := hD.grow
  have hl8 := hD.len
  have hnil := hD.nil
  have HSI := Lib.hid (fun x (hx : Ext w1 x) => impl_StartOf (w := x) (cap := cap) (hG.ext hx) (by omega) h1 h2 h3 h4)
  have HSS := Lib.hid (fun x (hx : Ext w1 x) => spec_StartOf (w := x) (cap := cap) (hG.ext hx) (by omega) h1 h2 h3 h4)
  rw [hlen] at HSI HSS
  rw [e1] at HSI HSS; simp only [stV] at HSI HSS
  have HD := Lib.hid hD; have HH1 := Lib.hid h1; have HH2 := Lib.hid h2; have HH3 := Lib.hid h3; have HH4 := Lib.hid h4; have HE2 := Lib.hid e2
  clear hD hlen hG hnil h1 h2 h3 h4 e1 e2

  go_wp2_with fail
  refine (HSI.out _ (Ext.refl _)).mono ?_; rintro e w2 ⟨rfl, hx⟩
  have HX2 := Lib.hid hx
  clear hx HSI
  go_wp2_with fail
  refine (HSS.out _ HX2.out).mono ?_; rintro e w3 ⟨rfl, hx⟩
  have HX3 := Lib.hid (HX2.out.trans hx)
  clear hx HSS HX2

  go_upto_region 6 with fail
  go_cut [96] (fun b wc => b = .bool false ∧ Ext w1 wc)
  case first =>
    go_wp2_with fail
    go_meet
    exact ⟨rfl, HX3.out⟩
  case rest =>
  obtain ⟨rfl, hcut⟩ := hcut
  generalize wc = w4 at hcut ⊢
  clear HX3
  have HX3 := Lib.hid hcut
  clear hcut
  go_upto_if 96 with fail
  go_cut [] (fun wc => Ext w4 wc)
  case first =>
    go_wp2_with fail
    go_meet
    exact Ext.refl _
  case rest =>
  have HX4 := Lib.hid (HX1.out.trans (HX3.out.trans hcut))
  have hDX := HD.out.ext (HX3.out.trans hcut)
  clear hcut
  apply_assumption
  exact partTa HR HM HBS HX4 hDX HH1.out HH2.out HH3.out HH4.out HE2.out
set_option maxRecDepth 100000 in
set_option maxHeartbeats 8000000 in
theorem partSb {co : Option Addr} {cc m : Nat} {bs : Nat → Nat} {w wc : World} {u1 u2 u8 u9 u10 u11 u12 u13 u14 u15 u16 u17 u18 u19 u20 u21 u22 u23 u24 u25 u26 u27 u28 u29 u30 u31 u32 u33 u34 u35 u36 u37 u38 u39 u40 u41 u42 u43 u44 u45 u46 u47 u48 u49 u50 u51 u52 u53 u54 u55 u56 u57 u58 u59 u60 u61 u62 u63 u64 u65 u66 u67 u68 u69 u70 u71 u72 u73 u74 u75 u76 u77 u78 u79 u80 u81 u82 u83 u84 u85 u86 u87 u88 u89 u90 u91 u92 u93 u94 u95 u96 u97 u98 u99 u100 u101 u102 u103 u104 u105 u106 u107 u108 u109 u110 u111 u112 u113 u114 u115 u116 u117 u118 u119 u120 u121 u122 u123 u124 u125 u126 u127 u128 u129 u130 u131 u132 u133 u134 u135 u136 u137 u138 u139 u140 u141 u142 u143 u144 u145 u146 u147 u148 u149 u150 u151 u152 u153 u154 u155 u156 u157 u158 u159 u160 u161 u162 u163 u164 u165 u166 u167 u168 u169 u170 u171 u172 u173 u174 u175 u176 u177 u178 u179 u180 u181 u182 u183 u184 u185 u186 u187 u188 u189 u190 u191 u192 u193 u194 u195 u196 u197 u198 u199 u200 u201 u202 u203 u204 u205 u206 u207 u208 u209 u210 u211 u212 u213 u214 u215 u216 u217 u218 u219 u220 u221 u222 u223 u224 u225 u226 u227 u228 u229 u230 u231 u232 u233 u234 u235 u236 u237 u238 u239 u240 u241 u242 u243 u244 u245 u246 u247 u248 u249 u250 u251 u252 u253 u254 u255 u256 u257 u258 u259 u260 u261 u262 u263 u264 u265 u266 u267 u268 u269 u270 u271 u272 u273 u274 u275 u276 u277 u278 u279 u280 u281 u282 u283 u284 u285 u286 u287 u288 u289 u290 u291 u292 u293 u294 u295 u296 u297 u298 u299 u300 u301 u302 u303 u304 u305 u306 u307 u308 u309 u310 u311 u312 : Value} {ao : Option Addr} {cap : Nat} {vs : List TmV} {legs mass number leg : Int} {st : Int}
    (HR : Hid (RowAt w co 1 m (by8 bs))) (HM : Hid (m ≤ 9223372036854775807)) (HBS : Hid (∀ k, bs k < 256)) (HX0 : Hid (Ext w wc))
    (hD : DrawnT w.heap.size wc vs ao cap) (h1 : I64 legs) (h2 : I64 mass) (h3 : I64 number) (h4 : I64 leg) (e1 : gStart (vs.map TmV.t) legs mass number leg = stV (some st)) (hle : st ≤ mass) (hl0 : leg = 0 → st = 0)
    (e2 : (gBack (vs.map TmV.t) legs mass number leg = stV none ∨ ∃ back : Int, gBack (vs.map TmV.t) legs mass number leg = stV (some back) ∧ st < back ∧ (0 ≤ leg ∧ leg ≤ 3) ∧ (leg + 1 < legs → ∃ next : Int, gStart (vs.map TmV.t) legs mass number (leg + 1) = stV (some next) ∧ next ≤ back ∧ (next < back → next = mass)))) :
    Code.wp Try.prog (dropS 3 (Try.f3.body.getD .skip)) (bodyPost Try.prog Try.f3 fun e w' => e = .returned (.bool true) ∧ Ext w w') ⟨#[.slice co m cc, u1, u2, .slice ao vs.length cap, .int .i64 legs, .int .i64 mass, .int .i64 number, .int .i64 leg, u8, u9, u10, u11, u12, u13, u14, u15, u16, u17, u18, u19, u20, u21, u22, u23, u24, u25, u26, u27, u28, u29, u30, u31, u32, u33, u34, u35, u36, u37, u38, u39, u40, u41, u42, u43, u44, u45, u46, u47, u48, u49, u50, u51, u52, u53, u54, u55, u56, u57, u58, u59, u60, u61, u62, u63, u64, u65, u66, u67, u68, u69, u70, u71, u72, u73, u74, u75, u76, u77, u78, u79, u80, u81, u82, u83, u84, u85, u86, u87, u88, u89, u90, u91, u92, u93, u94, u95, u96, u97, u98, u99, u100, u101, u102, u103, u104, u105, u106, u107, u108, u109, u110, u111, u112, u113, u114, u115, u116, u117, u118, u119, u120, u121, u122, u123, u124, u125, u126, u127, u128, u129, u130, u131, u132, u133, u134, u135, u136, u137, u138, u139, u140, u141, u142, u143, u144, u145, u146, u147, u148, u149, u150, u151, u152, u153, u154, u155, u156, u157, u158, u159, u160, u161, u162, u163, u164, u165, u166, u167, u168, u169, u170, u171, u172, u173, u174, u175, u176, u177, u178, u179, u180, u181, u182, u183, u184, u185, u186, u187, u188, u189, u190, u191, u192, u193, u194, u195, u196, u197, u198, u199, u200, u201, u202, u203, u204, u205, u206, u207, u208, u209, u210, u211, u212, u213, u214, u215, u216, u217, u218, u219, u220, u221, u222, u223, u224, u225, u226, u227, u228, u229, u230, u231, u232, u233, u234, u235, u236, u237, u238, u239, u240, u241, u242, u243, u244, u245, u246, u247, u248, u249, u250, u251, u252, u253, u254, u255, u256, u257, u258, u259, u260, u261, u262, u263, u264, u265, u266, u267, u268, u269, u270, u271, u272, u273, u274, u275, u276, u277, u278, u279, u280, u281, u282, u283, u284, u285, u286, u287, u288, u289, u290, u291, u292, u293, u294, u295, u296, u297, u298, u299, u300, u301, u302, u303, u304, u305, u306, u307, u308, u309, u310, u311, u312], []⟩ wc := by
  conv => arg 2; whnf
  generalize hwc : wc = w1 at hD HX0 ⊢
  clear hwc wc
  have HX1 := HX0
  clear HX0

  have hlen : (vs.map TmV.t).length = vs.length := by rw [List.length_map]
  have hG := hD.grow
  have hl8 := hD.len
  have hnil := hD.nil
  have HSI := Lib.hid (fun x (hx : Ext w1 x) => impl_StartOf (w := x) (cap := cap) (hG.ext hx) (by omega) h1 h2 h3 h4)
  have HSS := Lib.hid (fun x (hx : Ext w1 x) => spec_StartOf (w := x) (cap := cap) (hG.ext hx) (by omega) h1 h2 h3 h4)
  rw [hlen] at HSI HSS
  rw [e1] at HSI HSS; simp only [stV] at HSI HSS
  have HD := Lib.hid hD; have HH1 := Lib.hid h1; have HH2 := Lib.hid h2; have HH3 := Lib.hid h3; have HH4 := Lib.hid h4; have HE2 := Lib.hid e2
  clear hD hlen hG hnil h1 h2 h3 h4 e1 e2

  go_wp2_with fail
  refine (HSI.out _ (Ext.refl _)).mono ?_; rintro e w2 ⟨rfl, hx⟩
  have HX2 := Lib.hid hx
  clear hx HSI
  go_wp2_with fail
  refine (HSS.out _ HX2.out).mono ?_; rintro e w3 ⟨rfl, hx⟩
  have HX3 := Lib.hid (HX2.out.trans hx)
  clear hx HSS HX2

  go_upto_region 6 with fail
  go_cut [96] (fun b wc => b = .bool false ∧ Ext w1 wc)
  case first =>
    by_cases hz : leg = 0
    · obtain rfl := hl0 hz
      subst hz
      go_wp2_with fail
      go_meet
      exact ⟨by rw [decide_eq_false (by omega)], HX3.out⟩
    · go_wp2_with fail
      go_meet
      exact ⟨by rw [decide_eq_false (by omega)], HX3.out⟩
  case rest =>
  obtain ⟨rfl, hcut⟩ := hcut
  generalize wc = w4 at hcut ⊢
  clear HX3
  have HX3 := Lib.hid hcut
  clear hcut
  go_upto_if 96 with fail
  go_cut [] (fun wc => Ext w4 wc)
  case first =>
    go_wp2_with fail
    go_meet
    exact Ext.refl _
  case rest =>
  have HX4 := Lib.hid (HX1.out.trans (HX3.out.trans hcut))
  have hDX := HD.out.ext (HX3.out.trans hcut)
  clear hcut
  apply_assumption

  rcases HE2.out with e2 | ⟨back, e2, hlt, hlr, hnx⟩
  · exact partTa HR HM HBS HX4 hDX HH1.out HH2.out HH3.out HH4.out e2
  · exact partTb HR HM HBS HX4 hDX HH1.out HH2.out HH3.out HH4.out e2 hlt hlr hnx
set_option maxRecDepth 100000 in
set_option maxHeartbeats 8000000 in
theorem walk {co : Option Addr} {cc m : Nat} {bs : Nat → Nat} {w : World} (hr : RowAt w co 1 m (by8 bs)) (hm : m ≤ 9223372036854775807) (hb : ∀ k, bs k < 256) :
    Calls Try.prog 3 #[.slice co m cc] w fun e w' => e = .returned (.bool true) ∧ Ext w w' := by
  have HV := Lib.hid (laws_vBig (ao := co) (cap := cc) (w := w) hm)
  have HR := Lib.hid hr; have HM := Lib.hid hm; have HBS := Lib.hid hb
  clear hr hb
  by_cases hbig : 65536 < m
  · have HBIG : Hid (decide (65536 < m) = true) := Lib.hid (by simpa using hbig)
    clear hbig hm
    go_enter Try.func3, Try.ntmps3
    go_wp2_with fail
    refine HV.out.mono ?_; rintro e w1 ⟨rfl, rfl⟩
    rw [HBIG.out]
    clear HV HBIG
    go_wp2
    go_ret
    exact ⟨rfl, Ext.refl _⟩
  · have HBIG : Hid (decide (65536 < m) = false) := Lib.hid (by simpa using hbig)
    clear hbig hm
    go_enter Try.func3, Try.ntmps3
    go_upto_region 1 with fail
    go_cut [46] (fun b wc => b = .bool false ∧ Ext w wc)
    case first =>
      go_wp2_with fail
      refine HV.out.mono ?_; rintro e w1 ⟨rfl, rfl⟩
      rw [HBIG.out]
      clear HV HBIG
      go_wp2_with fail
      go_meet
      exact ⟨rfl, Ext.refl _⟩
    case rest =>
      obtain ⟨rfl, hcut⟩ := hcut
      generalize wc = w0 at hcut ⊢
      have HXC := Lib.hid hcut
      clear hcut
      go_upto_region 3 with fail
      have HD := Lib.hid (draw_startof (cc := cc) (HR.out.ext HXC.out) HBS.out HM.out)
      go_cut [3, 4, 5, 6, 7] (fun a b c d e w1 => ∃ (ao : Option Addr) (cap : Nat) (vs : List TmV) (legs mass number leg : Int), a = .slice ao vs.length cap ∧ b = .int .i64 legs ∧ c = .int .i64 mass ∧ d = .int .i64 number ∧ e = .int .i64 leg ∧ DrawnT w.heap.size w1 vs ao cap ∧ I64 legs ∧ I64 mass ∧ I64 number ∧ I64 leg ∧ Ext w w1)
      case first =>
        go_wp2_with fail
        refine HD.out.mono ?_; rintro e w1 ⟨ao, cap, vs, legs, mass, number, leg, rfl, hD, h1, h2, h3, h4, hx⟩
        have HQ := Lib.hid (show DrawnT w.heap.size w1 vs ao cap ∧ I64 legs ∧ I64 mass ∧ I64 number ∧ I64 leg ∧ Ext w w1 from ⟨hD.mono HXC.out.size, h1, h2, h3, h4, HXC.out.trans hx⟩)
        clear hD h1 h2 h3 h4 hx HD
        go_wp2_with fail
        go_meet
        exact ⟨ao, cap, vs, legs, mass, number, leg, rfl, rfl, rfl, rfl, rfl, HQ.out⟩
      case rest =>
        obtain ⟨ao, cap, vs, legs, mass, number, leg, rfl, rfl, rfl, rfl, rfl, hD, h1, h2, h3, h4, hx⟩ := hcut
        have HXD := Lib.hid hx
        clear hx HD HXC
        rename_i hK
        rcases rel_form (vs.map TmV.t) legs mass number leg with ⟨e1, e2⟩ | ⟨st, e1, hle, hl0, e2⟩
        · exact hK _ _ (partSa HR HM HBS HXD hD h1 h2 h3 h4 e1 e2)
        · exact hK _ _ (partSb HR HM HBS HXD hD h1 h2 h3 h4 e1 hle hl0 e2)

set_option maxRecDepth 100000 in
theorem lifted (os : Os) (started : os.Started) (H : Type) (enc : TypeId × Value → H) :
    ReturnsInHanded {} Try.checked os 3 .any (Rows.fnRelaysSpec.pre6 enc Try.prog Try.f3 Rows.fnRelaysRow.domain false) (Rows.fnRelaysSpec.post enc Try.prog Try.f3 false true false false) := by
  refine returnsInHanded_of_change (C := Try.checked) (by kernel_rfl) started (by kernel_rfl) Try.func3
    (ChangeSpec.witness6 (enc := enc) (C := Try.checked) false ⟨#[], #[.slice none 0 0], []⟩ 8 (by kernel_rfl) (by kernel_rfl) (by kernel_rfl) (by kernel_rfl)) ?_
  intro W base args ds gs before hval0 hW _ _
  have hval : ∀ (j : Nat) t v, Try.f3.params[j]? = some t → args[j]? = some v → Value.okWide Try.prog W .any base t v := hval0
  have hW' := hW
  obtain ⟨p, q, hA0, hV, rfl, hfz, hnd⟩ := hW
  have hA : DataW.TrodAll enc Try.prog W 0 (fun _ => true) true Try.f3.params.toList args.toList ds p := hA0
  rw [Try.params3] at hA hval
  obtain ⟨v0, vs0, d0, ds0, p0, q0, hargs, rfl, rfl, h0, r0⟩ := trodAll_cons hA
  obtain ⟨rfl, rfl, rfl⟩ := trodAll_nil r0
  obtain rfl : args = #[v0] := by cases args; simp_all
  obtain ⟨rfl, rfl⟩ := trodVars_none hV
  obtain ⟨ao0, cap0, m0, bs0, rfl, hl0, hr0, hw0⟩ := open_ByteS (hval 0 22 v0 rfl rfl) h0
  refine (walk hr0 hl0 hw0).mono fun e W' ⟨he, hx⟩ => ?_
  subst he
  exact ⟨_, rfl, law_post (by kernel_rfl) (by kernel_rfl) Try.underlying4 rfl rfl hW' rfl hx⟩

theorem holds : Rows.FnRelaysSaid :=
  OpenClaim.holds_of_wide 3 Try.f3 rfl rfl rfl rfl rfl rfl rfl ⟨rfl, rfl, rfl, rfl, rfl⟩ rfl rfl rfl rfl rfl (by kernel_rfl) Try.func3 (by kernel_rfl)
    (of_decide_eq_true (by kernel_rfl)) (by unfold Func.isWrapper; first | (rw [if_pos (by decide +kernel)]; kernel_rfl) | (rw [if_neg (by decide +kernel)]; exact ⟨rfl, rfl⟩))
    (fun os started H enc _ => lifted os started H enc)

end Go.Proofs.Ytlpogglcbphilaa.FnRelays
