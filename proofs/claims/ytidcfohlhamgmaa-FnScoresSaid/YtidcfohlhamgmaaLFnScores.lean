/-
  Proved here: the law FnScores answers true for every input and leaves its arguments as they were.
  Conditions: none.
-/
import Derived.Test.YtidcfohlhamgmaaDrawW
import Derived.Test.YtidcfohlhamgmaaVeq
import Derived.Test.YtidcfohlhamgmaaTByteS
import Derived.IntWalk
import Derived.Deep.DrawnRows
import Derived.Deep.DeepCutAuto
import Derived.Deep.CutBlock
namespace Go.Proofs.Ytidcfohlhamgmaa.FnScores
open Go.ChangeShapes Go.WideShapes Go.ChangeAt Go.RowKit

/-- the code behind the first K statements -/
def dropS : Nat → Code → Code
  | 0, c => c
  | n + 1, .seq _ b => dropS n b
  | _ + 1, c => c
set_option maxRecDepth 100000 in
set_option maxHeartbeats 8000000 in
theorem part3 {co : Option Addr} {cc m : Nat} {bs : Nat → Nat} {w wc : World} {u1 u2 u3 u4 u5 u6 u7 u8 u9 u10 u11 u12 u13 u14 u15 u16 u17 u18 u19 u20 u21 u22 u23 u24 u25 u26 u27 u28 u29 u30 u31 u32 u33 u34 u35 u36 u37 u38 u39 u40 u41 u42 u43 u44 u45 u46 u47 u48 u49 u50 u51 u52 u53 u54 u55 u56 u57 u58 u59 u60 u61 u62 u63 u64 u65 u66 u67 u68 u69 u70 u71 u72 u73 u74 u75 u76 u77 u78 u79 u80 u81 u82 u83 u84 u85 u86 u87 u88 u89 u90 u91 u92 u93 u94 u95 u96 u97 u98 u99 u100 u101 u102 u103 u104 u105 u106 u107 u108 u109 u110 u111 u112 u113 u114 u115 u116 u117 u118 u119 u120 u121 u122 u123 u124 u125 u126 u127 u128 u129 u130 u131 u132 u133 u134 u135 u136 u137 u138 u139 u140 u141 u142 u143 u144 u145 u146 u147 u148 u149 u150 u151 u152 u153 u154 u155 u156 u157 u158 u159 u160 u161 u162 u163 u164 u165 u166 u167 u168 u169 u170 u171 u172 u173 u174 u175 u176 u177 u178 u179 u180 u181 u182 u183 u184 u185 u186 u187 u188 u189 u190 u191 u192 u193 u194 u195 u196 u197 u198 u199 u200 u201 u202 u203 u204 u205 u206 u207 u208 u209 u210 u211 u212 u213 u214 u215 u216 u217 u218 u219 u220 u221 u222 u223 u224 u225 u226 u227 u228 u229 u230 u231 u232 u233 u234 u235 u236 u237 u238 u239 u240 : Value}
    (HR : Hid (RowAt w co 1 m (by8 bs))) (HM : Hid (m ≤ 9223372036854775807)) (HBS : Hid (∀ k, bs k < 256)) (HX0 : Hid (Ext w wc)) :
    Code.wp Try.prog (dropS 12 (Try.f7.body.getD .skip)) (bodyPost Try.prog Try.f7 fun e w' => e = .returned (.bool true) ∧ Ext w w') ⟨#[.slice co m cc, u1, u2, u3, u4, u5, u6, u7, u8, u9, u10, u11, u12, u13, u14, u15, u16, u17, u18, u19, u20, u21, u22, u23, u24, u25, u26, u27, u28, u29, u30, u31, u32, u33, u34, u35, u36, u37, u38, u39, u40, u41, u42, u43, u44, u45, u46, u47, u48, u49, u50, u51, u52, u53, u54, u55, u56, u57, u58, u59, u60, u61, u62, u63, u64, u65, u66, u67, u68, u69, u70, u71, u72, u73, u74, u75, u76, u77, u78, u79, u80, u81, u82, u83, u84, u85, u86, u87, u88, u89, u90, u91, u92, u93, u94, u95, u96, u97, u98, u99, u100, u101, u102, u103, u104, u105, u106, u107, u108, u109, u110, u111, u112, u113, u114, u115, u116, u117, u118, u119, u120, u121, u122, u123, u124, u125, u126, u127, u128, u129, u130, u131, u132, u133, u134, u135, u136, u137, u138, u139, u140, u141, u142, u143, u144, u145, u146, u147, u148, u149, u150, u151, u152, u153, u154, u155, u156, u157, u158, u159, u160, u161, u162, u163, u164, u165, u166, u167, u168, u169, u170, u171, u172, u173, u174, u175, u176, u177, u178, u179, u180, u181, u182, u183, u184, u185, u186, u187, u188, u189, u190, u191, u192, u193, u194, u195, u196, u197, u198, u199, u200, u201, u202, u203, u204, u205, u206, u207, u208, u209, u210, u211, u212, u213, u214, u215, u216, u217, u218, u219, u220, u221, u222, u223, u224, u225, u226, u227, u228, u229, u230, u231, u232, u233, u234, u235, u236, u237, u238, u239, u240], []⟩ wc := by
  conv => arg 2; whnf
  have HD := Lib.hid (draw_break (cc := cc) (HR.out.ext HX0.out) HBS.out HM.out)
  go_wp2_with fail
  refine HD.out.mono ?_; rintro e w1 ⟨m, ro, rc, qo, tc, xs, co', cap, r, po, pc, x, rfl, hD⟩
  have HS := Lib.hid hD.site; have HP := Lib.hid hD.f4.row
  have hpn : r.pts.length ≤ 9223372036854775807 := by have := hD.l4; omega
  have HX1 := Lib.hid (HX0.out.trans hD.ext)
  clear hD HD HX0 HR HM HBS
  have q0 : ((w1.alloc (.cells #[.int .i64 m.wid, .int .i64 m.hei, .slice ro m.rise.length rc, .slice qo m.cost.length tc] 30)).alloc (.cells #[.slice po r.pts.length pc, .int .i64 r.lim, .int .i64 r.pen] 43)).cell? ⟨w1.heap.size, 0, none⟩ = some (.int .i64 m.wid) := by go_simp
  have q1 : ((w1.alloc (.cells #[.int .i64 m.wid, .int .i64 m.hei, .slice ro m.rise.length rc, .slice qo m.cost.length tc] 30)).alloc (.cells #[.slice po r.pts.length pc, .int .i64 r.lim, .int .i64 r.pen] 43)).cell? ⟨w1.heap.size, 1, none⟩ = some (.int .i64 m.hei) := by go_simp
  have q2 : ((w1.alloc (.cells #[.int .i64 m.wid, .int .i64 m.hei, .slice ro m.rise.length rc, .slice qo m.cost.length tc] 30)).alloc (.cells #[.slice po r.pts.length pc, .int .i64 r.lim, .int .i64 r.pen] 43)).cell? ⟨w1.heap.size, 2, none⟩ = some (.slice ro m.rise.length rc) := by go_simp
  have q3 : ((w1.alloc (.cells #[.int .i64 m.wid, .int .i64 m.hei, .slice ro m.rise.length rc, .slice qo m.cost.length tc] 30)).alloc (.cells #[.slice po r.pts.length pc, .int .i64 r.lim, .int .i64 r.pen] 43)).cell? ⟨w1.heap.size, 3, none⟩ = some (.slice qo m.cost.length tc) := by go_simp
  have b0 : ((w1.alloc (.cells #[.int .i64 m.wid, .int .i64 m.hei, .slice ro m.rise.length rc, .slice qo m.cost.length tc] 30)).alloc (.cells #[.slice po r.pts.length pc, .int .i64 r.lim, .int .i64 r.pen] 43)).cell? ⟨w1.heap.size + 1, 0, none⟩ = some (.slice po r.pts.length pc) := by go_simp
  have b1 : ((w1.alloc (.cells #[.int .i64 m.wid, .int .i64 m.hei, .slice ro m.rise.length rc, .slice qo m.cost.length tc] 30)).alloc (.cells #[.slice po r.pts.length pc, .int .i64 r.lim, .int .i64 r.pen] 43)).cell? ⟨w1.heap.size + 1, 1, none⟩ = some (.int .i64 r.lim) := by go_simp
  have b2 : ((w1.alloc (.cells #[.int .i64 m.wid, .int .i64 m.hei, .slice ro m.rise.length rc, .slice qo m.cost.length tc] 30)).alloc (.cells #[.slice po r.pts.length pc, .int .i64 r.lim, .int .i64 r.pen] 43)).cell? ⟨w1.heap.size + 1, 2, none⟩ = some (.int .i64 r.pen) := by go_simp
  have hxw : Ext w1 ((w1.alloc (.cells #[.int .i64 m.wid, .int .i64 m.hei, .slice ro m.rise.length rc, .slice qo m.cost.length tc] 30)).alloc (.cells #[.slice po r.pts.length pc, .int .i64 r.lim, .int .i64 r.pen] 43)) := ((Ext.refl _).alloc _).alloc _
  have hsa : w1.heap.size < ((w1.alloc (.cells #[.int .i64 m.wid, .int .i64 m.hei, .slice ro m.rise.length rc, .slice qo m.cost.length tc] 30)).alloc (.cells #[.slice po r.pts.length pc, .int .i64 r.lim, .int .i64 r.pen] 43)).heap.size := by simp; omega
  have hsb : w1.heap.size + 1 < ((w1.alloc (.cells #[.int .i64 m.wid, .int .i64 m.hei, .slice ro m.rise.length rc, .slice qo m.cost.length tc] 30)).alloc (.cells #[.slice po r.pts.length pc, .int .i64 r.lim, .int .i64 r.pen] 43)).heap.size := by simp
  unfold MapD.val RuleD.val
  go_upto_region 30 with fail
  generalize ((w1.alloc (.cells #[.int .i64 m.wid, .int .i64 m.hei, .slice ro m.rise.length rc, .slice qo m.cost.length tc] 30)).alloc (.cells #[.slice po r.pts.length pc, .int .i64 r.lim, .int .i64 r.pen] 43)) = w2 at *
  have HXW := Lib.hid hxw
  clear hxw

  have HBI := Lib.hid (fun y (hy : Ext w1 y) => impl_BreakEven (w := y) (ac := rc) (bc := tc) (cap := cap) (pc := pc) (code := x) (HS.out.ext hy) (HP.out.ext hy) hpn)
  have HBE := Lib.hid (fun y (hy : Ext w1 y) => spec_BreakEven (w := y) (ac := rc) (bc := tc) (cap := cap) (pc := pc) (code := x) (HS.out.ext hy) (HP.out.ext hy) hpn)
  obtain ⟨n, b, e⟩ := even_form m xs r x
  rw [e] at HBI HBE
  unfold MapD.val RuleD.val at HBI HBE
  clear e HS HP
  go_wp2_with fail
  refine (HBI.out _ HXW.out).mono ?_; rintro e w3 ⟨rfl, hx3⟩
  have q0 := hx3.cells q0
  have q1 := hx3.cells q1
  have q2 := hx3.cells q2
  have q3 := hx3.cells q3
  have b0 := hx3.cells b0
  have b1 := hx3.cells b1
  have b2 := hx3.cells b2
  have hsa := World.block_lt_of_cell? _ _ q0
  have hsb := World.block_lt_of_cell? _ _ b0
  simp only at hsa hsb

  have HX3 := Lib.hid (HXW.out.trans hx3)
  clear hx3 HBI
  go_wp2_with fail
  refine (HBE.out _ HX3.out).mono ?_; rintro e w4 ⟨rfl, hx4⟩
  have HX4 := Lib.hid (HX1.out.trans (HX3.out.trans hx4))
  clear hx4 HBE HX3 HX1
  clear q0 q1 q2 q3 b0 b1 b2 hsa hsb
  cases b
  all_goals
    go_wp2
    go_ret
    exact ⟨rfl, HX4.out⟩
set_option maxRecDepth 100000 in
set_option maxHeartbeats 8000000 in
theorem part2 {co : Option Addr} {cc m : Nat} {bs : Nat → Nat} {w wc : World} {u1 u2 u3 u4 u5 u6 u7 u8 u9 u10 u11 u12 u13 u14 u15 u16 u17 u18 u19 u20 u21 u22 u23 u24 u25 u26 u27 u28 u29 u30 u31 u32 u33 u34 u35 u36 u37 u38 u39 u40 u41 u42 u43 u44 u45 u46 u47 u48 u49 u50 u51 u52 u53 u54 u55 u56 u57 u58 u59 u60 u61 u62 u63 u64 u65 u66 u67 u68 u69 u70 u71 u72 u73 u74 u75 u76 u77 u78 u79 u80 u81 u82 u83 u84 u85 u86 u87 u88 u89 u90 u91 u92 u93 u94 u95 u96 u97 u98 u99 u100 u101 u102 u103 u104 u105 u106 u107 u108 u109 u110 u111 u112 u113 u114 u115 u116 u117 u118 u119 u120 u121 u122 u123 u124 u125 u126 u127 u128 u129 u130 u131 u132 u133 u134 u135 u136 u137 u138 u139 u140 u141 u142 u143 u144 u145 u146 u147 u148 u149 u150 u151 u152 u153 u154 u155 u156 u157 u158 u159 u160 u161 u162 u163 u164 u165 u166 u167 u168 u169 u170 u171 u172 u173 u174 u175 u176 u177 u178 u179 u180 u181 u182 u183 u184 u185 u186 u187 u188 u189 u190 u191 u192 u193 u194 u195 u196 u197 u198 u199 u200 u201 u202 u203 u204 u205 u206 u207 u208 u209 u210 u211 u212 u213 u214 u215 u216 u217 u218 u219 u220 u221 u222 u223 u224 u225 u226 u227 u228 u229 u230 u231 u232 u233 u234 u235 u236 u237 u238 u239 u240 : Value}
    (HR : Hid (RowAt w co 1 m (by8 bs))) (HM : Hid (m ≤ 9223372036854775807)) (HBS : Hid (∀ k, bs k < 256)) (HX0 : Hid (Ext w wc)) :
    Code.wp Try.prog (dropS 8 (Try.f7.body.getD .skip)) (bodyPost Try.prog Try.f7 fun e w' => e = .returned (.bool true) ∧ Ext w w') ⟨#[.slice co m cc, u1, u2, u3, u4, u5, u6, u7, u8, u9, u10, u11, u12, u13, u14, u15, u16, u17, u18, u19, u20, u21, u22, u23, u24, u25, u26, u27, u28, u29, u30, u31, u32, u33, u34, u35, u36, u37, u38, u39, u40, u41, u42, u43, u44, u45, u46, u47, u48, u49, u50, u51, u52, u53, u54, u55, u56, u57, u58, u59, u60, u61, u62, u63, u64, u65, u66, u67, u68, u69, u70, u71, u72, u73, u74, u75, u76, u77, u78, u79, u80, u81, u82, u83, u84, u85, u86, u87, u88, u89, u90, u91, u92, u93, u94, u95, u96, u97, u98, u99, u100, u101, u102, u103, u104, u105, u106, u107, u108, u109, u110, u111, u112, u113, u114, u115, u116, u117, u118, u119, u120, u121, u122, u123, u124, u125, u126, u127, u128, u129, u130, u131, u132, u133, u134, u135, u136, u137, u138, u139, u140, u141, u142, u143, u144, u145, u146, u147, u148, u149, u150, u151, u152, u153, u154, u155, u156, u157, u158, u159, u160, u161, u162, u163, u164, u165, u166, u167, u168, u169, u170, u171, u172, u173, u174, u175, u176, u177, u178, u179, u180, u181, u182, u183, u184, u185, u186, u187, u188, u189, u190, u191, u192, u193, u194, u195, u196, u197, u198, u199, u200, u201, u202, u203, u204, u205, u206, u207, u208, u209, u210, u211, u212, u213, u214, u215, u216, u217, u218, u219, u220, u221, u222, u223, u224, u225, u226, u227, u228, u229, u230, u231, u232, u233, u234, u235, u236, u237, u238, u239, u240], []⟩ wc := by
  conv => arg 2; whnf
  have HD := Lib.hid (draw_tscore (cc := cc) (HR.out.ext HX0.out) HBS.out HM.out)
  go_wp2_with fail
  refine HD.out.mono ?_; rintro e w1 ⟨m, ro, rc, qo, tc, xs, co', cap, r, po, pc, x, cs, go, gc, rfl, hD, hcl, hF, hgc⟩
  have HS := Lib.hid hD.site; have HP := Lib.hid hD.f4.row
  have hpn : r.pts.length ≤ 9223372036854775807 := by have := hD.l4; omega
  have HX1 := Lib.hid (HX0.out.trans hD.ext)
  have HF := Lib.hid hF.row
  clear hD HD HX0 hF
  have q0 : ((w1.alloc (.cells #[.int .i64 m.wid, .int .i64 m.hei, .slice ro m.rise.length rc, .slice qo m.cost.length tc] 30)).alloc (.cells #[.slice po r.pts.length pc, .int .i64 r.lim, .int .i64 r.pen] 43)).cell? ⟨w1.heap.size, 0, none⟩ = some (.int .i64 m.wid) := by go_simp
  have q1 : ((w1.alloc (.cells #[.int .i64 m.wid, .int .i64 m.hei, .slice ro m.rise.length rc, .slice qo m.cost.length tc] 30)).alloc (.cells #[.slice po r.pts.length pc, .int .i64 r.lim, .int .i64 r.pen] 43)).cell? ⟨w1.heap.size, 1, none⟩ = some (.int .i64 m.hei) := by go_simp
  have q2 : ((w1.alloc (.cells #[.int .i64 m.wid, .int .i64 m.hei, .slice ro m.rise.length rc, .slice qo m.cost.length tc] 30)).alloc (.cells #[.slice po r.pts.length pc, .int .i64 r.lim, .int .i64 r.pen] 43)).cell? ⟨w1.heap.size, 2, none⟩ = some (.slice ro m.rise.length rc) := by go_simp
  have q3 : ((w1.alloc (.cells #[.int .i64 m.wid, .int .i64 m.hei, .slice ro m.rise.length rc, .slice qo m.cost.length tc] 30)).alloc (.cells #[.slice po r.pts.length pc, .int .i64 r.lim, .int .i64 r.pen] 43)).cell? ⟨w1.heap.size, 3, none⟩ = some (.slice qo m.cost.length tc) := by go_simp
  have b0 : ((w1.alloc (.cells #[.int .i64 m.wid, .int .i64 m.hei, .slice ro m.rise.length rc, .slice qo m.cost.length tc] 30)).alloc (.cells #[.slice po r.pts.length pc, .int .i64 r.lim, .int .i64 r.pen] 43)).cell? ⟨w1.heap.size + 1, 0, none⟩ = some (.slice po r.pts.length pc) := by go_simp
  have b1 : ((w1.alloc (.cells #[.int .i64 m.wid, .int .i64 m.hei, .slice ro m.rise.length rc, .slice qo m.cost.length tc] 30)).alloc (.cells #[.slice po r.pts.length pc, .int .i64 r.lim, .int .i64 r.pen] 43)).cell? ⟨w1.heap.size + 1, 1, none⟩ = some (.int .i64 r.lim) := by go_simp
  have b2 : ((w1.alloc (.cells #[.int .i64 m.wid, .int .i64 m.hei, .slice ro m.rise.length rc, .slice qo m.cost.length tc] 30)).alloc (.cells #[.slice po r.pts.length pc, .int .i64 r.lim, .int .i64 r.pen] 43)).cell? ⟨w1.heap.size + 1, 2, none⟩ = some (.int .i64 r.pen) := by go_simp
  have hxw : Ext w1 ((w1.alloc (.cells #[.int .i64 m.wid, .int .i64 m.hei, .slice ro m.rise.length rc, .slice qo m.cost.length tc] 30)).alloc (.cells #[.slice po r.pts.length pc, .int .i64 r.lim, .int .i64 r.pen] 43)) := ((Ext.refl _).alloc _).alloc _
  have hsa : w1.heap.size < ((w1.alloc (.cells #[.int .i64 m.wid, .int .i64 m.hei, .slice ro m.rise.length rc, .slice qo m.cost.length tc] 30)).alloc (.cells #[.slice po r.pts.length pc, .int .i64 r.lim, .int .i64 r.pen] 43)).heap.size := by simp; omega
  have hsb : w1.heap.size + 1 < ((w1.alloc (.cells #[.int .i64 m.wid, .int .i64 m.hei, .slice ro m.rise.length rc, .slice qo m.cost.length tc] 30)).alloc (.cells #[.slice po r.pts.length pc, .int .i64 r.lim, .int .i64 r.pen] 43)).heap.size := by simp
  unfold MapD.val RuleD.val
  go_upto_region 19 with fail
  generalize ((w1.alloc (.cells #[.int .i64 m.wid, .int .i64 m.hei, .slice ro m.rise.length rc, .slice qo m.cost.length tc] 30)).alloc (.cells #[.slice po r.pts.length pc, .int .i64 r.lim, .int .i64 r.pen] 43)) = w2 at *
  have HXW := Lib.hid hxw
  clear hxw

  have HTI := Lib.hid (fun y (hy : Ext w1 y) => impl_TourScore (w := y) (ac := rc) (bc := tc) (cap := cap) (pc := pc) (qc := gc) (center := x) (HS.out.ext hy) (HP.out.ext hy) hpn (HF.out.ext hy) (by omega) hgc.1)
  have HTS := Lib.hid (fun y (hy : Ext w1 y) => spec_TourScore (w := y) (ac := rc) (bc := tc) (cap := cap) (pc := pc) (qc := gc) (center := x) (HS.out.ext hy) (HP.out.ext hy) hpn (HF.out.ext hy) (by omega) hgc.1)
  have HTT := Lib.hid (fun y (hy : Ext w1 y) => impl_TourTime (w := y) (ac := rc) (bc := tc) (cap := cap) (qc := gc) (center := x) (HS.out.ext hy) (HF.out.ext hy) (by omega) hgc.1)
  have HSC := Lib.hid (fun y (t : Int) (hy : Ext w1 y) => impl_ScoreFor (w := y) (ac := rc) (bc := tc) (cap := cap) (pc := pc) (qc := gc) (t := t) (HS.out.ext hy) (HP.out.ext hy) hpn (HF.out.ext hy) (by omega))
  unfold MapD.val RuleD.val at HTI HTS HSC
  unfold MapD.val at HTT
  clear HS HP HF
  cases hg : (goB m xs x cs && ruleB m xs r)
  · rw [gTS_no hg] at HTI HTS
    clear hg HTT HSC
    go_wp2_with fail
    refine (HTI.out _ HXW.out).mono ?_; rintro e w3 ⟨rfl, hx3⟩
    have q0 := hx3.cells q0
    have q1 := hx3.cells q1
    have q2 := hx3.cells q2
    have q3 := hx3.cells q3
    have b0 := hx3.cells b0
    have b1 := hx3.cells b1
    have b2 := hx3.cells b2
    have hsa := World.block_lt_of_cell? _ _ q0
    have hsb := World.block_lt_of_cell? _ _ b0
    simp only at hsa hsb
    have HX3 := Lib.hid (HXW.out.trans hx3)
    clear hx3 HTI
    go_wp2_with fail
    refine (HTS.out _ HX3.out).mono ?_; rintro e w4 ⟨rfl, hx4⟩
    have HX4 := Lib.hid (HX1.out.trans (HX3.out.trans hx4))
    clear hx4 HTS HX3 HX1
    clear q0 q1 q2 q3 b0 b1 b2 hsa hsb
    go_upto_if 166 with fail
    go_cut [] (fun wc => Ext w wc)
    case first =>
      go_wp2_with fail
      go_meet
      exact HX4.out
    case rest =>
      have HXC := Lib.hid hcut
      clear hcut HX4
      rename_i hK
      exact hK _ _ (part3 HR HM HBS HXC)
  · rw [gTS_yes hg] at HTI HTS
    rw [Bool.and_eq_true] at hg
    rw [gTT_yes hg.1] at HTT
    have hbd := time_bd (go_tour hg.1).1
    have hto := tour_open (go_tour hg.1).1
    have HRU := Lib.hid hg.2
    have HOF := Lib.hid hto.2.2.1
    have ht0 := hbd.1
    have hl20 : cs.length ≤ 20 := by omega
    have hli : (cs.length : Int) ≤ 20 := by omega
    generalize timeI m xs x cs = T at *
    clear hg hbd hto
    have HGS : Hid (T ≤ 1000 → gSc m xs r cs T = .tuple #[.int .i64 (scoreI xs r cs T), .bool true]) := Lib.hid (fun ht => by
      unfold gSc
      rw [HRU.out, HOF.out, decide_eq_true hl20, inB_iff.2 ⟨ht0, ht⟩]; rfl)
    generalize scoreI xs r cs T = sc at *
    go_wp2_with fail
    refine (HTI.out _ HXW.out).mono ?_; rintro e w3 ⟨rfl, hx3⟩
    have q0 := hx3.cells q0
    have q1 := hx3.cells q1
    have q2 := hx3.cells q2
    have q3 := hx3.cells q3
    have b0 := hx3.cells b0
    have b1 := hx3.cells b1
    have b2 := hx3.cells b2
    have hsa := World.block_lt_of_cell? _ _ q0
    have hsb := World.block_lt_of_cell? _ _ b0
    simp only at hsa hsb
    have HX3 := Lib.hid (HXW.out.trans hx3)
    clear hx3 HTI
    go_wp2_with fail
    refine (HTS.out _ HX3.out).mono ?_; rintro e w4 ⟨rfl, hx4⟩
    have q0 := hx4.cells q0
    have q1 := hx4.cells q1
    have q2 := hx4.cells q2
    have q3 := hx4.cells q3
    have b0 := hx4.cells b0
    have b1 := hx4.cells b1
    have b2 := hx4.cells b2
    have hsa := World.block_lt_of_cell? _ _ q0
    have hsb := World.block_lt_of_cell? _ _ b0
    simp only at hsa hsb
    have HX4 := Lib.hid (HX3.out.trans hx4)
    clear hx4 HTS HX3
    go_upto_if 166 with fail
    go_cut [] (fun wc => Ext w wc)
    case first =>
      go_wp2_with fail
      refine (HTT.out _ HX4.out).mono ?_; rintro e w5 ⟨rfl, hx5⟩
      have q0 := hx5.cells q0
      have q1 := hx5.cells q1
      have q2 := hx5.cells q2
      have q3 := hx5.cells q3
      have b0 := hx5.cells b0
      have b1 := hx5.cells b1
      have b2 := hx5.cells b2
      have hsa := World.block_lt_of_cell? _ _ q0
      have hsb := World.block_lt_of_cell? _ _ b0
      simp only at hsa hsb
      have HX5 := Lib.hid (HX4.out.trans hx5)
      clear hx5 HTT HX4
      have hnn : ¬ T < 0 := by omega
      by_cases hT : T ≤ 1000
      · have hsf := fun y hy => HSC.out y T hy
        rw [HGS.out hT] at hsf
        have HSF := Lib.hid hsf
        clear hsf HSC
        go_wp2_with fail
        refine (HSF.out _ HX5.out).mono ?_; rintro e w6 ⟨rfl, hx6⟩
        have HX6 := Lib.hid (HX1.out.trans (HX5.out.trans hx6))
        clear hx6 HSF
        clear q0 q1 q2 q3 b0 b1 b2 hsa hsb
        go_wp2_with fail
        go_meet
        exact HX6.out
      · have hT2 : ¬ T ≤ 1000 := hT
        have hT3 : 1000 < T := by omega
        clear q0 q1 q2 q3 b0 b1 b2 hsa hsb
        go_wp2_with fail
        go_meet
        exact HX1.out.trans HX5.out
    case rest =>
      have HXC := Lib.hid hcut
      clear hcut HX4
      rename_i hK
      exact hK _ _ (part3 HR HM HBS HXC)
set_option maxRecDepth 100000 in
set_option maxHeartbeats 8000000 in
theorem part1 {co : Option Addr} {cc m : Nat} {bs : Nat → Nat} {w wc : World} {u1 u2 u3 u4 u5 u6 u7 u8 u9 u10 u11 u12 u13 u14 u15 u16 u17 u18 u19 u20 u21 u22 u23 u24 u25 u26 u27 u28 u29 u30 u31 u32 u33 u34 u35 u36 u37 u38 u39 u40 u41 u42 u43 u44 u45 u46 u47 u48 u49 u50 u51 u52 u53 u54 u55 u56 u57 u58 u59 u60 u61 u62 u63 u64 u65 u66 u67 u68 u69 u70 u71 u72 u73 u74 u75 u76 u77 u78 u79 u80 u81 u82 u83 u84 u85 u86 u87 u88 u89 u90 u91 u92 u93 u94 u95 u96 u97 u98 u99 u100 u101 u102 u103 u104 u105 u106 u107 u108 u109 u110 u111 u112 u113 u114 u115 u116 u117 u118 u119 u120 u121 u122 u123 u124 u125 u126 u127 u128 u129 u130 u131 u132 u133 u134 u135 u136 u137 u138 u139 u140 u141 u142 u143 u144 u145 u146 u147 u148 u149 u150 u151 u152 u153 u154 u155 u156 u157 u158 u159 u160 u161 u162 u163 u164 u165 u166 u167 u168 u169 u170 u171 u172 u173 u174 u175 u176 u177 u178 u179 u180 u181 u182 u183 u184 u185 u186 u187 u188 u189 u190 u191 u192 u193 u194 u195 u196 u197 u198 u199 u200 u201 u202 u203 u204 u205 u206 u207 u208 u209 u210 u211 u212 u213 u214 u215 u216 u217 u218 u219 u220 u221 u222 u223 u224 u225 u226 u227 u228 u229 u230 u231 u232 u233 u234 u235 u236 u237 u238 u239 u240 : Value}
    (HR : Hid (RowAt w co 1 m (by8 bs))) (HM : Hid (m ≤ 9223372036854775807)) (HBS : Hid (∀ k, bs k < 256)) (HX0 : Hid (Ext w wc)) :
    Code.wp Try.prog (dropS 2 (Try.f7.body.getD .skip)) (bodyPost Try.prog Try.f7 fun e w' => e = .returned (.bool true) ∧ Ext w w') ⟨#[.slice co m cc, u1, u2, u3, u4, u5, u6, u7, u8, u9, u10, u11, u12, u13, u14, u15, u16, u17, u18, u19, u20, u21, u22, u23, u24, u25, u26, u27, u28, u29, u30, u31, u32, u33, u34, u35, u36, u37, u38, u39, u40, u41, u42, u43, u44, u45, u46, u47, u48, u49, u50, u51, u52, u53, u54, u55, u56, u57, u58, u59, u60, u61, u62, u63, u64, u65, u66, u67, u68, u69, u70, u71, u72, u73, u74, u75, u76, u77, u78, u79, u80, u81, u82, u83, u84, u85, u86, u87, u88, u89, u90, u91, u92, u93, u94, u95, u96, u97, u98, u99, u100, u101, u102, u103, u104, u105, u106, u107, u108, u109, u110, u111, u112, u113, u114, u115, u116, u117, u118, u119, u120, u121, u122, u123, u124, u125, u126, u127, u128, u129, u130, u131, u132, u133, u134, u135, u136, u137, u138, u139, u140, u141, u142, u143, u144, u145, u146, u147, u148, u149, u150, u151, u152, u153, u154, u155, u156, u157, u158, u159, u160, u161, u162, u163, u164, u165, u166, u167, u168, u169, u170, u171, u172, u173, u174, u175, u176, u177, u178, u179, u180, u181, u182, u183, u184, u185, u186, u187, u188, u189, u190, u191, u192, u193, u194, u195, u196, u197, u198, u199, u200, u201, u202, u203, u204, u205, u206, u207, u208, u209, u210, u211, u212, u213, u214, u215, u216, u217, u218, u219, u220, u221, u222, u223, u224, u225, u226, u227, u228, u229, u230, u231, u232, u233, u234, u235, u236, u237, u238, u239, u240], []⟩ wc := by
  conv => arg 2; whnf
  have HD := Lib.hid (draw_scoref (cc := cc) (HR.out.ext HX0.out) HBS.out HM.out)
  go_wp2_with fail
  refine HD.out.mono ?_; rintro e w1 ⟨m, ro, rc, qo, tc, xs, co', cap, r, po, pc, cs, go, gc, t, rfl, hD, hcl, hF, hgc, ht⟩
  have HS := Lib.hid hD.site; have HP := Lib.hid hD.f4.row
  have hpn : r.pts.length ≤ 9223372036854775807 := by have := hD.l4; omega
  have HX1 := Lib.hid (HX0.out.trans hD.ext)
  have HF := Lib.hid hF.row
  have ht0 := ht.1; have ht1 := ht.2
  clear hD HD HX0 hF ht
  have q0 : ((w1.alloc (.cells #[.int .i64 m.wid, .int .i64 m.hei, .slice ro m.rise.length rc, .slice qo m.cost.length tc] 30)).alloc (.cells #[.slice po r.pts.length pc, .int .i64 r.lim, .int .i64 r.pen] 43)).cell? ⟨w1.heap.size, 0, none⟩ = some (.int .i64 m.wid) := by go_simp
  have q1 : ((w1.alloc (.cells #[.int .i64 m.wid, .int .i64 m.hei, .slice ro m.rise.length rc, .slice qo m.cost.length tc] 30)).alloc (.cells #[.slice po r.pts.length pc, .int .i64 r.lim, .int .i64 r.pen] 43)).cell? ⟨w1.heap.size, 1, none⟩ = some (.int .i64 m.hei) := by go_simp
  have q2 : ((w1.alloc (.cells #[.int .i64 m.wid, .int .i64 m.hei, .slice ro m.rise.length rc, .slice qo m.cost.length tc] 30)).alloc (.cells #[.slice po r.pts.length pc, .int .i64 r.lim, .int .i64 r.pen] 43)).cell? ⟨w1.heap.size, 2, none⟩ = some (.slice ro m.rise.length rc) := by go_simp
  have q3 : ((w1.alloc (.cells #[.int .i64 m.wid, .int .i64 m.hei, .slice ro m.rise.length rc, .slice qo m.cost.length tc] 30)).alloc (.cells #[.slice po r.pts.length pc, .int .i64 r.lim, .int .i64 r.pen] 43)).cell? ⟨w1.heap.size, 3, none⟩ = some (.slice qo m.cost.length tc) := by go_simp
  have b0 : ((w1.alloc (.cells #[.int .i64 m.wid, .int .i64 m.hei, .slice ro m.rise.length rc, .slice qo m.cost.length tc] 30)).alloc (.cells #[.slice po r.pts.length pc, .int .i64 r.lim, .int .i64 r.pen] 43)).cell? ⟨w1.heap.size + 1, 0, none⟩ = some (.slice po r.pts.length pc) := by go_simp
  have b1 : ((w1.alloc (.cells #[.int .i64 m.wid, .int .i64 m.hei, .slice ro m.rise.length rc, .slice qo m.cost.length tc] 30)).alloc (.cells #[.slice po r.pts.length pc, .int .i64 r.lim, .int .i64 r.pen] 43)).cell? ⟨w1.heap.size + 1, 1, none⟩ = some (.int .i64 r.lim) := by go_simp
  have b2 : ((w1.alloc (.cells #[.int .i64 m.wid, .int .i64 m.hei, .slice ro m.rise.length rc, .slice qo m.cost.length tc] 30)).alloc (.cells #[.slice po r.pts.length pc, .int .i64 r.lim, .int .i64 r.pen] 43)).cell? ⟨w1.heap.size + 1, 2, none⟩ = some (.int .i64 r.pen) := by go_simp
  have hxw : Ext w1 ((w1.alloc (.cells #[.int .i64 m.wid, .int .i64 m.hei, .slice ro m.rise.length rc, .slice qo m.cost.length tc] 30)).alloc (.cells #[.slice po r.pts.length pc, .int .i64 r.lim, .int .i64 r.pen] 43)) := ((Ext.refl _).alloc _).alloc _
  have hsa : w1.heap.size < ((w1.alloc (.cells #[.int .i64 m.wid, .int .i64 m.hei, .slice ro m.rise.length rc, .slice qo m.cost.length tc] 30)).alloc (.cells #[.slice po r.pts.length pc, .int .i64 r.lim, .int .i64 r.pen] 43)).heap.size := by simp; omega
  have hsb : w1.heap.size + 1 < ((w1.alloc (.cells #[.int .i64 m.wid, .int .i64 m.hei, .slice ro m.rise.length rc, .slice qo m.cost.length tc] 30)).alloc (.cells #[.slice po r.pts.length pc, .int .i64 r.lim, .int .i64 r.pen] 43)).heap.size := by simp
  unfold MapD.val RuleD.val
  go_upto_region 4 with fail
  generalize ((w1.alloc (.cells #[.int .i64 m.wid, .int .i64 m.hei, .slice ro m.rise.length rc, .slice qo m.cost.length tc] 30)).alloc (.cells #[.slice po r.pts.length pc, .int .i64 r.lim, .int .i64 r.pen] 43)) = w2 at *
  have HXW := Lib.hid hxw
  clear hxw

  have HSI := Lib.hid (fun y (hy : Ext w1 y) => impl_ScoreFor (w := y) (ac := rc) (bc := tc) (cap := cap) (pc := pc) (qc := gc) (t := t) (HS.out.ext hy) (HP.out.ext hy) hpn (HF.out.ext hy) (by omega))
  have HSL := Lib.hid (fun y (hy : Ext w1 y) => impl_ScoreFor (w := y) (ac := rc) (bc := tc) (cap := cap) (pc := pc) (qc := gc) (t := t + 1) (HS.out.ext hy) (HP.out.ext hy) hpn (HF.out.ext hy) (by omega))
  have HSS := Lib.hid (fun y (hy : Ext w1 y) => spec_ScoreFor (w := y) (ac := rc) (bc := tc) (cap := cap) (pc := pc) (qc := gc) (t := t) (HS.out.ext hy) (HP.out.ext hy) hpn (HF.out.ext hy) (by omega))
  have HRI := Lib.hid (fun y (hy : Ext w1 y) => impl_IsScoreRule (w := y) (ac := rc) (bc := tc) (cap := cap) (pc := pc) (HS.out.ext hy) (HP.out.ext hy) hpn)
  have HRS := Lib.hid (fun y (hy : Ext w1 y) => spec_IsScoreRule (w := y) (ac := rc) (bc := tc) (cap := cap) (pc := pc) (HS.out.ext hy) (HP.out.ext hy) hpn)
  have HTI := Lib.hid (fun y (hy : Ext w1 y) => impl_TotalPoints (w := y) (ac := rc) (bc := tc) (cap := cap) (pc := pc) (HS.out.ext hy) (HP.out.ext hy) hpn)
  have HTS := Lib.hid (fun y (hy : Ext w1 y) => spec_TotalPoints (w := y) (ac := rc) (bc := tc) (cap := cap) (pc := pc) (HS.out.ext hy) (HP.out.ext hy) hpn)
  unfold MapD.val RuleD.val at HSI HSL HSS HRI HRS HTI HTS
  clear HS HP HF
  obtain ⟨B, hB⟩ : ∃ B, B = (ruleB m xs r && ofB xs cs && decide (cs.length ≤ 20) && inB t 0 1000) := ⟨_, rfl⟩
  have hsc : gSc m xs r cs t = if B then .tuple #[.int .i64 (scoreI xs r cs t), .bool true] else .tuple #[.int .i64 0, .bool false] := by rw [hB]; rfl
  have htt : gTot m xs r = if ruleB m xs r then .tuple #[.int .i64 (sumU r.pts r.pts.length), .bool true] else .tuple #[.int .i64 0, .bool false] := rfl
  obtain ⟨s1, bl, e1⟩ : ∃ s1 bl, gSc m xs r cs (t + 1) = .tuple #[.int .i64 s1, .bool bl] := by unfold gSc; split <;> exact ⟨_, _, rfl⟩
  have HLT : Hid (B = true → ruleB m xs r = true ∧ (bl = true → s1 ≤ scoreI xs r cs t) ∧ scoreI xs r cs t ≤ sumU r.pts r.pts.length) := Lib.hid (fun hb => by
    rw [hB] at hb
    simp only [Bool.and_eq_true, decide_eq_true_eq] at hb
    have hi := inB_iff.1 hb.2
    refine ⟨hb.1.1.1, fun hbl => ?_, score_total hb.1.1.1 cs hi.1 hi.2⟩
    rw [hbl] at e1
    unfold gSc at e1
    split at e1
    · simp only [Value.tuple.injEq, Array.mk.injEq, List.cons.injEq, Value.int.injEq, true_and, and_true] at e1
      rw [← e1]; exact score_later hb.1.1.1 cs t
    · simp at e1)
  rw [e1] at HSL
  rw [hsc] at HSI HSS
  rw [htt] at HTI HTS
  clear hB hsc htt e1
  generalize ruleB m xs r = RB at *
  generalize scoreI xs r cs t = sc at *
  generalize sumU r.pts r.pts.length = su at *
  cases B
  · cases RB
    all_goals
      simp only [Bool.false_eq_true, if_false, if_true] at HSI HSS HTI HTS
      clear HLT HSL
      go_wp2_with fail
      refine (HSI.out _ HXW.out).mono ?_; rintro e w3 ⟨rfl, hx3⟩
      have q0 := hx3.cells q0
      have q1 := hx3.cells q1
      have q2 := hx3.cells q2
      have q3 := hx3.cells q3
      have b0 := hx3.cells b0
      have b1 := hx3.cells b1
      have b2 := hx3.cells b2
      have hsa := World.block_lt_of_cell? _ _ q0
      have hsb := World.block_lt_of_cell? _ _ b0
      simp only at hsa hsb
      have HX3 := Lib.hid (HXW.out.trans hx3)
      clear hx3 HSI
      go_wp2_with fail
      refine (HSS.out _ HX3.out).mono ?_; rintro e w4 ⟨rfl, hx4⟩
      have q0 := hx4.cells q0
      have q1 := hx4.cells q1
      have q2 := hx4.cells q2
      have q3 := hx4.cells q3
      have b0 := hx4.cells b0
      have b1 := hx4.cells b1
      have b2 := hx4.cells b2
      have hsa := World.block_lt_of_cell? _ _ q0
      have hsb := World.block_lt_of_cell? _ _ b0
      simp only at hsa hsb
      have HX4 := Lib.hid (HX3.out.trans hx4)
      clear hx4 HSS HX3
      go_wp2
      have gq0 := Grow.cells q0
      have gq1 := Grow.cells q1
      have gq2 := Grow.cells q2
      have gq3 := Grow.cells q3
      have gb0 := Grow.cells b0
      have gb1 := Grow.cells b1
      have gb2 := Grow.cells b2
      have HRI4 := Lib.hid (fun y (hy : Ext w4 y) => HRI.out y (HX4.out.trans hy))
      have HRS4 := Lib.hid (fun y (hy : Ext w4 y) => HRS.out y (HX4.out.trans hy))
      refine wp_region_ext (by kernel_rfl) (by kernel_rfl) ?_
      repeat (go_big_quiet_step ((first | (go_at_call 37; with_reducible exact Calls.ext_of (HRI4.out _ (Grow.h _))) | (go_at_call 38; with_reducible exact Calls.ext_of (HRS4.out _ (Grow.h _))))))
      refine wpQuiet_nil ?_
      rintro _ ⟨⟨w1, hx1⟩, rfl⟩
      clear gq0 gq1 gq2 gq3 gb0 gb1 gb2
      rename World => w5
      have q0 := hx1.cells q0
      have q1 := hx1.cells q1
      have q2 := hx1.cells q2
      have q3 := hx1.cells q3
      have b0 := hx1.cells b0
      have b1 := hx1.cells b1
      have b2 := hx1.cells b2
      have hsa := World.block_lt_of_cell? _ _ q0
      have hsb := World.block_lt_of_cell? _ _ b0
      simp only at hsa hsb
      have HX5 := Lib.hid (HX4.out.trans hx1)
      clear hx1 HRI4 HRS4 HRI HRS
      go_wp2_with fail
      refine (HTI.out _ HX5.out).mono ?_; rintro e w6 ⟨rfl, hx6⟩
      have q0 := hx6.cells q0
      have q1 := hx6.cells q1
      have q2 := hx6.cells q2
      have q3 := hx6.cells q3
      have b0 := hx6.cells b0
      have b1 := hx6.cells b1
      have b2 := hx6.cells b2
      have hsa := World.block_lt_of_cell? _ _ q0
      have hsb := World.block_lt_of_cell? _ _ b0
      simp only at hsa hsb
      have HX6 := Lib.hid (HX5.out.trans hx6)
      clear hx6 HTI
      go_wp2_with fail
      refine (HTS.out _ HX6.out).mono ?_; rintro e w7 ⟨rfl, hx7⟩
      have HXC := Lib.hid (HX1.out.trans (HX6.out.trans hx7))
      clear hx7 HTS HX6
      clear q0 q1 q2 q3 b0 b1 b2 hsa hsb
      go_upto_if 108 with fail
      go_cut [] (fun wc => Ext w wc)
      case first =>
        go_wp2_with fail
        go_meet
        exact HXC.out
      case rest =>
        have HXC := Lib.hid hcut
        clear hcut
        rename_i hK
        exact hK _ _ (part2 HR HM HBS HXC)
  · obtain ⟨rfl, hs1, hsu⟩ := HLT.out rfl
    have HS1 := Lib.hid hs1
    have hsn : ¬ su < sc := by omega
    simp only [if_true] at HSI HSS HTI HTS
    clear HLT hs1 hsu
    go_wp2_with fail
    refine (HSI.out _ HXW.out).mono ?_; rintro e w3 ⟨rfl, hx3⟩
    have q0 := hx3.cells q0
    have q1 := hx3.cells q1
    have q2 := hx3.cells q2
    have q3 := hx3.cells q3
    have b0 := hx3.cells b0
    have b1 := hx3.cells b1
    have b2 := hx3.cells b2
    have hsa := World.block_lt_of_cell? _ _ q0
    have hsb := World.block_lt_of_cell? _ _ b0
    simp only at hsa hsb
    have HX3 := Lib.hid (HXW.out.trans hx3)
    clear hx3 HSI
    go_wp2_with fail
    refine (HSS.out _ HX3.out).mono ?_; rintro e w4 ⟨rfl, hx4⟩
    have q0 := hx4.cells q0
    have q1 := hx4.cells q1
    have q2 := hx4.cells q2
    have q3 := hx4.cells q3
    have b0 := hx4.cells b0
    have b1 := hx4.cells b1
    have b2 := hx4.cells b2
    have hsa := World.block_lt_of_cell? _ _ q0
    have hsb := World.block_lt_of_cell? _ _ b0
    simp only at hsa hsb
    have HX4 := Lib.hid (HX3.out.trans hx4)
    clear hx4 HSS HX3
    go_wp2
    have gq0 := Grow.cells q0
    have gq1 := Grow.cells q1
    have gq2 := Grow.cells q2
    have gq3 := Grow.cells q3
    have gb0 := Grow.cells b0
    have gb1 := Grow.cells b1
    have gb2 := Grow.cells b2
    have HRI4 := Lib.hid (fun y (hy : Ext w4 y) => HRI.out y (HX4.out.trans hy))
    have HRS4 := Lib.hid (fun y (hy : Ext w4 y) => HRS.out y (HX4.out.trans hy))
    refine wp_region_ext (by kernel_rfl) (by kernel_rfl) ?_
    repeat (go_big_quiet_step ((first | (go_at_call 37; with_reducible exact Calls.ext_of (HRI4.out _ (Grow.h _))) | (go_at_call 38; with_reducible exact Calls.ext_of (HRS4.out _ (Grow.h _))))))
    refine wpQuiet_nil ?_
    rintro _ ⟨⟨w1, hx1⟩, rfl⟩
    clear gq0 gq1 gq2 gq3 gb0 gb1 gb2
    rename World => w5
    have q0 := hx1.cells q0
    have q1 := hx1.cells q1
    have q2 := hx1.cells q2
    have q3 := hx1.cells q3
    have b0 := hx1.cells b0
    have b1 := hx1.cells b1
    have b2 := hx1.cells b2
    have hsa := World.block_lt_of_cell? _ _ q0
    have hsb := World.block_lt_of_cell? _ _ b0
    simp only at hsa hsb
    have HX5 := Lib.hid (HX4.out.trans hx1)
    clear hx1 HRI4 HRS4 HRI HRS
    go_wp2_with fail
    refine (HTI.out _ HX5.out).mono ?_; rintro e w6 ⟨rfl, hx6⟩
    have q0 := hx6.cells q0
    have q1 := hx6.cells q1
    have q2 := hx6.cells q2
    have q3 := hx6.cells q3
    have b0 := hx6.cells b0
    have b1 := hx6.cells b1
    have b2 := hx6.cells b2
    have hsa := World.block_lt_of_cell? _ _ q0
    have hsb := World.block_lt_of_cell? _ _ b0
    simp only at hsa hsb
    have HX6 := Lib.hid (HX5.out.trans hx6)
    clear hx6 HTI
    go_wp2_with fail
    refine (HTS.out _ HX6.out).mono ?_; rintro e w7 ⟨rfl, hx7⟩
    have q0 := hx7.cells q0
    have q1 := hx7.cells q1
    have q2 := hx7.cells q2
    have q3 := hx7.cells q3
    have b0 := hx7.cells b0
    have b1 := hx7.cells b1
    have b2 := hx7.cells b2
    have hsa := World.block_lt_of_cell? _ _ q0
    have hsb := World.block_lt_of_cell? _ _ b0
    simp only at hsa hsb
    have HX7 := Lib.hid (HX6.out.trans hx7)
    clear hx7 HTS HX6
    go_upto_if 108 with fail
    go_cut [] (fun wc => Ext w wc)
    case first =>
      cases bl
      · go_wp2_with fail
        refine (HSL.out _ HX7.out).mono ?_; rintro e w8 ⟨rfl, hx8⟩
        have HX8 := Lib.hid (HX1.out.trans (HX7.out.trans hx8))
        clear hx8 HSL
        clear q0 q1 q2 q3 b0 b1 b2 hsa hsb
        go_wp2_with fail
        go_meet
        exact HX8.out
      · have hs1n : ¬ sc < s1 := by have := HS1.out rfl; omega
        go_wp2_with fail
        refine (HSL.out _ HX7.out).mono ?_; rintro e w8 ⟨rfl, hx8⟩
        have HX8 := Lib.hid (HX1.out.trans (HX7.out.trans hx8))
        clear hx8 HSL
        clear q0 q1 q2 q3 b0 b1 b2 hsa hsb
        go_wp2_with fail
        go_meet
        exact HX8.out
    case rest =>
      have HXC := Lib.hid hcut
      clear hcut
      rename_i hK
      exact hK _ _ (part2 HR HM HBS HXC)
set_option maxRecDepth 100000 in
set_option maxHeartbeats 8000000 in
theorem walk {co : Option Addr} {cc m : Nat} {bs : Nat → Nat} {w : World} (hr : RowAt w co 1 m (by8 bs)) (hm : m ≤ 9223372036854775807) (hb : ∀ k, bs k < 256) :
    Calls Try.prog 7 #[.slice co m cc] w fun e w' => e = .returned (.bool true) ∧ Ext w w' := by
  have HV := Lib.hid (laws_vBig (ao := co) (cap := cc) (w := w) hm)
  have HR := Lib.hid hr; have HM := Lib.hid hm; have HBS := Lib.hid hb
  clear hr hb
  by_cases hbig : 65536 < m
  · have HBIG : Hid (decide (65536 < m) = true) := Lib.hid (by simpa using hbig)
    clear hbig hm
    go_enter Try.func7, Try.ntmps7
    go_wp2_with fail
    refine HV.out.mono ?_; rintro e w1 ⟨rfl, rfl⟩
    rw [HBIG.out]
    clear HV HBIG
    go_wp2
    go_ret
    exact ⟨rfl, Ext.refl _⟩
  · have HBIG : Hid (decide (65536 < m) = false) := Lib.hid (by simpa using hbig)
    clear hbig hm
    go_enter Try.func7, Try.ntmps7
    go_upto_region 1 with fail
    go_cut [40] (fun b wc => b = .bool false ∧ Ext w wc)
    case first =>
      go_wp2_with fail
      refine HV.out.mono ?_; rintro e w1 ⟨rfl, rfl⟩
      rw [HBIG.out]
      clear HV HBIG
      go_wp2_with fail
      go_meet
      exact ⟨rfl, Ext.refl _⟩
    case rest =>
      obtain ⟨rfl, hcut⟩ := hcut
      generalize wc = w0 at hcut ⊢
      have HXC := Lib.hid hcut
      clear hcut
      go_upto_if 40 with fail
      go_cut [] (fun wc => Ext w wc)
      case first =>
        go_wp2_with fail
        go_meet
        exact HXC.out
      case rest =>
        have HXC := Lib.hid hcut
        clear hcut
        exact (‹∀ (a : Act) (w : World), Code.wp Try.prog _ _ a w → _›) _ _ (part1 HR HM HBS HXC)

set_option maxRecDepth 100000 in
theorem lifted (os : Os) (started : os.Started) (H : Type) (enc : TypeId × Value → H) :
    ReturnsInHanded {} Try.checked os 7 .any (Rows.fnScoresSpec.pre6 enc Try.prog Try.f7 Rows.fnScoresRow.domain false) (Rows.fnScoresSpec.post enc Try.prog Try.f7 false true false false) := by
  refine returnsInHanded_of_change (C := Try.checked) (by kernel_rfl) started (by kernel_rfl) Try.func7
    (ChangeSpec.witness6 (enc := enc) (C := Try.checked) false ⟨#[], #[.slice none 0 0], []⟩ 8 (by kernel_rfl) (by kernel_rfl) (by kernel_rfl) (by kernel_rfl)) ?_
  intro W base args ds gs before hval0 hW _ _
  have hval : ∀ (j : Nat) t v, Try.f7.params[j]? = some t → args[j]? = some v → Value.okWide Try.prog W .any base t v := hval0
  have hW' := hW
  obtain ⟨p, q, hA0, hV, rfl, hfz, hnd⟩ := hW
  have hA : DataW.TrodAll enc Try.prog W 0 (fun _ => true) true Try.f7.params.toList args.toList ds p := hA0
  rw [Try.params7] at hA hval
  obtain ⟨v0, vs0, d0, ds0, p0, q0, hargs, rfl, rfl, h0, r0⟩ := trodAll_cons hA
  obtain ⟨rfl, rfl, rfl⟩ := trodAll_nil r0
  obtain rfl : args = #[v0] := by cases args; simp_all
  obtain ⟨rfl, rfl⟩ := trodVars_none hV
  obtain ⟨ao0, cap0, m0, bs0, rfl, hl0, hr0, hw0⟩ := open_ByteS (hval 0 56 v0 rfl rfl) h0
  refine (walk hr0 hl0 hw0).mono fun e W' ⟨he, hx⟩ => ?_
  subst he
  exact ⟨_, rfl, law_post (by kernel_rfl) (by kernel_rfl) Try.underlying4 rfl rfl hW' rfl hx⟩

theorem holds : Rows.FnScoresSaid :=
  OpenClaim.holds_of_wide 7 Try.f7 rfl rfl rfl rfl rfl rfl rfl ⟨rfl, rfl, rfl, rfl, rfl⟩ rfl rfl rfl rfl rfl (by kernel_rfl) Try.func7 (by kernel_rfl)
    (of_decide_eq_true (by kernel_rfl)) (by unfold Func.isWrapper; first | (rw [if_pos (by decide +kernel)]; kernel_rfl) | (rw [if_neg (by decide +kernel)]; exact ⟨rfl, rfl⟩))
    (fun os started H enc _ => lifted os started H enc)

end Go.Proofs.Ytidcfohlhamgmaa.FnScores
