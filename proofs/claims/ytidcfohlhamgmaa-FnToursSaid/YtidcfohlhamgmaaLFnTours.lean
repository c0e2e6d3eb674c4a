/-
  Proved here: the law FnTours answers true for every input and leaves its arguments as they were.
  Conditions: none.
-/
import Derived.Test.YtidcfohlhamgmaaTourFa
import Derived.Test.YtidcfohlhamgmaaDrawX
import Derived.Test.YtidcfohlhamgmaaVeq
import Derived.Test.YtidcfohlhamgmaaTByteS
import Derived.IntWalk
import Derived.Deep.DrawnRows
import Derived.Deep.DeepCutAuto
import Derived.Deep.CutBlock
namespace Go.Proofs.Ytidcfohlhamgmaa.FnTours
open Go.ChangeShapes Go.WideShapes Go.ChangeAt Go.RowKit

/-- the code behind the first K statements -/
def dropS : Nat → Code → Code
  | 0, c => c
  | n + 1, .seq _ b => dropS n b
  | _ + 1, c => c
set_option maxRecDepth 100000 in
set_option maxHeartbeats 8000000 in
theorem part3 {co : Option Addr} {cc m : Nat} {bs : Nat → Nat} {w wc : World} {u1 u2 u3 u4 u5 u6 u7 u8 u9 u10 u11 u12 u13 u14 u15 u16 u17 u18 u19 u20 u21 u22 u23 u24 u25 u26 u27 u28 u29 u30 u31 u32 u33 u34 u35 u36 u37 u38 u39 u40 u41 u42 u43 u44 u45 u46 u47 u48 u49 u50 u51 u52 u53 u54 u55 u56 u57 u58 u59 u60 u61 u62 u63 u64 u65 u66 u67 u68 u69 u70 u71 u72 u73 u74 u75 u76 u77 u78 u79 u80 u81 u82 u83 u84 u85 u86 u87 u88 u89 u90 u91 u92 u93 u94 u95 u96 u97 u98 u99 u100 u101 u102 u103 u104 u105 u106 u107 u108 u109 u110 u111 u112 u113 u114 u115 u116 u117 u118 u119 u120 u121 u122 u123 u124 u125 u126 u127 u128 u129 u130 u131 u132 u133 u134 u135 u136 u137 u138 u139 u140 u141 u142 u143 u144 u145 u146 u147 u148 u149 u150 u151 u152 u153 u154 u155 u156 u157 u158 u159 u160 u161 u162 u163 u164 u165 u166 u167 u168 u169 u170 u171 u172 u173 u174 u175 u176 u177 u178 u179 u180 u181 u182 u183 u184 u185 u186 u187 u188 u189 u190 u191 u192 u193 u194 u195 u196 u197 u198 u199 u200 u201 u202 u203 u204 u205 u206 u207 u208 u209 u210 u211 u212 u213 u214 u215 u216 u217 u218 u219 u220 u221 u222 u223 u224 u225 u226 u227 u228 u229 u230 u231 u232 u233 u234 u235 u236 u237 u238 u239 u240 u241 : Value}
    (HR : Hid (RowAt w co 1 m (by8 bs))) (HM : Hid (m ≤ 9223372036854775807)) (HBS : Hid (∀ k, bs k < 256)) (HX0 : Hid (Ext w wc)) :
    Code.wp Try.prog (dropS 12 (Try.f8.body.getD .skip)) (bodyPost Try.prog Try.f8 fun e w' => e = .returned (.bool true) ∧ Ext w w') ⟨#[.slice co m cc, u1, u2, u3, u4, u5, u6, u7, u8, u9, u10, u11, u12, u13, u14, u15, u16, u17, u18, u19, u20, u21, u22, u23, u24, u25, u26, u27, u28, u29, u30, u31, u32, u33, u34, u35, u36, u37, u38, u39, u40, u41, u42, u43, u44, u45, u46, u47, u48, u49, u50, u51, u52, u53, u54, u55, u56, u57, u58, u59, u60, u61, u62, u63, u64, u65, u66, u67, u68, u69, u70, u71, u72, u73, u74, u75, u76, u77, u78, u79, u80, u81, u82, u83, u84, u85, u86, u87, u88, u89, u90, u91, u92, u93, u94, u95, u96, u97, u98, u99, u100, u101, u102, u103, u104, u105, u106, u107, u108, u109, u110, u111, u112, u113, u114, u115, u116, u117, u118, u119, u120, u121, u122, u123, u124, u125, u126, u127, u128, u129, u130, u131, u132, u133, u134, u135, u136, u137, u138, u139, u140, u141, u142, u143, u144, u145, u146, u147, u148, u149, u150, u151, u152, u153, u154, u155, u156, u157, u158, u159, u160, u161, u162, u163, u164, u165, u166, u167, u168, u169, u170, u171, u172, u173, u174, u175, u176, u177, u178, u179, u180, u181, u182, u183, u184, u185, u186, u187, u188, u189, u190, u191, u192, u193, u194, u195, u196, u197, u198, u199, u200, u201, u202, u203, u204, u205, u206, u207, u208, u209, u210, u211, u212, u213, u214, u215, u216, u217, u218, u219, u220, u221, u222, u223, u224, u225, u226, u227, u228, u229, u230, u231, u232, u233, u234, u235, u236, u237, u238, u239, u240, u241], []⟩ wc := by
  conv => arg 2; whnf
  have HD := Lib.hid (draw_greedy (cc := cc) (HR.out.ext HX0.out) HBS.out HM.out)
  go_wp2_with fail
  refine HD.out.mono ?_; rintro e w1 ⟨m, ro, rc, qo, tc, xs, co', cap, r, po, pc, x, rfl, hD⟩
  have HS := Lib.hid hD.site; have HP := Lib.hid hD.f4.row
  have hpn : r.pts.length ≤ 9223372036854775807 := by have := hD.l4; omega
  have hnil := hD.dr.nil3
  have HX1 := Lib.hid (HX0.out.trans hD.ext)
  clear hD HD HX0 HR HM HBS
  have q0 : ((w1.alloc (.cells #[.int .i64 m.wid, .int .i64 m.hei, .slice ro m.rise.length rc, .slice qo m.cost.length tc] 30)).alloc (.cells #[.slice po r.pts.length pc, .int .i64 r.lim, .int .i64 r.pen] 43)).cell? ⟨w1.heap.size, 0, none⟩ = some (.int .i64 m.wid) := by go_simp
  have q1 : ((w1.alloc (.cells #[.int .i64 m.wid, .int .i64 m.hei, .slice ro m.rise.length rc, .slice qo m.cost.length tc] 30)).alloc (.cells #[.slice po r.pts.length pc, .int .i64 r.lim, .int .i64 r.pen] 43)).cell? ⟨w1.heap.size, 1, none⟩ = some (.int .i64 m.hei) := by go_simp
  have q2 : ((w1.alloc (.cells #[.int .i64 m.wid, .int .i64 m.hei, .slice ro m.rise.length rc, .slice qo m.cost.length tc] 30)).alloc (.cells #[.slice po r.pts.length pc, .int .i64 r.lim, .int .i64 r.pen] 43)).cell? ⟨w1.heap.size, 2, none⟩ = some (.slice ro m.rise.length rc) := by go_simp
  have q3 : ((w1.alloc (.cells #[.int .i64 m.wid, .int .i64 m.hei, .slice ro m.rise.length rc, .slice qo m.cost.length tc] 30)).alloc (.cells #[.slice po r.pts.length pc, .int .i64 r.lim, .int .i64 r.pen] 43)).cell? ⟨w1.heap.size, 3, none⟩ = some (.slice qo m.cost.length tc) := by go_simp
  have b0 : ((w1.alloc (.cells #[.int .i64 m.wid, .int .i64 m.hei, .slice ro m.rise.length rc, .slice qo m.cost.length tc] 30)).alloc (.cells #[.slice po r.pts.length pc, .int .i64 r.lim, .int .i64 r.pen] 43)).cell? ⟨w1.heap.size + 1, 0, none⟩ = some (.slice po r.pts.length pc) := by go_simp
  have b1 : ((w1.alloc (.cells #[.int .i64 m.wid, .int .i64 m.hei, .slice ro m.rise.length rc, .slice qo m.cost.length tc] 30)).alloc (.cells #[.slice po r.pts.length pc, .int .i64 r.lim, .int .i64 r.pen] 43)).cell? ⟨w1.heap.size + 1, 1, none⟩ = some (.int .i64 r.lim) := by go_simp
  have b2 : ((w1.alloc (.cells #[.int .i64 m.wid, .int .i64 m.hei, .slice ro m.rise.length rc, .slice qo m.cost.length tc] 30)).alloc (.cells #[.slice po r.pts.length pc, .int .i64 r.lim, .int .i64 r.pen] 43)).cell? ⟨w1.heap.size + 1, 2, none⟩ = some (.int .i64 r.pen) := by go_simp
  have hxw : Ext w1 ((w1.alloc (.cells #[.int .i64 m.wid, .int .i64 m.hei, .slice ro m.rise.length rc, .slice qo m.cost.length tc] 30)).alloc (.cells #[.slice po r.pts.length pc, .int .i64 r.lim, .int .i64 r.pen] 43)) := ((Ext.refl _).alloc _).alloc _
  have hsa : w1.heap.size < ((w1.alloc (.cells #[.int .i64 m.wid, .int .i64 m.hei, .slice ro m.rise.length rc, .slice qo m.cost.length tc] 30)).alloc (.cells #[.slice po r.pts.length pc, .int .i64 r.lim, .int .i64 r.pen] 43)).heap.size := by simp; omega
  have hsb : w1.heap.size + 1 < ((w1.alloc (.cells #[.int .i64 m.wid, .int .i64 m.hei, .slice ro m.rise.length rc, .slice qo m.cost.length tc] 30)).alloc (.cells #[.slice po r.pts.length pc, .int .i64 r.lim, .int .i64 r.pen] 43)).heap.size := by simp
  unfold MapD.val RuleD.val
  go_upto_region 28 with fail
  generalize ((w1.alloc (.cells #[.int .i64 m.wid, .int .i64 m.hei, .slice ro m.rise.length rc, .slice qo m.cost.length tc] 30)).alloc (.cells #[.slice po r.pts.length pc, .int .i64 r.lim, .int .i64 r.pen] 43)) = w2 at *
  have HXW := Lib.hid hxw
  clear hxw

  have HGI := Lib.hid (fun y (hy : Ext w1 y) => impl_GreedyTour (w := y) (ac := rc) (bc := tc) (cap := cap) (pc := pc) (center := x) (HS.out.ext hy) (HP.out.ext hy) hpn hnil)
  have HGS := Lib.hid (fun y (hy : Ext w1 y) => spec_GreedyTour (w := y) (ac := rc) (bc := tc) (cap := cap) (pc := pc) (center := x) (HS.out.ext hy) (HP.out.ext hy) hpn)
  have hg8 := gr_len8 m xs r x
  unfold ResN MapD.val RuleD.val at HGI HGS
  generalize grT m xs r x = G at *
  generalize grB m xs r x = GB at *
  clear HS HP hnil
  go_wp2_with fail
  refine (HGI.out _ HXW.out).mono ?_; rintro e w3 ⟨go, gc, rfl, hx3, hF3⟩
  have q0 := hx3.cells q0
  have q1 := hx3.cells q1
  have q2 := hx3.cells q2
  have q3 := hx3.cells q3
  have b0 := hx3.cells b0
  have b1 := hx3.cells b1
  have b2 := hx3.cells b2
  have hsa := World.block_lt_of_cell? _ _ q0
  have hsb := World.block_lt_of_cell? _ _ b0
  simp only at hsa hsb
  have HX3 := Lib.hid (HXW.out.trans hx3); have HF3 := Lib.hid hF3.row
  clear hx3 HGI hF3
  go_wp2_with fail
  refine (HGS.out _ HX3.out).mono ?_; rintro e w4 ⟨go', gc', rfl, hx4, hF4⟩
  have HX4 := Lib.hid (HX3.out.trans hx4)
  have HVI := Lib.hid (fun y (hy : Ext w4 y) => laws_vInts (w := y) (ac := gc) (bc := gc') ((HF3.out.ext hx4).ext hy) (hF4.row.ext hy) (by omega))
  clear hx4 HGS HX3 hF4 HF3
  clear q0 q1 q2 q3 b0 b1 b2 hsa hsb
  cases GB
  all_goals
    go_wp2_with fail
    refine (HVI.out _ (Ext.refl _)).mono ?_; rintro e w5 ⟨rfl, hx5⟩
    have HX5 := Lib.hid (HX1.out.trans (HX4.out.trans hx5))
    clear hx5 HVI
    go_wp2
    go_ret
    exact ⟨rfl, HX5.out⟩
set_option maxRecDepth 100000 in
set_option maxHeartbeats 8000000 in
theorem part2 {co : Option Addr} {cc m : Nat} {bs : Nat → Nat} {w wc : World} {u1 u2 u3 u4 u5 u6 u7 u8 u9 u10 u11 u12 u13 u14 u15 u16 u17 u18 u19 u20 u21 u22 u23 u24 u25 u26 u27 u28 u29 u30 u31 u32 u33 u34 u35 u36 u37 u38 u39 u40 u41 u42 u43 u44 u45 u46 u47 u48 u49 u50 u51 u52 u53 u54 u55 u56 u57 u58 u59 u60 u61 u62 u63 u64 u65 u66 u67 u68 u69 u70 u71 u72 u73 u74 u75 u76 u77 u78 u79 u80 u81 u82 u83 u84 u85 u86 u87 u88 u89 u90 u91 u92 u93 u94 u95 u96 u97 u98 u99 u100 u101 u102 u103 u104 u105 u106 u107 u108 u109 u110 u111 u112 u113 u114 u115 u116 u117 u118 u119 u120 u121 u122 u123 u124 u125 u126 u127 u128 u129 u130 u131 u132 u133 u134 u135 u136 u137 u138 u139 u140 u141 u142 u143 u144 u145 u146 u147 u148 u149 u150 u151 u152 u153 u154 u155 u156 u157 u158 u159 u160 u161 u162 u163 u164 u165 u166 u167 u168 u169 u170 u171 u172 u173 u174 u175 u176 u177 u178 u179 u180 u181 u182 u183 u184 u185 u186 u187 u188 u189 u190 u191 u192 u193 u194 u195 u196 u197 u198 u199 u200 u201 u202 u203 u204 u205 u206 u207 u208 u209 u210 u211 u212 u213 u214 u215 u216 u217 u218 u219 u220 u221 u222 u223 u224 u225 u226 u227 u228 u229 u230 u231 u232 u233 u234 u235 u236 u237 u238 u239 u240 u241 : Value}
    (HR : Hid (RowAt w co 1 m (by8 bs))) (HM : Hid (m ≤ 9223372036854775807)) (HBS : Hid (∀ k, bs k < 256)) (HX0 : Hid (Ext w wc)) :
    Code.wp Try.prog (dropS 9 (Try.f8.body.getD .skip)) (bodyPost Try.prog Try.f8 fun e w' => e = .returned (.bool true) ∧ Ext w w') ⟨#[.slice co m cc, u1, u2, u3, u4, u5, u6, u7, u8, u9, u10, u11, u12, u13, u14, u15, u16, u17, u18, u19, u20, u21, u22, u23, u24, u25, u26, u27, u28, u29, u30, u31, u32, u33, u34, u35, u36, u37, u38, u39, u40, u41, u42, u43, u44, u45, u46, u47, u48, u49, u50, u51, u52, u53, u54, u55, u56, u57, u58, u59, u60, u61, u62, u63, u64, u65, u66, u67, u68, u69, u70, u71, u72, u73, u74, u75, u76, u77, u78, u79, u80, u81, u82, u83, u84, u85, u86, u87, u88, u89, u90, u91, u92, u93, u94, u95, u96, u97, u98, u99, u100, u101, u102, u103, u104, u105, u106, u107, u108, u109, u110, u111, u112, u113, u114, u115, u116, u117, u118, u119, u120, u121, u122, u123, u124, u125, u126, u127, u128, u129, u130, u131, u132, u133, u134, u135, u136, u137, u138, u139, u140, u141, u142, u143, u144, u145, u146, u147, u148, u149, u150, u151, u152, u153, u154, u155, u156, u157, u158, u159, u160, u161, u162, u163, u164, u165, u166, u167, u168, u169, u170, u171, u172, u173, u174, u175, u176, u177, u178, u179, u180, u181, u182, u183, u184, u185, u186, u187, u188, u189, u190, u191, u192, u193, u194, u195, u196, u197, u198, u199, u200, u201, u202, u203, u204, u205, u206, u207, u208, u209, u210, u211, u212, u213, u214, u215, u216, u217, u218, u219, u220, u221, u222, u223, u224, u225, u226, u227, u228, u229, u230, u231, u232, u233, u234, u235, u236, u237, u238, u239, u240, u241], []⟩ wc := by
  conv => arg 2; whnf
  have HD := Lib.hid (draw_tourtime (cc := cc) (HR.out.ext HX0.out) HBS.out HM.out)
  go_wp2_with fail
  refine HD.out.mono ?_; rintro e w1 ⟨m, ro, rc, qo, tc, xs, co', cap, x, cs, go, gc, rfl, hD, hxe, hcl, hF, hgc⟩
  have HS := Lib.hid hD.siteD
  have HX1 := Lib.hid (HX0.out.trans hxe)
  have HF := Lib.hid hF.row
  clear hD HD HX0 hF hxe
  have q0 : (w1.alloc (.cells #[.int .i64 m.wid, .int .i64 m.hei, .slice ro m.rise.length rc, .slice qo m.cost.length tc] 30)).cell? ⟨w1.heap.size, 0, none⟩ = some (.int .i64 m.wid) := by go_simp
  have q1 : (w1.alloc (.cells #[.int .i64 m.wid, .int .i64 m.hei, .slice ro m.rise.length rc, .slice qo m.cost.length tc] 30)).cell? ⟨w1.heap.size, 1, none⟩ = some (.int .i64 m.hei) := by go_simp
  have q2 : (w1.alloc (.cells #[.int .i64 m.wid, .int .i64 m.hei, .slice ro m.rise.length rc, .slice qo m.cost.length tc] 30)).cell? ⟨w1.heap.size, 2, none⟩ = some (.slice ro m.rise.length rc) := by go_simp
  have q3 : (w1.alloc (.cells #[.int .i64 m.wid, .int .i64 m.hei, .slice ro m.rise.length rc, .slice qo m.cost.length tc] 30)).cell? ⟨w1.heap.size, 3, none⟩ = some (.slice qo m.cost.length tc) := by go_simp
  have hxw : Ext w1 (w1.alloc (.cells #[.int .i64 m.wid, .int .i64 m.hei, .slice ro m.rise.length rc, .slice qo m.cost.length tc] 30)) := (Ext.refl _).alloc _
  have hsa : w1.heap.size < (w1.alloc (.cells #[.int .i64 m.wid, .int .i64 m.hei, .slice ro m.rise.length rc, .slice qo m.cost.length tc] 30)).heap.size := by simp
  unfold MapD.val
  go_upto_region 23 with fail
  generalize (w1.alloc (.cells #[.int .i64 m.wid, .int .i64 m.hei, .slice ro m.rise.length rc, .slice qo m.cost.length tc] 30)) = w2 at *
  have HXW := Lib.hid hxw
  clear hxw

  have HTI := Lib.hid (fun y (hy : Ext w1 y) => impl_TourTime (w := y) (ac := rc) (bc := tc) (cap := cap) (qc := gc) (center := x) (HS.out.ext hy) (HF.out.ext hy) (by omega) hgc.1)
  have HTS := Lib.hid (fun y (hy : Ext w1 y) => spec_TourTime (w := y) (ac := rc) (bc := tc) (cap := cap) (qc := gc) (center := x) (HS.out.ext hy) (HF.out.ext hy) (by omega) hgc.1)
  obtain ⟨t, b, e⟩ := tt_form m xs x cs
  rw [e] at HTI HTS
  unfold MapD.val at HTI HTS
  clear e HS HF
  go_wp2_with fail
  refine (HTI.out _ HXW.out).mono ?_; rintro e w3 ⟨rfl, hx3⟩
  have q0 := hx3.cells q0
  have q1 := hx3.cells q1
  have q2 := hx3.cells q2
  have q3 := hx3.cells q3
  have hsa := World.block_lt_of_cell? _ _ q0
  simp only at hsa
  have HX3 := Lib.hid (HXW.out.trans hx3)
  clear hx3 HTI
  go_wp2_with fail
  refine (HTS.out _ HX3.out).mono ?_; rintro e w4 ⟨rfl, hx4⟩
  have HX4 := Lib.hid (HX1.out.trans (HX3.out.trans hx4))
  clear hx4 HTS HX3 HX1
  clear q0 q1 q2 q3 hsa
  go_upto_if 210 with fail
  go_cut [] (fun wc => Ext w wc)
  case first =>
    cases b
    all_goals
      go_wp2_with fail
      go_meet
      exact HX4.out
  case rest =>
    have HXC := Lib.hid hcut
    clear hcut HX4
    rename_i hK
    exact hK _ _ (part3 HR HM HBS HXC)
set_option maxRecDepth 100000 in
set_option maxHeartbeats 8000000 in
theorem part1 {co : Option Addr} {cc m : Nat} {bs : Nat → Nat} {w wc : World} {u1 u2 u3 u4 u5 u6 u7 u8 u9 u10 u11 u12 u13 u14 u15 u16 u17 u18 u19 u20 u21 u22 u23 u24 u25 u26 u27 u28 u29 u30 u31 u32 u33 u34 u35 u36 u37 u38 u39 u40 u41 u42 u43 u44 u45 u46 u47 u48 u49 u50 u51 u52 u53 u54 u55 u56 u57 u58 u59 u60 u61 u62 u63 u64 u65 u66 u67 u68 u69 u70 u71 u72 u73 u74 u75 u76 u77 u78 u79 u80 u81 u82 u83 u84 u85 u86 u87 u88 u89 u90 u91 u92 u93 u94 u95 u96 u97 u98 u99 u100 u101 u102 u103 u104 u105 u106 u107 u108 u109 u110 u111 u112 u113 u114 u115 u116 u117 u118 u119 u120 u121 u122 u123 u124 u125 u126 u127 u128 u129 u130 u131 u132 u133 u134 u135 u136 u137 u138 u139 u140 u141 u142 u143 u144 u145 u146 u147 u148 u149 u150 u151 u152 u153 u154 u155 u156 u157 u158 u159 u160 u161 u162 u163 u164 u165 u166 u167 u168 u169 u170 u171 u172 u173 u174 u175 u176 u177 u178 u179 u180 u181 u182 u183 u184 u185 u186 u187 u188 u189 u190 u191 u192 u193 u194 u195 u196 u197 u198 u199 u200 u201 u202 u203 u204 u205 u206 u207 u208 u209 u210 u211 u212 u213 u214 u215 u216 u217 u218 u219 u220 u221 u222 u223 u224 u225 u226 u227 u228 u229 u230 u231 u232 u233 u234 u235 u236 u237 u238 u239 u240 u241 : Value}
    (HR : Hid (RowAt w co 1 m (by8 bs))) (HM : Hid (m ≤ 9223372036854775807)) (HBS : Hid (∀ k, bs k < 256)) (HX0 : Hid (Ext w wc)) :
    Code.wp Try.prog (dropS 2 (Try.f8.body.getD .skip)) (bodyPost Try.prog Try.f8 fun e w' => e = .returned (.bool true) ∧ Ext w w') ⟨#[.slice co m cc, u1, u2, u3, u4, u5, u6, u7, u8, u9, u10, u11, u12, u13, u14, u15, u16, u17, u18, u19, u20, u21, u22, u23, u24, u25, u26, u27, u28, u29, u30, u31, u32, u33, u34, u35, u36, u37, u38, u39, u40, u41, u42, u43, u44, u45, u46, u47, u48, u49, u50, u51, u52, u53, u54, u55, u56, u57, u58, u59, u60, u61, u62, u63, u64, u65, u66, u67, u68, u69, u70, u71, u72, u73, u74, u75, u76, u77, u78, u79, u80, u81, u82, u83, u84, u85, u86, u87, u88, u89, u90, u91, u92, u93, u94, u95, u96, u97, u98, u99, u100, u101, u102, u103, u104, u105, u106, u107, u108, u109, u110, u111, u112, u113, u114, u115, u116, u117, u118, u119, u120, u121, u122, u123, u124, u125, u126, u127, u128, u129, u130, u131, u132, u133, u134, u135, u136, u137, u138, u139, u140, u141, u142, u143, u144, u145, u146, u147, u148, u149, u150, u151, u152, u153, u154, u155, u156, u157, u158, u159, u160, u161, u162, u163, u164, u165, u166, u167, u168, u169, u170, u171, u172, u173, u174, u175, u176, u177, u178, u179, u180, u181, u182, u183, u184, u185, u186, u187, u188, u189, u190, u191, u192, u193, u194, u195, u196, u197, u198, u199, u200, u201, u202, u203, u204, u205, u206, u207, u208, u209, u210, u211, u212, u213, u214, u215, u216, u217, u218, u219, u220, u221, u222, u223, u224, u225, u226, u227, u228, u229, u230, u231, u232, u233, u234, u235, u236, u237, u238, u239, u240, u241], []⟩ wc := by
  conv => arg 2; whnf
  have HD := Lib.hid (draw_best (cc := cc) (HR.out.ext HX0.out) HBS.out HM.out)
  go_wp2_with fail
  refine HD.out.mono ?_; rintro e w1 ⟨m, ro, rc, qo, tc, xs, co', cap, r, po, pc, x, rfl, hD⟩
  have HS := Lib.hid hD.site; have HP := Lib.hid hD.f4.row
  have hpn : r.pts.length ≤ 9223372036854775807 := by have := hD.l4; omega
  have hnil := hD.dr.nil3
  have HX1 := Lib.hid (HX0.out.trans hD.ext)
  clear hD HD HX0
  have q0 : ((w1.alloc (.cells #[.int .i64 m.wid, .int .i64 m.hei, .slice ro m.rise.length rc, .slice qo m.cost.length tc] 30)).alloc (.cells #[.slice po r.pts.length pc, .int .i64 r.lim, .int .i64 r.pen] 43)).cell? ⟨w1.heap.size, 0, none⟩ = some (.int .i64 m.wid) := by go_simp
  have q1 : ((w1.alloc (.cells #[.int .i64 m.wid, .int .i64 m.hei, .slice ro m.rise.length rc, .slice qo m.cost.length tc] 30)).alloc (.cells #[.slice po r.pts.length pc, .int .i64 r.lim, .int .i64 r.pen] 43)).cell? ⟨w1.heap.size, 1, none⟩ = some (.int .i64 m.hei) := by go_simp
  have q2 : ((w1.alloc (.cells #[.int .i64 m.wid, .int .i64 m.hei, .slice ro m.rise.length rc, .slice qo m.cost.length tc] 30)).alloc (.cells #[.slice po r.pts.length pc, .int .i64 r.lim, .int .i64 r.pen] 43)).cell? ⟨w1.heap.size, 2, none⟩ = some (.slice ro m.rise.length rc) := by go_simp
  have q3 : ((w1.alloc (.cells #[.int .i64 m.wid, .int .i64 m.hei, .slice ro m.rise.length rc, .slice qo m.cost.length tc] 30)).alloc (.cells #[.slice po r.pts.length pc, .int .i64 r.lim, .int .i64 r.pen] 43)).cell? ⟨w1.heap.size, 3, none⟩ = some (.slice qo m.cost.length tc) := by go_simp
  have b0 : ((w1.alloc (.cells #[.int .i64 m.wid, .int .i64 m.hei, .slice ro m.rise.length rc, .slice qo m.cost.length tc] 30)).alloc (.cells #[.slice po r.pts.length pc, .int .i64 r.lim, .int .i64 r.pen] 43)).cell? ⟨w1.heap.size + 1, 0, none⟩ = some (.slice po r.pts.length pc) := by go_simp
  have b1 : ((w1.alloc (.cells #[.int .i64 m.wid, .int .i64 m.hei, .slice ro m.rise.length rc, .slice qo m.cost.length tc] 30)).alloc (.cells #[.slice po r.pts.length pc, .int .i64 r.lim, .int .i64 r.pen] 43)).cell? ⟨w1.heap.size + 1, 1, none⟩ = some (.int .i64 r.lim) := by go_simp
  have b2 : ((w1.alloc (.cells #[.int .i64 m.wid, .int .i64 m.hei, .slice ro m.rise.length rc, .slice qo m.cost.length tc] 30)).alloc (.cells #[.slice po r.pts.length pc, .int .i64 r.lim, .int .i64 r.pen] 43)).cell? ⟨w1.heap.size + 1, 2, none⟩ = some (.int .i64 r.pen) := by go_simp
  have hxw : Ext w1 ((w1.alloc (.cells #[.int .i64 m.wid, .int .i64 m.hei, .slice ro m.rise.length rc, .slice qo m.cost.length tc] 30)).alloc (.cells #[.slice po r.pts.length pc, .int .i64 r.lim, .int .i64 r.pen] 43)) := ((Ext.refl _).alloc _).alloc _
  have hsa : w1.heap.size < ((w1.alloc (.cells #[.int .i64 m.wid, .int .i64 m.hei, .slice ro m.rise.length rc, .slice qo m.cost.length tc] 30)).alloc (.cells #[.slice po r.pts.length pc, .int .i64 r.lim, .int .i64 r.pen] 43)).heap.size := by simp; omega
  have hsb : w1.heap.size + 1 < ((w1.alloc (.cells #[.int .i64 m.wid, .int .i64 m.hei, .slice ro m.rise.length rc, .slice qo m.cost.length tc] 30)).alloc (.cells #[.slice po r.pts.length pc, .int .i64 r.lim, .int .i64 r.pen] 43)).heap.size := by simp
  unfold MapD.val RuleD.val
  go_upto_region 4 with fail
  generalize ((w1.alloc (.cells #[.int .i64 m.wid, .int .i64 m.hei, .slice ro m.rise.length rc, .slice qo m.cost.length tc] 30)).alloc (.cells #[.slice po r.pts.length pc, .int .i64 r.lim, .int .i64 r.pen] 43)) = w2 at *
  have HXW := Lib.hid hxw
  clear hxw

  have HBI := Lib.hid (fun y (hy : Ext w1 y) => impl_BestTourC (w := y) (ac := rc) (bc := tc) (cap := cap) (pc := pc) (center := x) (HS.out.ext hy) (HP.out.ext hy) hpn hnil)
  have HBE := Lib.hid (fun y (hy : Ext w1 y) => spec_BestTour (w := y) (ac := rc) (bc := tc) (cap := cap) (pc := pc) (center := x) (HS.out.ext hy) (HP.out.ext hy) hpn)
  have HGI := Lib.hid (fun y (hy : Ext w1 y) => impl_GreedyTourC (w := y) (ac := rc) (bc := tc) (cap := cap) (pc := pc) (center := x) (HS.out.ext hy) (HP.out.ext hy) hpn hnil)
  have HGS := Lib.hid (fun y (hy : Ext w1 y) => spec_GreedyTour (w := y) (ac := rc) (bc := tc) (cap := cap) (pc := pc) (center := x) (HS.out.ext hy) (HP.out.ext hy) hpn)
  have HTO := Lib.hid (fun y (cs : List Int) (go : Option Addr) (gc : Nat) (hy : Ext w1 y) (hq : RowAt y go 1 cs.length (ic cs)) (hl : cs.length ≤ 8) (hc : cs.length ≤ gc) => impl_TourScore (w := y) (ac := rc) (bc := tc) (cap := cap) (pc := pc) (qc := gc) (center := x) (HS.out.ext hy) (HP.out.ext hy) hpn hq (by omega) hc)
  have HTT := Lib.hid (fun y (cs : List Int) (go : Option Addr) (gc : Nat) (hy : Ext w1 y) (hq : RowAt y go 1 cs.length (ic cs)) (hl : cs.length ≤ 8) (hc : cs.length ≤ gc) => impl_TourTime (w := y) (ac := rc) (bc := tc) (cap := cap) (qc := gc) (center := x) (HS.out.ext hy) hq (by omega) hc)
  have hg8 := gr_len8 m xs r x
  have hb5 := bs_len5 m xs r x
  have HBF := Lib.hid (fun h => bs_facts (m := m) (xs := xs) (r := r) (x := x) h)
  have HGF := Lib.hid (fun h => gr_facts (m := m) (xs := xs) (r := r) (x := x) h)
  unfold ResTI at HBI
  unfold ResT at HBE
  unfold ResNI at HGI
  unfold ResN at HGS
  unfold MapD.val RuleD.val at HBI HBE HGI HGS HTO
  unfold MapD.val at HTT
  clear HS HP hnil
  generalize (bsT m xs r x).1 = Lb at *
  generalize (bsT m xs r x).2 = Mb at *
  generalize grT m xs r x = G at *
  obtain ⟨BB, hBB⟩ : ∃ BB, BB = bsB m xs r x := ⟨_, rfl⟩
  obtain ⟨GB, hGB⟩ : ∃ GB, GB = grB m xs r x := ⟨_, rfl⟩
  rw [← hBB] at HBI HBE HBF
  rw [← hGB] at HGI HGS HBF HGF
  clear hBB hGB
  cases BB
  · clear HBF HTO
    cases GB
    · clear HGF HTT
      go_wp2_with fail
      refine (HBI.out _ HXW.out).mono ?_; rintro e w3 ⟨bo, bc, rfl, hx3, hF3, hc3⟩
      have q0 := hx3.cells q0
      have q1 := hx3.cells q1
      have q2 := hx3.cells q2
      have q3 := hx3.cells q3
      have b0 := hx3.cells b0
      have b1 := hx3.cells b1
      have b2 := hx3.cells b2
      have hsa := World.block_lt_of_cell? _ _ q0
      have hsb := World.block_lt_of_cell? _ _ b0
      simp only at hsa hsb
      have HX3 := Lib.hid (HXW.out.trans hx3); have HFB3 := Lib.hid hF3.row; have HC3 := Lib.hid hc3
      clear hx3 HBI hF3 hc3
      go_wp2_with fail
      refine (HBE.out _ HX3.out).mono ?_; rintro e w4 ⟨bo', bc', rfl, hx4, hF4⟩
      have q0 := hx4.cells q0
      have q1 := hx4.cells q1
      have q2 := hx4.cells q2
      have q3 := hx4.cells q3
      have b0 := hx4.cells b0
      have b1 := hx4.cells b1
      have b2 := hx4.cells b2
      have hsa := World.block_lt_of_cell? _ _ q0
      have hsb := World.block_lt_of_cell? _ _ b0
      simp only at hsa hsb
      have HX4 := Lib.hid (HX3.out.trans hx4); have HFB4 := Lib.hid (HFB3.out.ext hx4)
      have HVI := Lib.hid (fun y (hy : Ext w4 y) => laws_vInts (w := y) (ac := bc) (bc := bc') (HFB4.out.ext hy) (hF4.row.ext hy) (by omega))
      clear hx4 HBE HX3 hF4 HFB3
      go_wp2_with fail
      refine (HVI.out _ (Ext.refl _)).mono ?_; rintro e w5 ⟨rfl, hx5⟩
      have q0 := hx5.cells q0
      have q1 := hx5.cells q1
      have q2 := hx5.cells q2
      have q3 := hx5.cells q3
      have b0 := hx5.cells b0
      have b1 := hx5.cells b1
      have b2 := hx5.cells b2
      have hsa := World.block_lt_of_cell? _ _ q0
      have hsb := World.block_lt_of_cell? _ _ b0
      simp only at hsa hsb
      have HX5 := Lib.hid (HX4.out.trans hx5); have HFB5 := Lib.hid (HFB4.out.ext hx5)
      clear hx5 HVI HX4 HFB4
      go_wp2_with fail
      refine (HGI.out _ HX5.out).mono ?_; rintro e w6 ⟨go, gc, rfl, hx6, hF6, hc6⟩
      have q0 := hx6.cells q0
      have q1 := hx6.cells q1
      have q2 := hx6.cells q2
      have q3 := hx6.cells q3
      have b0 := hx6.cells b0
      have b1 := hx6.cells b1
      have b2 := hx6.cells b2
      have hsa := World.block_lt_of_cell? _ _ q0
      have hsb := World.block_lt_of_cell? _ _ b0
      simp only at hsa hsb
      have HX6 := Lib.hid (HX5.out.trans hx6); have HFB6 := Lib.hid (HFB5.out.ext hx6); have HFG6 := Lib.hid hF6.row; have HC6 := Lib.hid hc6
      clear hx6 HGI HX5 hF6 hc6 HFB5
      go_wp2_with fail
      refine (HGS.out _ HX6.out).mono ?_; rintro e w7 ⟨go', gc', rfl, hx7, hF7⟩
      have q0 := hx7.cells q0
      have q1 := hx7.cells q1
      have q2 := hx7.cells q2
      have q3 := hx7.cells q3
      have b0 := hx7.cells b0
      have b1 := hx7.cells b1
      have b2 := hx7.cells b2
      have hsa := World.block_lt_of_cell? _ _ q0
      have hsb := World.block_lt_of_cell? _ _ b0
      simp only at hsa hsb
      have HX7 := Lib.hid (HX6.out.trans hx7); have HFB7 := Lib.hid (HFB6.out.ext hx7); have HFG7 := Lib.hid (HFG6.out.ext hx7)
      have HVG := Lib.hid (fun y (hy : Ext w7 y) => laws_vInts (w := y) (ac := gc) (bc := gc') (HFG7.out.ext hy) (hF7.row.ext hy) (by omega))
      clear hx7 HGS HX6 hF7 HFB6 HFG6
      go_wp2_with fail
      refine (HVG.out _ (Ext.refl _)).mono ?_; rintro e w8 ⟨rfl, hx8⟩
      have q0 := hx8.cells q0
      have q1 := hx8.cells q1
      have q2 := hx8.cells q2
      have q3 := hx8.cells q3
      have b0 := hx8.cells b0
      have b1 := hx8.cells b1
      have b2 := hx8.cells b2
      have hsa := World.block_lt_of_cell? _ _ q0
      have hsb := World.block_lt_of_cell? _ _ b0
      simp only at hsa hsb
      have HX8 := Lib.hid (HX7.out.trans hx8); have HFB8 := Lib.hid (HFB7.out.ext hx8); have HFG8 := Lib.hid (HFG7.out.ext hx8)
      clear hx8 HVG HX7 HFB7 HFG7
      go_upto_if 163 with fail
      go_cut [] (fun wc => Ext w wc)
      case first =>
        clear q0 q1 q2 q3 b0 b1 b2 hsa hsb
        go_wp2_with fail
        go_meet
        exact HX1.out.trans HX8.out
      case rest =>
        have HXC := Lib.hid hcut
        clear hcut
        rename_i hK
        exact hK _ _ (part2 HR HM HBS HXC)
    · obtain ⟨t, htt, htl⟩ := HGF.out rfl
      have HFT := Lib.hid htt
      clear htt HGF
      go_wp2_with fail
      refine (HBI.out _ HXW.out).mono ?_; rintro e w3 ⟨bo, bc, rfl, hx3, hF3, hc3⟩
      have q0 := hx3.cells q0
      have q1 := hx3.cells q1
      have q2 := hx3.cells q2
      have q3 := hx3.cells q3
      have b0 := hx3.cells b0
      have b1 := hx3.cells b1
      have b2 := hx3.cells b2
      have hsa := World.block_lt_of_cell? _ _ q0
      have hsb := World.block_lt_of_cell? _ _ b0
      simp only at hsa hsb
      have HX3 := Lib.hid (HXW.out.trans hx3); have HFB3 := Lib.hid hF3.row; have HC3 := Lib.hid hc3
      clear hx3 HBI hF3 hc3
      go_wp2_with fail
      refine (HBE.out _ HX3.out).mono ?_; rintro e w4 ⟨bo', bc', rfl, hx4, hF4⟩
      have q0 := hx4.cells q0
      have q1 := hx4.cells q1
      have q2 := hx4.cells q2
      have q3 := hx4.cells q3
      have b0 := hx4.cells b0
      have b1 := hx4.cells b1
      have b2 := hx4.cells b2
      have hsa := World.block_lt_of_cell? _ _ q0
      have hsb := World.block_lt_of_cell? _ _ b0
      simp only at hsa hsb
      have HX4 := Lib.hid (HX3.out.trans hx4); have HFB4 := Lib.hid (HFB3.out.ext hx4)
      have HVI := Lib.hid (fun y (hy : Ext w4 y) => laws_vInts (w := y) (ac := bc) (bc := bc') (HFB4.out.ext hy) (hF4.row.ext hy) (by omega))
      clear hx4 HBE HX3 hF4 HFB3
      go_wp2_with fail
      refine (HVI.out _ (Ext.refl _)).mono ?_; rintro e w5 ⟨rfl, hx5⟩
      have q0 := hx5.cells q0
      have q1 := hx5.cells q1
      have q2 := hx5.cells q2
      have q3 := hx5.cells q3
      have b0 := hx5.cells b0
      have b1 := hx5.cells b1
      have b2 := hx5.cells b2
      have hsa := World.block_lt_of_cell? _ _ q0
      have hsb := World.block_lt_of_cell? _ _ b0
      simp only at hsa hsb
      have HX5 := Lib.hid (HX4.out.trans hx5); have HFB5 := Lib.hid (HFB4.out.ext hx5)
      clear hx5 HVI HX4 HFB4
      go_wp2_with fail
      refine (HGI.out _ HX5.out).mono ?_; rintro e w6 ⟨go, gc, rfl, hx6, hF6, hc6⟩
      have q0 := hx6.cells q0
      have q1 := hx6.cells q1
      have q2 := hx6.cells q2
      have q3 := hx6.cells q3
      have b0 := hx6.cells b0
      have b1 := hx6.cells b1
      have b2 := hx6.cells b2
      have hsa := World.block_lt_of_cell? _ _ q0
      have hsb := World.block_lt_of_cell? _ _ b0
      simp only at hsa hsb
      have HX6 := Lib.hid (HX5.out.trans hx6); have HFB6 := Lib.hid (HFB5.out.ext hx6); have HFG6 := Lib.hid hF6.row; have HC6 := Lib.hid hc6
      clear hx6 HGI HX5 hF6 hc6 HFB5
      go_wp2_with fail
      refine (HGS.out _ HX6.out).mono ?_; rintro e w7 ⟨go', gc', rfl, hx7, hF7⟩
      have q0 := hx7.cells q0
      have q1 := hx7.cells q1
      have q2 := hx7.cells q2
      have q3 := hx7.cells q3
      have b0 := hx7.cells b0
      have b1 := hx7.cells b1
      have b2 := hx7.cells b2
      have hsa := World.block_lt_of_cell? _ _ q0
      have hsb := World.block_lt_of_cell? _ _ b0
      simp only at hsa hsb
      have HX7 := Lib.hid (HX6.out.trans hx7); have HFB7 := Lib.hid (HFB6.out.ext hx7); have HFG7 := Lib.hid (HFG6.out.ext hx7)
      have HVG := Lib.hid (fun y (hy : Ext w7 y) => laws_vInts (w := y) (ac := gc) (bc := gc') (HFG7.out.ext hy) (hF7.row.ext hy) (by omega))
      clear hx7 HGS HX6 hF7 HFB6 HFG6
      go_wp2_with fail
      refine (HVG.out _ (Ext.refl _)).mono ?_; rintro e w8 ⟨rfl, hx8⟩
      have q0 := hx8.cells q0
      have q1 := hx8.cells q1
      have q2 := hx8.cells q2
      have q3 := hx8.cells q3
      have b0 := hx8.cells b0
      have b1 := hx8.cells b1
      have b2 := hx8.cells b2
      have hsa := World.block_lt_of_cell? _ _ q0
      have hsb := World.block_lt_of_cell? _ _ b0
      simp only at hsa hsb
      have HX8 := Lib.hid (HX7.out.trans hx8); have HFB8 := Lib.hid (HFB7.out.ext hx8); have HFG8 := Lib.hid (HFG7.out.ext hx8)
      clear hx8 HVG HX7 HFB7 HFG7
      go_upto_if 163 with fail
      go_cut [] (fun wc => Ext w wc)
      case first =>
        have ht9 := HTT.out w8 G go gc HX8.out HFG8.out (by omega) HC6.out
        rw [HFT.out] at ht9
        have HT9 := Lib.hid ht9
        clear ht9
        have htn : ¬ r.lim < t := by omega
        go_wp2_with fail
        refine HT9.out.mono ?_; rintro e we ⟨rfl, hxe⟩
        have q0 := hxe.cells q0
        have q1 := hxe.cells q1
        have q2 := hxe.cells q2
        have q3 := hxe.cells q3
        have b0 := hxe.cells b0
        have b1 := hxe.cells b1
        have b2 := hxe.cells b2
        have hsa := World.block_lt_of_cell? _ _ q0
        have hsb := World.block_lt_of_cell? _ _ b0
        simp only at hsa hsb
        have HXE := Lib.hid (HX1.out.trans (HX8.out.trans hxe))
        clear hxe HT9
        go_wp2_with fail
        go_meet
        exact HXE.out
      case rest =>
        have HXC := Lib.hid hcut
        clear hcut
        rename_i hK
        exact hK _ _ (part2 HR HM HBS HXC)
  · obtain ⟨hgt, hf1, ⟨o, hf2, hol⟩, hf3⟩ := HBF.out rfl
    subst hgt
    obtain ⟨t, htt, htl⟩ := HGF.out rfl
    have HFT := Lib.hid htt; have HF1 := Lib.hid hf1; have HF2 := Lib.hid hf2; have HF3' := Lib.hid hf3
    have hon : ¬ Mb < o := by omega
    clear htt HGF HBF hf1 hf2 hf3 hol
    go_wp2_with fail
    refine (HBI.out _ HXW.out).mono ?_; rintro e w3 ⟨bo, bc, rfl, hx3, hF3, hc3⟩
    have q0 := hx3.cells q0
    have q1 := hx3.cells q1
    have q2 := hx3.cells q2
    have q3 := hx3.cells q3
    have b0 := hx3.cells b0
    have b1 := hx3.cells b1
    have b2 := hx3.cells b2
    have hsa := World.block_lt_of_cell? _ _ q0
    have hsb := World.block_lt_of_cell? _ _ b0
    simp only at hsa hsb
    have HX3 := Lib.hid (HXW.out.trans hx3); have HFB3 := Lib.hid hF3.row; have HC3 := Lib.hid hc3
    clear hx3 HBI hF3 hc3
    go_wp2_with fail
    refine (HBE.out _ HX3.out).mono ?_; rintro e w4 ⟨bo', bc', rfl, hx4, hF4⟩
    have q0 := hx4.cells q0
    have q1 := hx4.cells q1
    have q2 := hx4.cells q2
    have q3 := hx4.cells q3
    have b0 := hx4.cells b0
    have b1 := hx4.cells b1
    have b2 := hx4.cells b2
    have hsa := World.block_lt_of_cell? _ _ q0
    have hsb := World.block_lt_of_cell? _ _ b0
    simp only at hsa hsb
    have HX4 := Lib.hid (HX3.out.trans hx4); have HFB4 := Lib.hid (HFB3.out.ext hx4)
    have HVI := Lib.hid (fun y (hy : Ext w4 y) => laws_vInts (w := y) (ac := bc) (bc := bc') (HFB4.out.ext hy) (hF4.row.ext hy) (by omega))
    clear hx4 HBE HX3 hF4 HFB3
    go_wp2_with fail
    refine (HVI.out _ (Ext.refl _)).mono ?_; rintro e w5 ⟨rfl, hx5⟩
    have q0 := hx5.cells q0
    have q1 := hx5.cells q1
    have q2 := hx5.cells q2
    have q3 := hx5.cells q3
    have b0 := hx5.cells b0
    have b1 := hx5.cells b1
    have b2 := hx5.cells b2
    have hsa := World.block_lt_of_cell? _ _ q0
    have hsb := World.block_lt_of_cell? _ _ b0
    simp only at hsa hsb
    have HX5 := Lib.hid (HX4.out.trans hx5); have HFB5 := Lib.hid (HFB4.out.ext hx5)
    clear hx5 HVI HX4 HFB4
    go_wp2_with fail
    refine (HGI.out _ HX5.out).mono ?_; rintro e w6 ⟨go, gc, rfl, hx6, hF6, hc6⟩
    have q0 := hx6.cells q0
    have q1 := hx6.cells q1
    have q2 := hx6.cells q2
    have q3 := hx6.cells q3
    have b0 := hx6.cells b0
    have b1 := hx6.cells b1
    have b2 := hx6.cells b2
    have hsa := World.block_lt_of_cell? _ _ q0
    have hsb := World.block_lt_of_cell? _ _ b0
    simp only at hsa hsb
    have HX6 := Lib.hid (HX5.out.trans hx6); have HFB6 := Lib.hid (HFB5.out.ext hx6); have HFG6 := Lib.hid hF6.row; have HC6 := Lib.hid hc6
    clear hx6 HGI HX5 hF6 hc6 HFB5
    go_wp2_with fail
    refine (HGS.out _ HX6.out).mono ?_; rintro e w7 ⟨go', gc', rfl, hx7, hF7⟩
    have q0 := hx7.cells q0
    have q1 := hx7.cells q1
    have q2 := hx7.cells q2
    have q3 := hx7.cells q3
    have b0 := hx7.cells b0
    have b1 := hx7.cells b1
    have b2 := hx7.cells b2
    have hsa := World.block_lt_of_cell? _ _ q0
    have hsb := World.block_lt_of_cell? _ _ b0
    simp only at hsa hsb
    have HX7 := Lib.hid (HX6.out.trans hx7); have HFB7 := Lib.hid (HFB6.out.ext hx7); have HFG7 := Lib.hid (HFG6.out.ext hx7)
    have HVG := Lib.hid (fun y (hy : Ext w7 y) => laws_vInts (w := y) (ac := gc) (bc := gc') (HFG7.out.ext hy) (hF7.row.ext hy) (by omega))
    clear hx7 HGS HX6 hF7 HFB6 HFG6
    go_wp2_with fail
    refine (HVG.out _ (Ext.refl _)).mono ?_; rintro e w8 ⟨rfl, hx8⟩
    have q0 := hx8.cells q0
    have q1 := hx8.cells q1
    have q2 := hx8.cells q2
    have q3 := hx8.cells q3
    have b0 := hx8.cells b0
    have b1 := hx8.cells b1
    have b2 := hx8.cells b2
    have hsa := World.block_lt_of_cell? _ _ q0
    have hsb := World.block_lt_of_cell? _ _ b0
    simp only at hsa hsb
    have HX8 := Lib.hid (HX7.out.trans hx8); have HFB8 := Lib.hid (HFB7.out.ext hx8); have HFG8 := Lib.hid (HFG7.out.ext hx8)
    clear hx8 HVG HX7 HFB7 HFG7
    go_upto_if 107 with fail
    go_cut [] (fun wc => Ext w8 wc)
    case first =>
      have h9 := HTO.out w8 Lb bo bc HX8.out HFB8.out (by omega) HC3.out
      rw [HF1.out] at h9
      have H9 := Lib.hid h9
      clear h9
      go_wp2_with fail
      refine H9.out.mono ?_; rintro e w9 ⟨rfl, hx9⟩
      have q0 := hx9.cells q0
      have q1 := hx9.cells q1
      have q2 := hx9.cells q2
      have q3 := hx9.cells q3
      have b0 := hx9.cells b0
      have b1 := hx9.cells b1
      have b2 := hx9.cells b2
      have hsa := World.block_lt_of_cell? _ _ q0
      have hsb := World.block_lt_of_cell? _ _ b0
      simp only at hsa hsb
      have HX9 := Lib.hid (HX8.out.trans hx9)
      have ha := HTO.out w9 G go gc HX9.out (HFG8.out.ext hx9) (by omega) HC6.out
      rw [HF2.out] at ha
      have HA := Lib.hid ha
      clear ha H9
      have HX89 := Lib.hid hx9
      clear hx9
      go_wp2_with fail
      refine HA.out.mono ?_; rintro e wa ⟨rfl, hxa⟩
      have q0 := hxa.cells q0
      have q1 := hxa.cells q1
      have q2 := hxa.cells q2
      have q3 := hxa.cells q3
      have b0 := hxa.cells b0
      have b1 := hxa.cells b1
      have b2 := hxa.cells b2
      have hsa := World.block_lt_of_cell? _ _ q0
      have hsb := World.block_lt_of_cell? _ _ b0
      simp only at hsa hsb
      have HXA := Lib.hid (HX9.out.trans hxa)
      have HX8A := Lib.hid (HX89.out.trans hxa)
      have hq := fun y (hy : Ext wa y) => HTO.out y [] (some ⟨wa.heap.size, 0, none⟩) 0 (HXA.out.trans hy) (fun h => absurd h (by simp)) (Nat.zero_le _) (Nat.le_refl _)
      rw [HF3'.out] at hq
      have HQ := Lib.hid (show ∀ y, Ext wa y → Calls Try.prog 22 #[.agg #[.int .i64 m.wid, .int .i64 m.hei, .slice ro m.rise.length rc, .slice qo m.cost.length tc], .slice co' xs.length cap, .agg #[.slice po r.pts.length pc, .int .i64 r.lim, .int .i64 r.pen], .int .i64 x, .slice (some ⟨wa.heap.size, 0, none⟩) 0 0] y (fun e w' => e = .returned (.tuple #[.int .i64 0, .bool true]) ∧ Ext y w') from hq)
      clear hq hxa HA
      go_wp2_with fail
      refine (HQ.out _ ((Ext.refl _).alloc _)).mono ?_; rintro e wb ⟨rfl, hxb⟩
      have HXB := Lib.hid (HX8A.out.trans (((Ext.refl _).alloc _).trans hxb))
      clear hxb HQ
      clear q0 q1 q2 q3 b0 b1 b2 hsa hsb
      go_wp2_with fail
      go_meet
      exact HXB.out
    case rest =>
    have HX8W := Lib.hid hcut
    clear hcut
    rename World => wd
    have q0 := HX8W.out.cells q0
    have q1 := HX8W.out.cells q1
    have q2 := HX8W.out.cells q2
    have q3 := HX8W.out.cells q3
    have b0 := HX8W.out.cells b0
    have b1 := HX8W.out.cells b1
    have b2 := HX8W.out.cells b2
    have hsa := World.block_lt_of_cell? _ _ q0
    have hsb := World.block_lt_of_cell? _ _ b0
    simp only at hsa hsb
    have HX9 := Lib.hid (HX8.out.trans HX8W.out)
    have HFGD := Lib.hid (HFG8.out.ext HX8W.out)
    go_upto_if 163 with fail
    go_cut [] (fun wc => Ext w wc)
    case first =>
      have ht9 := HTT.out wd G go gc HX9.out HFGD.out (by omega) HC6.out
      rw [HFT.out] at ht9
      have HT9 := Lib.hid ht9
      clear ht9
      have htn : ¬ r.lim < t := by omega
      go_wp2_with fail
      refine HT9.out.mono ?_; rintro e we ⟨rfl, hxe⟩
      have q0 := hxe.cells q0
      have q1 := hxe.cells q1
      have q2 := hxe.cells q2
      have q3 := hxe.cells q3
      have b0 := hxe.cells b0
      have b1 := hxe.cells b1
      have b2 := hxe.cells b2
      have hsa := World.block_lt_of_cell? _ _ q0
      have hsb := World.block_lt_of_cell? _ _ b0
      simp only at hsa hsb
      have HXE := Lib.hid (HX1.out.trans (HX9.out.trans hxe))
      clear hxe HT9
      go_wp2_with fail
      go_meet
      exact HXE.out
    case rest =>
      have HXC := Lib.hid hcut
      clear hcut
      rename_i hK
      exact hK _ _ (part2 HR HM HBS HXC)
set_option maxRecDepth 100000 in
set_option maxHeartbeats 8000000 in
theorem walk {co : Option Addr} {cc m : Nat} {bs : Nat → Nat} {w : World} (hr : RowAt w co 1 m (by8 bs)) (hm : m ≤ 9223372036854775807) (hb : ∀ k, bs k < 256) :
    Calls Try.prog 8 #[.slice co m cc] w fun e w' => e = .returned (.bool true) ∧ Ext w w' := by
  have HV := Lib.hid (laws_vBig (ao := co) (cap := cc) (w := w) hm)
  have HR := Lib.hid hr; have HM := Lib.hid hm; have HBS := Lib.hid hb
  clear hr hb
  by_cases hbig : 65536 < m
  · have HBIG : Hid (decide (65536 < m) = true) := Lib.hid (by simpa using hbig)
    clear hbig hm
    go_enter Try.func8, Try.ntmps8
    go_wp2_with fail
    refine HV.out.mono ?_; rintro e w1 ⟨rfl, rfl⟩
    rw [HBIG.out]
    clear HV HBIG
    go_wp2
    go_ret
    exact ⟨rfl, Ext.refl _⟩
  · have HBIG : Hid (decide (65536 < m) = false) := Lib.hid (by simpa using hbig)
    clear hbig hm
    go_enter Try.func8, Try.ntmps8
    go_upto_region 1 with fail
    go_cut [42] (fun b wc => b = .bool false ∧ Ext w wc)
    case first =>
      go_wp2_with fail
      refine HV.out.mono ?_; rintro e w1 ⟨rfl, rfl⟩
      rw [HBIG.out]
      clear HV HBIG
      go_wp2_with fail
      go_meet
      exact ⟨rfl, Ext.refl _⟩
    case rest =>
      obtain ⟨rfl, hcut⟩ := hcut
      generalize wc = w0 at hcut ⊢
      have HXC := Lib.hid hcut
      clear hcut
      go_upto_if 42 with fail
      go_cut [] (fun wc => Ext w wc)
      case first =>
        go_wp2_with fail
        go_meet
        exact HXC.out
      case rest =>
        have HXC := Lib.hid hcut
        clear hcut
        exact (‹∀ (a : Act) (w : World), Code.wp Try.prog _ _ a w → _›) _ _ (part1 HR HM HBS HXC)

set_option maxRecDepth 100000 in
theorem lifted (os : Os) (started : os.Started) (H : Type) (enc : TypeId × Value → H) :
    ReturnsInHanded {} Try.checked os 8 .any (Rows.fnToursSpec.pre6 enc Try.prog Try.f8 Rows.fnToursRow.domain false) (Rows.fnToursSpec.post enc Try.prog Try.f8 false true false false) := by
  refine returnsInHanded_of_change (C := Try.checked) (by kernel_rfl) started (by kernel_rfl) Try.func8
    (ChangeSpec.witness6 (enc := enc) (C := Try.checked) false ⟨#[], #[.slice none 0 0], []⟩ 8 (by kernel_rfl) (by kernel_rfl) (by kernel_rfl) (by kernel_rfl)) ?_
  intro W base args ds gs before hval0 hW _ _
  have hval : ∀ (j : Nat) t v, Try.f8.params[j]? = some t → args[j]? = some v → Value.okWide Try.prog W .any base t v := hval0
  have hW' := hW
  obtain ⟨p, q, hA0, hV, rfl, hfz, hnd⟩ := hW
  have hA : DataW.TrodAll enc Try.prog W 0 (fun _ => true) true Try.f8.params.toList args.toList ds p := hA0
  rw [Try.params8] at hA hval
  obtain ⟨v0, vs0, d0, ds0, p0, q0, hargs, rfl, rfl, h0, r0⟩ := trodAll_cons hA
  obtain ⟨rfl, rfl, rfl⟩ := trodAll_nil r0
  obtain rfl : args = #[v0] := by cases args; simp_all
  obtain ⟨rfl, rfl⟩ := trodVars_none hV
  obtain ⟨ao0, cap0, m0, bs0, rfl, hl0, hr0, hw0⟩ := open_ByteS (hval 0 56 v0 rfl rfl) h0
  refine (walk hr0 hl0 hw0).mono fun e W' ⟨he, hx⟩ => ?_
  subst he
  exact ⟨_, rfl, law_post (by kernel_rfl) (by kernel_rfl) Try.underlying4 rfl rfl hW' rfl hx⟩

theorem holds : Rows.FnToursSaid :=
  OpenClaim.holds_of_wide 8 Try.f8 rfl rfl rfl rfl rfl rfl rfl ⟨rfl, rfl, rfl, rfl, rfl⟩ rfl rfl rfl rfl rfl (by kernel_rfl) Try.func8 (by kernel_rfl)
    (of_decide_eq_true (by kernel_rfl)) (by unfold Func.isWrapper; first | (rw [if_pos (by decide +kernel)]; kernel_rfl) | (rw [if_neg (by decide +kernel)]; exact ⟨rfl, rfl⟩))
    (fun os started H enc _ => lifted os started H enc)

end Go.Proofs.Ytidcfohlhamgmaa.FnTours
