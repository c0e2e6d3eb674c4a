/-
  Proved here: the law FnEntries answers true for every input and leaves its arguments as they were.
  Conditions: none.
-/
import Derived.Test.YtkejhhflpnfepaaReq
import Derived.Test.YtkejhhflpnfepaaEntLaw
import Derived.Test.YtkejhhflpnfepaaDrawE
import Derived.Test.YtkejhhflpnfepaaEnter2
import Derived.Test.YtkejhhflpnfepaaRef
import Derived.Test.YtkejhhflpnfepaaTByteS
import Derived.IntWalk
import Derived.Deep.DrawnRows
import Derived.Deep.DeepCutAuto
import Derived.Deep.CutBlock
namespace Go.Proofs.Ytkejhhflpnfepaa.FnEntries
open Go.ChangeShapes Go.WideShapes Go.ChangeAt Go.RowKit

/-- the code behind the first K statements -/
def dropS : Nat → Code → Code
  | 0, c => c
  | n + 1, .seq _ b => dropS n b
  | _ + 1, c => c
set_option maxRecDepth 100000 in
set_option maxHeartbeats 8000000 in
theorem part6 {co : Option Addr} {cc m : Nat} {bs : Nat → Nat} {w wc : World} {u1 u2 u3 u4 u5 u6 u7 u8 u9 u10 u11 u12 u13 u14 u15 u16 u17 u18 u19 u20 u21 u22 u23 u24 u25 u26 u27 u28 u29 u30 u31 u32 u33 u34 u35 u36 u37 u38 u39 u40 u41 u42 u43 u44 u45 u46 u47 u48 u49 u50 u51 u52 u53 u54 u55 u56 u57 u58 u59 u60 u61 u62 u63 u64 u65 u66 u67 u68 u69 u70 u71 u72 u73 u74 u75 u76 u77 u78 u79 u80 u81 u82 u83 u84 u85 u86 u87 u88 u89 u90 u91 u92 u93 u94 u95 u96 u97 u98 u99 u100 u101 u102 u103 u104 u105 u106 u107 u108 u109 u110 u111 u112 u113 u114 u115 u116 u117 u118 u119 u120 u121 u122 u123 u124 u125 u126 u127 u128 u129 u130 u131 u132 u133 u134 u135 u136 u137 u138 u139 u140 u141 u142 u143 u144 u145 u146 u147 u148 u149 u150 u151 u152 u153 u154 u155 u156 u157 u158 u159 u160 u161 u162 u163 u164 u165 u166 u167 u168 u169 u170 u171 u172 u173 u174 u175 u176 u177 u178 u179 u180 u181 u182 u183 u184 u185 u186 u187 u188 u189 u190 u191 u192 u193 u194 u195 u196 u197 u198 u199 u200 u201 u202 u203 u204 u205 u206 u207 u208 u209 u210 u211 u212 u213 u214 u215 u216 u217 u218 u219 u220 u221 u222 u223 u224 u225 u226 u227 u228 u229 u230 u231 u232 u233 u234 u235 u236 u237 u238 u239 u240 u241 u242 u243 u244 u245 u246 u247 u248 u249 u250 u251 u252 u253 u254 u255 u256 u257 u258 u259 u260 u261 u262 u263 u264 u265 u266 u267 u268 u269 u270 u271 u272 u273 u274 u275 u276 u277 u278 u279 u280 u281 u282 u283 u284 u285 u286 u287 u288 u289 u290 u291 u292 u293 u294 u295 u296 u297 u298 u299 : Value}
    (HR : Hid (RowAt w co 1 m (by8 bs))) (HM : Hid (m ≤ 9223372036854775807)) (HBS : Hid (∀ k, bs k < 256)) (HX0 : Hid (Ext w wc)) :
    Code.wp Try.prog (dropS 18 (Try.f3.body.getD .skip)) (bodyPost Try.prog Try.f3 fun e w' => e = .returned (.bool true) ∧ Ext w w') ⟨#[.slice co m cc, u1, u2, u3, u4, u5, u6, u7, u8, u9, u10, u11, u12, u13, u14, u15, u16, u17, u18, u19, u20, u21, u22, u23, u24, u25, u26, u27, u28, u29, u30, u31, u32, u33, u34, u35, u36, u37, u38, u39, u40, u41, u42, u43, u44, u45, u46, u47, u48, u49, u50, u51, u52, u53, u54, u55, u56, u57, u58, u59, u60, u61, u62, u63, u64, u65, u66, u67, u68, u69, u70, u71, u72, u73, u74, u75, u76, u77, u78, u79, u80, u81, u82, u83, u84, u85, u86, u87, u88, u89, u90, u91, u92, u93, u94, u95, u96, u97, u98, u99, u100, u101, u102, u103, u104, u105, u106, u107, u108, u109, u110, u111, u112, u113, u114, u115, u116, u117, u118, u119, u120, u121, u122, u123, u124, u125, u126, u127, u128, u129, u130, u131, u132, u133, u134, u135, u136, u137, u138, u139, u140, u141, u142, u143, u144, u145, u146, u147, u148, u149, u150, u151, u152, u153, u154, u155, u156, u157, u158, u159, u160, u161, u162, u163, u164, u165, u166, u167, u168, u169, u170, u171, u172, u173, u174, u175, u176, u177, u178, u179, u180, u181, u182, u183, u184, u185, u186, u187, u188, u189, u190, u191, u192, u193, u194, u195, u196, u197, u198, u199, u200, u201, u202, u203, u204, u205, u206, u207, u208, u209, u210, u211, u212, u213, u214, u215, u216, u217, u218, u219, u220, u221, u222, u223, u224, u225, u226, u227, u228, u229, u230, u231, u232, u233, u234, u235, u236, u237, u238, u239, u240, u241, u242, u243, u244, u245, u246, u247, u248, u249, u250, u251, u252, u253, u254, u255, u256, u257, u258, u259, u260, u261, u262, u263, u264, u265, u266, u267, u268, u269, u270, u271, u272, u273, u274, u275, u276, u277, u278, u279, u280, u281, u282, u283, u284, u285, u286, u287, u288, u289, u290, u291, u292, u293, u294, u295, u296, u297, u298, u299], []⟩ wc := by
  conv => arg 2; whnf
  have HD := Lib.hid (draw_refund (cc := cc) (HR.out.ext HX0.out) HBS.out HM.out)
  go_wp2_with fail
  refine HD.out.mono ?_; rintro e w1 ⟨b, off, cap, xs, r, v, rfl, hD, hx⟩
  have hl13 := hD.len
  have HX1 := Lib.hid (HX0.out.trans hx)
  have HI := Lib.hid (fun y (hy : Ext w1 y) => impl_RefundFor (w := y) (cap := cap) (x := r) (d := v) (hD.fresh.row.ext hy) (by omega))
  have HS := Lib.hid (fun y (hy : Ext w1 y) => spec_RefundFor (w := y) (cap := cap) (x := r) (d := v) (hD.fresh.row.ext hy) (by omega) hD.caps)
  have hlen := refL_len13 (r := r) (d := v) hl13
  clear hD HD HX0 HR HM HBS hx
  unfold ResR at HI HS
  generalize refL xs r v = M at *
  generalize refP xs r v = P at *
  generalize refB xs r v = N at *
  go_wp2_with fail
  refine (HI.out _ (Ext.refl _)).mono ?_; rintro e w2 ⟨mo, mc, rfl, hx2, hF2⟩
  have HX2 := Lib.hid hx2; have HF2 := Lib.hid hF2.row
  clear hx2 hF2 HI
  go_wp2_with fail
  refine (HS.out _ HX2.out).mono ?_; rintro e w3 ⟨no, nc, rfl, hx3, hF3⟩
  have HX3 := Lib.hid (HX1.out.trans (HX2.out.trans hx3)); have HRE := Lib.hid (laws_rEntries (ac := mc) (bc := nc) (HF2.out.ext hx3) hF3.row (by omega))
  clear hx3 hF3 HS HF2 HX2 HX1
  have hNN : (N == N) = true := by simp
  have hPP : (P == P) = true := by simp
  go_wp2_with fail
  refine HRE.out.mono ?_; rintro e w4 ⟨rfl, hx4⟩
  have HX4 := Lib.hid (HX3.out.trans hx4)
  clear hx4 HRE HX3
  go_wp2
  go_ret
  exact ⟨rfl, HX4.out⟩
set_option maxRecDepth 100000 in
set_option maxHeartbeats 8000000 in
theorem part5 {co : Option Addr} {cc m : Nat} {bs : Nat → Nat} {w wc : World} {u1 u2 u3 u4 u5 u6 u7 u8 u9 u10 u11 u12 u13 u14 u15 u16 u17 u18 u19 u20 u21 u22 u23 u24 u25 u26 u27 u28 u29 u30 u31 u32 u33 u34 u35 u36 u37 u38 u39 u40 u41 u42 u43 u44 u45 u46 u47 u48 u49 u50 u51 u52 u53 u54 u55 u56 u57 u58 u59 u60 u61 u62 u63 u64 u65 u66 u67 u68 u69 u70 u71 u72 u73 u74 u75 u76 u77 u78 u79 u80 u81 u82 u83 u84 u85 u86 u87 u88 u89 u90 u91 u92 u93 u94 u95 u96 u97 u98 u99 u100 u101 u102 u103 u104 u105 u106 u107 u108 u109 u110 u111 u112 u113 u114 u115 u116 u117 u118 u119 u120 u121 u122 u123 u124 u125 u126 u127 u128 u129 u130 u131 u132 u133 u134 u135 u136 u137 u138 u139 u140 u141 u142 u143 u144 u145 u146 u147 u148 u149 u150 u151 u152 u153 u154 u155 u156 u157 u158 u159 u160 u161 u162 u163 u164 u165 u166 u167 u168 u169 u170 u171 u172 u173 u174 u175 u176 u177 u178 u179 u180 u181 u182 u183 u184 u185 u186 u187 u188 u189 u190 u191 u192 u193 u194 u195 u196 u197 u198 u199 u200 u201 u202 u203 u204 u205 u206 u207 u208 u209 u210 u211 u212 u213 u214 u215 u216 u217 u218 u219 u220 u221 u222 u223 u224 u225 u226 u227 u228 u229 u230 u231 u232 u233 u234 u235 u236 u237 u238 u239 u240 u241 u242 u243 u244 u245 u246 u247 u248 u249 u250 u251 u252 u253 u254 u255 u256 u257 u258 u259 u260 u261 u262 u263 u264 u265 u266 u267 u268 u269 u270 u271 u272 u273 u274 u275 u276 u277 u278 u279 u280 u281 u282 u283 u284 u285 u286 u287 u288 u289 u290 u291 u292 u293 u294 u295 u296 u297 u298 u299 : Value}
    (HR : Hid (RowAt w co 1 m (by8 bs))) (HM : Hid (m ≤ 9223372036854775807)) (HBS : Hid (∀ k, bs k < 256)) (HX0 : Hid (Ext w wc)) :
    Code.wp Try.prog (dropS 14 (Try.f3.body.getD .skip)) (bodyPost Try.prog Try.f3 fun e w' => e = .returned (.bool true) ∧ Ext w w') ⟨#[.slice co m cc, u1, u2, u3, u4, u5, u6, u7, u8, u9, u10, u11, u12, u13, u14, u15, u16, u17, u18, u19, u20, u21, u22, u23, u24, u25, u26, u27, u28, u29, u30, u31, u32, u33, u34, u35, u36, u37, u38, u39, u40, u41, u42, u43, u44, u45, u46, u47, u48, u49, u50, u51, u52, u53, u54, u55, u56, u57, u58, u59, u60, u61, u62, u63, u64, u65, u66, u67, u68, u69, u70, u71, u72, u73, u74, u75, u76, u77, u78, u79, u80, u81, u82, u83, u84, u85, u86, u87, u88, u89, u90, u91, u92, u93, u94, u95, u96, u97, u98, u99, u100, u101, u102, u103, u104, u105, u106, u107, u108, u109, u110, u111, u112, u113, u114, u115, u116, u117, u118, u119, u120, u121, u122, u123, u124, u125, u126, u127, u128, u129, u130, u131, u132, u133, u134, u135, u136, u137, u138, u139, u140, u141, u142, u143, u144, u145, u146, u147, u148, u149, u150, u151, u152, u153, u154, u155, u156, u157, u158, u159, u160, u161, u162, u163, u164, u165, u166, u167, u168, u169, u170, u171, u172, u173, u174, u175, u176, u177, u178, u179, u180, u181, u182, u183, u184, u185, u186, u187, u188, u189, u190, u191, u192, u193, u194, u195, u196, u197, u198, u199, u200, u201, u202, u203, u204, u205, u206, u207, u208, u209, u210, u211, u212, u213, u214, u215, u216, u217, u218, u219, u220, u221, u222, u223, u224, u225, u226, u227, u228, u229, u230, u231, u232, u233, u234, u235, u236, u237, u238, u239, u240, u241, u242, u243, u244, u245, u246, u247, u248, u249, u250, u251, u252, u253, u254, u255, u256, u257, u258, u259, u260, u261, u262, u263, u264, u265, u266, u267, u268, u269, u270, u271, u272, u273, u274, u275, u276, u277, u278, u279, u280, u281, u282, u283, u284, u285, u286, u287, u288, u289, u290, u291, u292, u293, u294, u295, u296, u297, u298, u299], []⟩ wc := by
  conv => arg 2; whnf
  have HD := Lib.hid (draw_pay (cc := cc) (HR.out.ext HX0.out) HBS.out HM.out)
  go_wp2_with fail
  refine HD.out.mono ?_; rintro e w1 ⟨b, off, cap, xs, r, v, rfl, hD, hx⟩
  have hl13 := hD.len
  have HX1 := Lib.hid (HX0.out.trans hx)
  have HROW := Lib.hid hD.fresh.row
  have HI := Lib.hid (fun y (hy : Ext w1 y) => impl_PayEntry (w := y) (cap := cap) (x := r) (p := v) (hD.fresh.row.ext hy) (by omega))
  have HS := Lib.hid (fun y (hy : Ext w1 y) => spec_PayEntry (w := y) (cap := cap) (x := r) (p := v) (hD.fresh.row.ext hy) (by omega))
  have hlen := payL_len13 (r := r) (p := v) hl13
  have HAT := Lib.hid (fun k hk => pay_at (xs := xs) (r := r) (p := v) (k := k) hk)
  clear hD HD HX0 hx
  unfold ResE at HI HS
  generalize payL xs r v = M at *
  generalize payB xs r v = N at *
  go_wp2_with fail
  refine (HI.out _ (Ext.refl _)).mono ?_; rintro e w2 ⟨mo, mc, rfl, hx2, hF2⟩
  have HX2 := Lib.hid hx2; have HF2 := Lib.hid hF2.row
  clear hx2 hF2 HI
  go_wp2_with fail
  refine (HS.out _ HX2.out).mono ?_; rintro e w3 ⟨no, nc, rfl, hx3, hF3⟩
  have HRE := Lib.hid (laws_rEntries (ac := mc) (bc := nc) (HF2.out.ext hx3) hF3.row (by omega))
  have HX3 := Lib.hid (HX2.out.trans hx3)
  have HM3 := Lib.hid (HF2.out.ext hx3)
  clear hx3 hF3 HS HX2 HF2
  have hNN : (N == N) = true := by simp
  go_upto_region 29 with fail
  go_cut [236] (fun v wc => v = .bool false ∧ Ext w3 wc)
  case first =>
    go_wp2_with fail
    refine HRE.out.mono ?_; rintro e w4 ⟨rfl, hx4⟩
    have HX4 := Lib.hid hx4
    clear hx4
    go_wp2_with fail
    go_meet
    exact ⟨rfl, HX4.out⟩
  case rest =>
  obtain ⟨rfl, hcut⟩ := hcut
  have HX4 := Lib.hid (HX3.out.trans hcut)
  have HM4 := Lib.hid (HM3.out.ext hcut)
  have HR4 := Lib.hid (HROW.out.ext HX4.out)
  have HXW := Lib.hid (HX1.out.trans HX4.out)
  clear hcut HX3 HM3 HRE HROW HX1 HX4 hNN
  generalize wc = w5 at *
  go_upto_block 0 with fail
  go_cut [] (fun wx => Ext w5 wx)
  case first =>
    go_wp2_with fail
    go_loopw [38] (fun i wr => ∃ k : Nat, k ≤ M.length ∧ i = .int .i64 k ∧ Ext w5 wr) (fun i _ => M.length - (intOf i).toNat)
    case atStart => exact ⟨0, Nat.zero_le _, rfl, Ext.refl _⟩
    case round =>
      obtain ⟨k, hk, rfl, hx⟩ := hrel
      have HX := Lib.hid hx
      by_cases hlt : k < M.length
      · obtain ⟨hkx, hat, hok1, hok2⟩ := HAT.out k hlt
        have hkn : (k : Int) < (M.length : Int) := by omega
        have hkm : (k : Int) < (xs.length : Int) := by omega
        obtain ⟨mb, moff, rfl, hcm⟩ := (HM4.out.ext hx) (by omega)
        obtain ⟨b', off', e, hcx⟩ := (HR4.out.ext hx) (by omega)
        injection e with e; injection e with e1 e2; subst e1 e2
        have d0 := hcm k hlt 0 (by decide)
        have d4 := hcm k hlt 4 (by decide)
        have x4 := hcx k hkx 4 (by decide)
        simp only [Ent.c0, Ent.c4, Nat.add_zero] at d0 d4 x4
        have p0 := hok1.p.1; have p1 := hok1.p.2; have p2 := hok2.p.1; have p3 := hok2.p.2
        clear hcm hcx hx hok1 hok2
        generalize (nth M k).runner = a0 at *
        generalize (nth M k).paid = a4 at *
        generalize (nth xs k).paid = c4 at *
        have hwr : IntKind.i64.wrap (a4 - c4) = a4 - c4 := IntWalk.i64_in _ (by omega)
        by_cases hdc : a4 - c4 = v
        · have hd1 : ((a4 - c4) == v) = true := by simpa using hdc
          have hd3 : ((a4 - c4) != v) = false := by simpa using hdc
          clear hat hdc p0 p1 p2 p3
          go_wp2_with fail
          go_quiet (fail)
          go_wp2_with fail
          go_roundw
          case rel => exact ⟨k + 1, by omega, by go_num, HX.out.trans (Ext.drewQ _ _)⟩
          case measure => simp [intOf] <;> omega
        · have hd1 : ((a4 - c4) == v) = false := by simpa using hdc
          have hd3 : ((a4 - c4) != v) = true := by simpa using hdc
          have hd2 : (a0 == r) = false := by
            cases e : (a0 == r)
            · rfl
            · exact absurd (hat (by simpa using e)) hdc
          clear hat hdc p0 p1 p2 p3
          go_wp2_with fail
          go_quiet (fail)
          go_wp2_with fail
          go_roundw
          case rel => exact ⟨k + 1, by omega, by go_num, HX.out.trans (Ext.drewQ _ _)⟩
          case measure => simp [intOf] <;> omega
      · have hkn : ¬ (k : Int) < (M.length : Int) := by omega
        clear hx
        go_wp2_with fail
        go_meet
        exact HX.out
  case rest =>
    have HXC := Lib.hid (HXW.out.trans hcut)
    clear hcut
    rename_i hK
    exact hK _ _ (part6 HR HM HBS HXC)
set_option maxRecDepth 100000 in
set_option maxHeartbeats 8000000 in
theorem part4 {co : Option Addr} {cc m : Nat} {bs : Nat → Nat} {w wc : World} {u1 u2 u3 u4 u5 u6 u7 u8 u9 u10 u11 u12 u13 u14 u15 u16 u17 u18 u19 u20 u21 u22 u23 u24 u25 u26 u27 u28 u29 u30 u31 u32 u33 u34 u35 u36 u37 u38 u39 u40 u41 u42 u43 u44 u45 u46 u47 u48 u49 u50 u51 u52 u53 u54 u55 u56 u57 u58 u59 u60 u61 u62 u63 u64 u65 u66 u67 u68 u69 u70 u71 u72 u73 u74 u75 u76 u77 u78 u79 u80 u81 u82 u83 u84 u85 u86 u87 u88 u89 u90 u91 u92 u93 u94 u95 u96 u97 u98 u99 u100 u101 u102 u103 u104 u105 u106 u107 u108 u109 u110 u111 u112 u113 u114 u115 u116 u117 u118 u119 u120 u121 u122 u123 u124 u125 u126 u127 u128 u129 u130 u131 u132 u133 u134 u135 u136 u137 u138 u139 u140 u141 u142 u143 u144 u145 u146 u147 u148 u149 u150 u151 u152 u153 u154 u155 u156 u157 u158 u159 u160 u161 u162 u163 u164 u165 u166 u167 u168 u169 u170 u171 u172 u173 u174 u175 u176 u177 u178 u179 u180 u181 u182 u183 u184 u185 u186 u187 u188 u189 u190 u191 u192 u193 u194 u195 u196 u197 u198 u199 u200 u201 u202 u203 u204 u205 u206 u207 u208 u209 u210 u211 u212 u213 u214 u215 u216 u217 u218 u219 u220 u221 u222 u223 u224 u225 u226 u227 u228 u229 u230 u231 u232 u233 u234 u235 u236 u237 u238 u239 u240 u241 u242 u243 u244 u245 u246 u247 u248 u249 u250 u251 u252 u253 u254 u255 u256 u257 u258 u259 u260 u261 u262 u263 u264 u265 u266 u267 u268 u269 u270 u271 u272 u273 u274 u275 u276 u277 u278 u279 u280 u281 u282 u283 u284 u285 u286 u287 u288 u289 u290 u291 u292 u293 u294 u295 u296 u297 u298 u299 : Value}
    (HR : Hid (RowAt w co 1 m (by8 bs))) (HM : Hid (m ≤ 9223372036854775807)) (HBS : Hid (∀ k, bs k < 256)) (HX0 : Hid (Ext w wc)) :
    Code.wp Try.prog (dropS 11 (Try.f3.body.getD .skip)) (bodyPost Try.prog Try.f3 fun e w' => e = .returned (.bool true) ∧ Ext w w') ⟨#[.slice co m cc, u1, u2, u3, u4, u5, u6, u7, u8, u9, u10, u11, u12, u13, u14, u15, u16, u17, u18, u19, u20, u21, u22, u23, u24, u25, u26, u27, u28, u29, u30, u31, u32, u33, u34, u35, u36, u37, u38, u39, u40, u41, u42, u43, u44, u45, u46, u47, u48, u49, u50, u51, u52, u53, u54, u55, u56, u57, u58, u59, u60, u61, u62, u63, u64, u65, u66, u67, u68, u69, u70, u71, u72, u73, u74, u75, u76, u77, u78, u79, u80, u81, u82, u83, u84, u85, u86, u87, u88, u89, u90, u91, u92, u93, u94, u95, u96, u97, u98, u99, u100, u101, u102, u103, u104, u105, u106, u107, u108, u109, u110, u111, u112, u113, u114, u115, u116, u117, u118, u119, u120, u121, u122, u123, u124, u125, u126, u127, u128, u129, u130, u131, u132, u133, u134, u135, u136, u137, u138, u139, u140, u141, u142, u143, u144, u145, u146, u147, u148, u149, u150, u151, u152, u153, u154, u155, u156, u157, u158, u159, u160, u161, u162, u163, u164, u165, u166, u167, u168, u169, u170, u171, u172, u173, u174, u175, u176, u177, u178, u179, u180, u181, u182, u183, u184, u185, u186, u187, u188, u189, u190, u191, u192, u193, u194, u195, u196, u197, u198, u199, u200, u201, u202, u203, u204, u205, u206, u207, u208, u209, u210, u211, u212, u213, u214, u215, u216, u217, u218, u219, u220, u221, u222, u223, u224, u225, u226, u227, u228, u229, u230, u231, u232, u233, u234, u235, u236, u237, u238, u239, u240, u241, u242, u243, u244, u245, u246, u247, u248, u249, u250, u251, u252, u253, u254, u255, u256, u257, u258, u259, u260, u261, u262, u263, u264, u265, u266, u267, u268, u269, u270, u271, u272, u273, u274, u275, u276, u277, u278, u279, u280, u281, u282, u283, u284, u285, u286, u287, u288, u289, u290, u291, u292, u293, u294, u295, u296, u297, u298, u299], []⟩ wc := by
  conv => arg 2; whnf
  have HD := Lib.hid (draw_change (cc := cc) (HR.out.ext HX0.out) HBS.out HM.out)
  go_wp2_with fail
  refine HD.out.mono ?_; rintro e w1 ⟨b, off, cap, xs, r, v, d, rfl, hD, hx⟩
  have hl13 := hD.len
  have HX1 := Lib.hid (HX0.out.trans hx)
  have HI := Lib.hid (fun y (hy : Ext w1 y) => impl_ChangeClass (w := y) (cap := cap) (x := r) (c := v) (d := d) (hD.fresh.row.ext hy) (by omega))
  have HS := Lib.hid (fun y (hy : Ext w1 y) => spec_ChangeClass (w := y) (cap := cap) (x := r) (c := v) (d := d) (hD.fresh.row.ext hy) (by omega))
  have hlen := chgL_len13 (r := r) (c := v) (d := d) hl13
  clear hD HD HX0 hx
  unfold ResE at HI HS
  generalize chgL xs r v d = M at *
  generalize chgB xs r v d = N at *
  go_wp2_with fail
  refine (HI.out _ (Ext.refl _)).mono ?_; rintro e w2 ⟨mo, mc, rfl, hx2, hF2⟩
  have HX2 := Lib.hid hx2; have HF2 := Lib.hid hF2.row
  clear hx2 hF2 HI
  go_wp2_with fail
  refine (HS.out _ HX2.out).mono ?_; rintro e w3 ⟨no, nc, rfl, hx3, hF3⟩
  have HRE := Lib.hid (laws_rEntries (ac := mc) (bc := nc) (HF2.out.ext hx3) hF3.row (by omega))
  have HX3 := Lib.hid (HX1.out.trans (HX2.out.trans hx3))
  clear hx3 hF3 HS HX2 HF2 HX1
  have hNN : (N == N) = true := by simp
  go_upto_region 24 with fail
  go_cut [207] (fun v wc => v = .bool false ∧ Ext w3 wc)
  case first =>
    go_wp2_with fail
    refine HRE.out.mono ?_; rintro e w4 ⟨rfl, hx4⟩
    have HX4 := Lib.hid hx4
    clear hx4
    go_wp2_with fail
    go_meet
    exact ⟨rfl, HX4.out⟩
  case rest =>
    obtain ⟨rfl, hcut⟩ := hcut
    have HXK := Lib.hid (HX3.out.trans hcut)
    clear hcut HX3 HRE hNN
    go_upto_if 207 with fail
    go_cut [] (fun wc => Ext w wc)
    case first =>
      go_wp2_with fail
      go_meet
      exact HXK.out
    case rest =>
    have HXC := Lib.hid hcut
    clear hcut
    exact (‹∀ (a : Act) (w : World), Code.wp Try.prog _ _ a w → _›) _ _ (part5 HR HM HBS HXC)
set_option maxRecDepth 100000 in
set_option maxHeartbeats 8000000 in
theorem part2 {co : Option Addr} {cc m : Nat} {bs : Nat → Nat} {w wc : World} {u1 u2 u3 u4 u5 u6 u7 u8 u9 u10 u11 u12 u13 u14 u15 u16 u17 u18 u19 u20 u21 u22 u23 u24 u25 u26 u27 u28 u29 u30 u31 u32 u33 u34 u35 u36 u37 u38 u39 u40 u41 u42 u43 u44 u45 u46 u47 u48 u49 u50 u51 u52 u53 u54 u55 u56 u57 u58 u59 u60 u61 u62 u63 u64 u65 u66 u67 u68 u69 u70 u71 u72 u73 u74 u75 u76 u77 u78 u79 u80 u81 u82 u83 u84 u85 u86 u87 u88 u89 u90 u91 u92 u93 u94 u95 u96 u97 u98 u99 u100 u101 u102 u103 u104 u105 u106 u107 u108 u109 u110 u111 u112 u113 u114 u115 u116 u117 u118 u119 u120 u121 u122 u123 u124 u125 u126 u127 u128 u129 u130 u131 u132 u133 u134 u135 u136 u137 u138 u139 u140 u141 u142 u143 u144 u145 u146 u147 u148 u149 u150 u151 u152 u153 u154 u155 u156 u157 u158 u159 u160 u161 u162 u163 u164 u165 u166 u167 u168 u169 u170 u171 u172 u173 u174 u175 u176 u177 u178 u179 u180 u181 u182 u183 u184 u185 u186 u187 u188 u189 u190 u191 u192 u193 u194 u195 u196 u197 u198 u199 u200 u201 u202 u203 u204 u205 u206 u207 u208 u209 u210 u211 u212 u213 u214 u215 u216 u217 u218 u219 u220 u221 u222 u223 u224 u225 u226 u227 u228 u229 u230 u231 u232 u233 u234 u235 u236 u237 u238 u239 u240 u241 u242 u243 u244 u245 u246 u247 u248 u249 u250 u251 u252 u253 u254 u255 u256 u257 u258 u259 u260 u261 u262 u263 u264 u265 u266 u267 u268 u269 u270 u271 u272 u273 u274 u275 u276 u277 u278 u279 u280 u281 u282 u283 u284 u285 u286 u287 u288 u289 u290 u291 u292 u293 u294 u295 u296 u297 u298 u299 : Value}
    (HR : Hid (RowAt w co 1 m (by8 bs))) (HM : Hid (m ≤ 9223372036854775807)) (HBS : Hid (∀ k, bs k < 256)) (HX0 : Hid (Ext w wc)) :
    Code.wp Try.prog (dropS 6 (Try.f3.body.getD .skip)) (bodyPost Try.prog Try.f3 fun e w' => e = .returned (.bool true) ∧ Ext w w') ⟨#[.slice co m cc, u1, u2, u3, u4, u5, u6, u7, u8, u9, u10, u11, u12, u13, u14, u15, u16, u17, u18, u19, u20, u21, u22, u23, u24, u25, u26, u27, u28, u29, u30, u31, u32, u33, u34, u35, u36, u37, u38, u39, u40, u41, u42, u43, u44, u45, u46, u47, u48, u49, u50, u51, u52, u53, u54, u55, u56, u57, u58, u59, u60, u61, u62, u63, u64, u65, u66, u67, u68, u69, u70, u71, u72, u73, u74, u75, u76, u77, u78, u79, u80, u81, u82, u83, u84, u85, u86, u87, u88, u89, u90, u91, u92, u93, u94, u95, u96, u97, u98, u99, u100, u101, u102, u103, u104, u105, u106, u107, u108, u109, u110, u111, u112, u113, u114, u115, u116, u117, u118, u119, u120, u121, u122, u123, u124, u125, u126, u127, u128, u129, u130, u131, u132, u133, u134, u135, u136, u137, u138, u139, u140, u141, u142, u143, u144, u145, u146, u147, u148, u149, u150, u151, u152, u153, u154, u155, u156, u157, u158, u159, u160, u161, u162, u163, u164, u165, u166, u167, u168, u169, u170, u171, u172, u173, u174, u175, u176, u177, u178, u179, u180, u181, u182, u183, u184, u185, u186, u187, u188, u189, u190, u191, u192, u193, u194, u195, u196, u197, u198, u199, u200, u201, u202, u203, u204, u205, u206, u207, u208, u209, u210, u211, u212, u213, u214, u215, u216, u217, u218, u219, u220, u221, u222, u223, u224, u225, u226, u227, u228, u229, u230, u231, u232, u233, u234, u235, u236, u237, u238, u239, u240, u241, u242, u243, u244, u245, u246, u247, u248, u249, u250, u251, u252, u253, u254, u255, u256, u257, u258, u259, u260, u261, u262, u263, u264, u265, u266, u267, u268, u269, u270, u271, u272, u273, u274, u275, u276, u277, u278, u279, u280, u281, u282, u283, u284, u285, u286, u287, u288, u289, u290, u291, u292, u293, u294, u295, u296, u297, u298, u299], []⟩ wc := by
  conv => arg 2; whnf
  have HD := Lib.hid (draw_classes (cc := cc) (HR.out.ext HX0.out) HBS.out HM.out)
  go_wp2_with fail
  refine HD.out.mono ?_; rintro e w1 ⟨b, off, cap, xs, rfl, hD, hx⟩
  have hl13 := hD.len
  have HX1 := Lib.hid (HX0.out.trans hx)
  have HI := Lib.hid (fun y (hy : Ext w1 y) => impl_ClassSizes (w := y) (cap := cap) (hD.fresh.row.ext hy) (by omega))
  have HS := Lib.hid (fun y (hy : Ext w1 y) => spec_ClassSizes (w := y) (cap := cap) (hD.fresh.row.ext hy) (by omega))
  have HLI := Lib.hid (fun y (hy : Ext w1 y) => impl_LateEntries (w := y) (cap := cap) (hD.fresh.row.ext hy) (by omega))
  have HLS := Lib.hid (fun y (hy : Ext w1 y) => spec_LateEntries (w := y) (cap := cap) (hD.fresh.row.ext hy) (by omega))
  have HAE := Lib.hid (fun y (hy : Ext w1 y) => impl_AreEntries (w := y) (cap := cap) (hD.fresh.row.ext hy) (by omega))
  have hlate := lateL_len13 hl13
  obtain ⟨hsl, hcl⟩ := sizL_bd xs
  obtain ⟨hs1, hs2⟩ := sizL_fact hl13
  clear hD HD HX0 hx
  unfold ResC at HI HS
  unfold ResJ at HLI HLS
  generalize lateL xs = LL at *
  generalize sizL xs = SL at *
  generalize clsL xs = CL at *
  generalize entsB xs = N at *
  have HS1 := Lib.hid hs1; have HS2 := Lib.hid hs2
  clear hs1 hs2
  go_wp2_with fail
  refine (HI.out _ (Ext.refl _)).mono ?_; rintro e w2 ⟨ao, ac, bo, bc, rfl, hx2, hA2, hB2⟩
  have HX2 := Lib.hid hx2; have HA2 := Lib.hid hA2; have HB2 := Lib.hid hB2
  clear hx2 hA2 hB2 HI
  go_wp2_with fail
  refine (HS.out _ HX2.out).mono ?_; rintro e w3 ⟨ao', ac', bo', bc', rfl, hx3, hA3, hB3⟩
  have HRA := Lib.hid (laws_rInts (ac := ac) (bc := ac') (HA2.out.ext hx3) hA3 (by omega))
  have HRB := Lib.hid (fun y (hy : Ext w3 y) => laws_rInts (ac := bc) (bc := bc') (HB2.out.ext (hx3.trans hy)) (hB3.ext hy) (by omega))
  have HRS := Lib.hid (fun y (hy : Ext w3 y) => laws_rSum (cap := bc) (HB2.out.ext (hx3.trans hy)) (by omega) HS2.out)
  have HX3 := Lib.hid (HX2.out.trans hx3)
  clear hx3 hA3 hB3 HS HX2 HA2 HB2 HS2
  have hNN : (N == N) = true := by simp
  go_upto_region 15 with fail
  go_cut [156] (fun v wc => v = .bool false ∧ Ext w3 wc)
  case first =>
    cases N
    · go_wp2_with fail
      refine HRA.out.mono ?_; rintro e w4 ⟨rfl, hx4⟩
      have HX4 := Lib.hid hx4
      clear hx4
      go_wp2_with fail
      refine (HRB.out _ HX4.out).mono ?_; rintro e w5 ⟨rfl, hx5⟩
      have HX5 := Lib.hid (HX4.out.trans hx5)
      clear hx5
      go_wp2_with fail
      refine (HAE.out _ (HX3.out.trans HX5.out)).mono ?_; rintro e w6 ⟨rfl, hx6⟩
      have HX6 := Lib.hid (HX5.out.trans hx6)
      clear hx6
      go_wp2_with fail
      go_meet
      exact ⟨rfl, HX6.out⟩
    · have hsum := HS1.out rfl
      have HSM := Lib.hid hsum
      clear hsum
      go_wp2_with fail
      refine HRA.out.mono ?_; rintro e w4 ⟨rfl, hx4⟩
      have HX4 := Lib.hid hx4
      clear hx4
      go_wp2_with fail
      refine (HRB.out _ HX4.out).mono ?_; rintro e w5 ⟨rfl, hx5⟩
      have HX5 := Lib.hid (HX4.out.trans hx5)
      clear hx5
      go_wp2_with fail
      refine (HRS.out _ HX5.out).mono ?_; rw [HSM.out]; rintro e w6 ⟨rfl, rfl⟩
      have hee : ((xs.length : Int) == (xs.length : Int)) = true := by simp
      go_wp2_with fail
      refine (HAE.out _ (HX3.out.trans HX5.out)).mono ?_; rintro e w6 ⟨rfl, hx6⟩
      have HX6 := Lib.hid (HX5.out.trans hx6)
      clear hx6
      go_wp2_with fail
      go_meet
      exact ⟨rfl, HX6.out⟩
  case rest =>
  obtain ⟨rfl, hcut⟩ := hcut
  have HX4 := Lib.hid (HX3.out.trans hcut)
  clear hcut HX3 HRA HRB HRS HAE HS1
  generalize wc = w5 at *
  go_wp2_with fail
  refine (HLI.out _ HX4.out).mono ?_; rintro e w6 ⟨ao, ac, rfl, hx6, hA6⟩
  have HX6 := Lib.hid (HX4.out.trans hx6); have HA6 := Lib.hid hA6
  clear hx6 hA6 HLI HX4
  go_wp2_with fail
  refine (HLS.out _ HX6.out).mono ?_; rintro e w7 ⟨ao', ac', rfl, hx7, hA7⟩
  have HRA := Lib.hid (laws_rInts (ac := ac) (bc := ac') (HA6.out.ext hx7) hA7 (by omega))
  have HX7 := Lib.hid (HX1.out.trans (HX6.out.trans hx7))
  clear hx7 hA7 HLS HX6 HA6 HX1
  go_upto_region 19 with fail
  go_cut [175] (fun v wc => v = .bool false ∧ Ext w7 wc)
  case first =>
    go_wp2_with fail
    refine HRA.out.mono ?_; rintro e w8 ⟨rfl, hx8⟩
    have HX8 := Lib.hid hx8
    clear hx8
    go_wp2_with fail
    go_meet
    exact ⟨rfl, HX8.out⟩
  case rest =>
    obtain ⟨rfl, hcut⟩ := hcut
    have HXK := Lib.hid (HX7.out.trans hcut)
    clear hcut HX7 HRA hNN
    go_upto_if 175 with fail
    go_cut [] (fun wc => Ext w wc)
    case first =>
      go_wp2_with fail
      go_meet
      exact HXK.out
    case rest =>
    have HXC := Lib.hid hcut
    clear hcut
    exact (‹∀ (a : Act) (w : World), Code.wp Try.prog _ _ a w → _›) _ _ (part4 HR HM HBS HXC)
set_option maxRecDepth 100000 in
set_option maxHeartbeats 8000000 in
theorem part1 {co : Option Addr} {cc m : Nat} {bs : Nat → Nat} {w wc : World} {u1 u2 u3 u4 u5 u6 u7 u8 u9 u10 u11 u12 u13 u14 u15 u16 u17 u18 u19 u20 u21 u22 u23 u24 u25 u26 u27 u28 u29 u30 u31 u32 u33 u34 u35 u36 u37 u38 u39 u40 u41 u42 u43 u44 u45 u46 u47 u48 u49 u50 u51 u52 u53 u54 u55 u56 u57 u58 u59 u60 u61 u62 u63 u64 u65 u66 u67 u68 u69 u70 u71 u72 u73 u74 u75 u76 u77 u78 u79 u80 u81 u82 u83 u84 u85 u86 u87 u88 u89 u90 u91 u92 u93 u94 u95 u96 u97 u98 u99 u100 u101 u102 u103 u104 u105 u106 u107 u108 u109 u110 u111 u112 u113 u114 u115 u116 u117 u118 u119 u120 u121 u122 u123 u124 u125 u126 u127 u128 u129 u130 u131 u132 u133 u134 u135 u136 u137 u138 u139 u140 u141 u142 u143 u144 u145 u146 u147 u148 u149 u150 u151 u152 u153 u154 u155 u156 u157 u158 u159 u160 u161 u162 u163 u164 u165 u166 u167 u168 u169 u170 u171 u172 u173 u174 u175 u176 u177 u178 u179 u180 u181 u182 u183 u184 u185 u186 u187 u188 u189 u190 u191 u192 u193 u194 u195 u196 u197 u198 u199 u200 u201 u202 u203 u204 u205 u206 u207 u208 u209 u210 u211 u212 u213 u214 u215 u216 u217 u218 u219 u220 u221 u222 u223 u224 u225 u226 u227 u228 u229 u230 u231 u232 u233 u234 u235 u236 u237 u238 u239 u240 u241 u242 u243 u244 u245 u246 u247 u248 u249 u250 u251 u252 u253 u254 u255 u256 u257 u258 u259 u260 u261 u262 u263 u264 u265 u266 u267 u268 u269 u270 u271 u272 u273 u274 u275 u276 u277 u278 u279 u280 u281 u282 u283 u284 u285 u286 u287 u288 u289 u290 u291 u292 u293 u294 u295 u296 u297 u298 u299 : Value}
    (HR : Hid (RowAt w co 1 m (by8 bs))) (HM : Hid (m ≤ 9223372036854775807)) (HBS : Hid (∀ k, bs k < 256)) (HX0 : Hid (Ext w wc)) :
    Code.wp Try.prog (dropS 2 (Try.f3.body.getD .skip)) (bodyPost Try.prog Try.f3 fun e w' => e = .returned (.bool true) ∧ Ext w w') ⟨#[.slice co m cc, u1, u2, u3, u4, u5, u6, u7, u8, u9, u10, u11, u12, u13, u14, u15, u16, u17, u18, u19, u20, u21, u22, u23, u24, u25, u26, u27, u28, u29, u30, u31, u32, u33, u34, u35, u36, u37, u38, u39, u40, u41, u42, u43, u44, u45, u46, u47, u48, u49, u50, u51, u52, u53, u54, u55, u56, u57, u58, u59, u60, u61, u62, u63, u64, u65, u66, u67, u68, u69, u70, u71, u72, u73, u74, u75, u76, u77, u78, u79, u80, u81, u82, u83, u84, u85, u86, u87, u88, u89, u90, u91, u92, u93, u94, u95, u96, u97, u98, u99, u100, u101, u102, u103, u104, u105, u106, u107, u108, u109, u110, u111, u112, u113, u114, u115, u116, u117, u118, u119, u120, u121, u122, u123, u124, u125, u126, u127, u128, u129, u130, u131, u132, u133, u134, u135, u136, u137, u138, u139, u140, u141, u142, u143, u144, u145, u146, u147, u148, u149, u150, u151, u152, u153, u154, u155, u156, u157, u158, u159, u160, u161, u162, u163, u164, u165, u166, u167, u168, u169, u170, u171, u172, u173, u174, u175, u176, u177, u178, u179, u180, u181, u182, u183, u184, u185, u186, u187, u188, u189, u190, u191, u192, u193, u194, u195, u196, u197, u198, u199, u200, u201, u202, u203, u204, u205, u206, u207, u208, u209, u210, u211, u212, u213, u214, u215, u216, u217, u218, u219, u220, u221, u222, u223, u224, u225, u226, u227, u228, u229, u230, u231, u232, u233, u234, u235, u236, u237, u238, u239, u240, u241, u242, u243, u244, u245, u246, u247, u248, u249, u250, u251, u252, u253, u254, u255, u256, u257, u258, u259, u260, u261, u262, u263, u264, u265, u266, u267, u268, u269, u270, u271, u272, u273, u274, u275, u276, u277, u278, u279, u280, u281, u282, u283, u284, u285, u286, u287, u288, u289, u290, u291, u292, u293, u294, u295, u296, u297, u298, u299], []⟩ wc := by
  conv => arg 2; whnf
  have HD := Lib.hid (draw_enter (cc := cc) (HR.out.ext HX0.out) HBS.out HM.out)
  go_wp2_with fail
  refine HD.out.mono ?_; rintro e w1 ⟨b, off, cap, xs, ⟨a0, a1, a2, a3, a4⟩, rfl, hD, _, hx⟩
  have hl13 := hD.len
  have HX1 := Lib.hid (HX0.out.trans hx)
  have HROW := Lib.hid hD.fresh.row
  have HI := Lib.hid (fun y (hy : Ext w1 y) => impl_EnterRunner (w := y) (cap := cap) (s := a0) (c1 := a1) (c2 := a2) (c3 := a3) (r := a4) (hD.fresh.row.ext hy) (by omega))
  have HS := Lib.hid (fun y (hy : Ext w1 y) => spec_EnterRunner (w := y) (cap := cap) (s := a0) (c1 := a1) (c2 := a2) (c3 := a3) (r := a4) (hD.fresh.row.ext hy) (by omega) hD.caps)
  have hlen := enL_len13 (x := ⟨a0, a1, a2, a3, a4⟩) hl13
  have HREF := Lib.hid (fun h => ref_of_enter (xs := xs) (x := ⟨a0, a1, a2, a3, a4⟩) h)
  have HPOS := Lib.hid (fun h => enL_pos (xs := xs) (x := ⟨a0, a1, a2, a3, a4⟩) h)
  have q0 : (w1.alloc (.cells #[.int .i64 a0, .int .i64 a1, .int .i64 a2, .bool a3, .int .i64 a4] 26)).cell? ⟨w1.heap.size, 0, none⟩ = some (.int .i64 a0) := by go_simp
  have q1 : (w1.alloc (.cells #[.int .i64 a0, .int .i64 a1, .int .i64 a2, .bool a3, .int .i64 a4] 26)).cell? ⟨w1.heap.size, 1, none⟩ = some (.int .i64 a1) := by go_simp
  have q2 : (w1.alloc (.cells #[.int .i64 a0, .int .i64 a1, .int .i64 a2, .bool a3, .int .i64 a4] 26)).cell? ⟨w1.heap.size, 2, none⟩ = some (.int .i64 a2) := by go_simp
  have q3 : (w1.alloc (.cells #[.int .i64 a0, .int .i64 a1, .int .i64 a2, .bool a3, .int .i64 a4] 26)).cell? ⟨w1.heap.size, 3, none⟩ = some (.bool a3) := by go_simp
  have q4 : (w1.alloc (.cells #[.int .i64 a0, .int .i64 a1, .int .i64 a2, .bool a3, .int .i64 a4] 26)).cell? ⟨w1.heap.size, 4, none⟩ = some (.int .i64 a4) := by go_simp
  have hxw : Ext w1 (w1.alloc (.cells #[.int .i64 a0, .int .i64 a1, .int .i64 a2, .bool a3, .int .i64 a4] 26)) := (Ext.refl _).alloc _
  have bl : w1.heap.size < (w1.alloc (.cells #[.int .i64 a0, .int .i64 a1, .int .i64 a2, .bool a3, .int .i64 a4] 26)).heap.size := by simp
  clear hD HD HX0 hx
  unfold ResE at HI HS
  unfold Ent.val
  dsimp only
  go_upto_region 4 with fail
  generalize w1.alloc (.cells #[.int .i64 a0, .int .i64 a1, .int .i64 a2, .bool a3, .int .i64 a4] 26) = w2 at *
  have HXW := Lib.hid hxw
  clear hxw
  generalize enL xs ⟨a0, a1, a2, a3, a4⟩ = M at *
  generalize enB xs ⟨a0, a1, a2, a3, a4⟩ = N at *
  generalize w1.heap.size = BK at *
  go_wp2_with fail
  refine (HI.out _ HXW.out).mono ?_; rintro e w3 ⟨mo, mc, rfl, hx3, hF3⟩
  have q0 := hx3.cells q0
  have q1 := hx3.cells q1
  have q2 := hx3.cells q2
  have q3 := hx3.cells q3
  have q4 := hx3.cells q4
  have bl := World.block_lt_of_cell? _ _ q0
  simp only at bl
  have HX3 := Lib.hid (HXW.out.trans hx3); have HF3 := Lib.hid hF3.row
  clear hx3 hF3 HI HXW
  go_wp2_with fail
  refine (HS.out _ HX3.out).mono ?_; rintro e w4 ⟨no, nc, rfl, hx4, hF4⟩
  have q0 := hx4.cells q0
  have q1 := hx4.cells q1
  have q2 := hx4.cells q2
  have q3 := hx4.cells q3
  have q4 := hx4.cells q4
  have bl := World.block_lt_of_cell? _ _ q0
  simp only at bl
  have HRE := Lib.hid (laws_rEntries (ac := mc) (bc := nc) (HF3.out.ext hx4) hF4.row (by omega))
  have HX4 := Lib.hid (HX3.out.trans hx4)
  have HM4 := Lib.hid (HF3.out.ext hx4)
  clear hx4 hF4 HS HX3 HF3
  have hNN : (N == N) = true := by simp
  go_upto_region 6 with fail
  go_cut [75] (fun v wc => v = .bool false ∧ Ext w4 wc)
  case first =>
    go_wp2_with fail
    refine HRE.out.mono ?_; rintro e w5 ⟨rfl, hx5⟩
    have HX5 := Lib.hid hx5
    clear hx5
    clear q0 q1 q2 q3 q4 bl
    go_wp2_with fail
    go_meet
    exact ⟨rfl, HX5.out⟩
  case rest =>
  obtain ⟨rfl, hcut⟩ := hcut
  have q0 := hcut.cells q0
  have q1 := hcut.cells q1
  have q2 := hcut.cells q2
  have q3 := hcut.cells q3
  have q4 := hcut.cells q4
  have bl := World.block_lt_of_cell? _ _ q0
  simp only at bl
  have HX5 := Lib.hid (HX4.out.trans hcut)
  have HM5 := Lib.hid (HM4.out.ext hcut)
  have HR5 := Lib.hid (HROW.out.ext HX5.out)
  clear hcut HX4 HM4 HRE HROW hNN
  generalize wc = w5 at *
  go_upto_if 76 with fail
  go_cut [] (fun wc => Ext w5 wc)
  case first =>
    cases N
    · clear q0 q1 q2 q3 q4 bl
      go_wp2_with fail
      go_meet
      exact Ext.refl _
    · obtain ⟨r1, r2, r3, rok⟩ := HREF.out rfl
      obtain ⟨mb, moff, hmo, _⟩ := HM5.out (HPOS.out rfl)
      subst hmo
      have hri := impl_RefundFor (w := w5) (cap := mc) (x := a0) (d := a2) HM5.out (by omega)
      unfold ResR at hri
      rw [r1, r2, r3] at hri
      have HRI := Lib.hid hri
      have hp0 := rok.p.1; have hp1 := rok.p.2
      simp only at hp0 hp1
      clear r1 r2 r3 rok hri HREF HPOS
      by_cases h300 : 300 ≤ a2
      case' pos =>
        have hv : (if 300 ≤ a2 then a4 / 2 else a4) = a4 / 2 := if_pos h300
        rw [hv] at HRI
        have hcmp : ¬ a4 < a4 / 2 := by omega
        clear hv
        skip
      case' neg =>
        have hv : (if 300 ≤ a2 then a4 / 2 else a4) = a4 := if_neg h300
        rw [hv] at HRI
        have hcmp : ¬ a4 < a4 := by omega
        clear hv
        skip
      all_goals
        go_wp2_with fail
        refine HRI.out.mono ?_; rintro e w6 ⟨lo, lc, rfl, hx6, hF6⟩
        have q0 := hx6.cells q0
        have q1 := hx6.cells q1
        have q2 := hx6.cells q2
        have q3 := hx6.cells q3
        have q4 := hx6.cells q4
        have bl := World.block_lt_of_cell? _ _ q0
        simp only at bl
        have HRE := Lib.hid (laws_rEntries (ac := lc) (bc := cap) hF6.row (HR5.out.ext hx6) (by omega))
        have HX6 := Lib.hid hx6
        clear hx6 hF6 HRI
        go_wp2_with fail
        refine HRE.out.mono ?_; rintro e w7 ⟨rfl, hx7⟩
        have q0 := hx7.cells q0
        have q1 := hx7.cells q1
        have q2 := hx7.cells q2
        have q3 := hx7.cells q3
        have q4 := hx7.cells q4
        have bl := World.block_lt_of_cell? _ _ q0
        simp only at bl
        have HX7 := Lib.hid (HX6.out.trans hx7)
        clear hx7
        go_wp2_with fail
        go_meet
        exact HX7.out
  case rest =>
    have HXC := Lib.hid (HX1.out.trans (HX5.out.trans hcut))
    clear hcut
    rename_i hK
    exact hK _ _ (part2 HR HM HBS HXC)
set_option maxRecDepth 100000 in
set_option maxHeartbeats 8000000 in
theorem walk {co : Option Addr} {cc m : Nat} {bs : Nat → Nat} {w : World} (hr : RowAt w co 1 m (by8 bs)) (hm : m ≤ 9223372036854775807) (hb : ∀ k, bs k < 256) :
    Calls Try.prog 3 #[.slice co m cc] w fun e w' => e = .returned (.bool true) ∧ Ext w w' := by
  have HV := Lib.hid (laws_rBig (ao := co) (cap := cc) (w := w) hm)
  have HR := Lib.hid hr; have HM := Lib.hid hm; have HBS := Lib.hid hb
  clear hr hb
  by_cases hbig : 65536 < m
  · have HBIG : Hid (decide (65536 < m) = true) := Lib.hid (by simpa using hbig)
    clear hbig hm
    go_enter Try.func3, Try.ntmps3
    go_wp2_with fail
    refine HV.out.mono ?_; rintro e w1 ⟨rfl, rfl⟩
    rw [HBIG.out]
    clear HV HBIG
    go_wp2
    go_ret
    exact ⟨rfl, Ext.refl _⟩
  · have HBIG : Hid (decide (65536 < m) = false) := Lib.hid (by simpa using hbig)
    clear hbig hm
    go_enter Try.func3, Try.ntmps3
    go_upto_region 1 with fail
    go_cut [49] (fun b wc => b = .bool false ∧ Ext w wc)
    case first =>
      go_wp2_with fail
      refine HV.out.mono ?_; rintro e w1 ⟨rfl, rfl⟩
      rw [HBIG.out]
      clear HV HBIG
      go_wp2_with fail
      go_meet
      exact ⟨rfl, Ext.refl _⟩
    case rest =>
      obtain ⟨rfl, hcut⟩ := hcut
      generalize wc = w0 at hcut ⊢
      have HXC := Lib.hid hcut
      clear hcut
      go_upto_if 49 with fail
      go_cut [] (fun wc => Ext w wc)
      case first =>
        go_wp2_with fail
        go_meet
        exact HXC.out
      case rest =>
        have HXC := Lib.hid hcut
        clear hcut
        exact (‹∀ (a : Act) (w : World), Code.wp Try.prog _ _ a w → _›) _ _ (part1 HR HM HBS HXC)

set_option maxRecDepth 100000 in
theorem lifted (os : Os) (started : os.Started) (H : Type) (enc : TypeId × Value → H) :
    ReturnsInHanded {} Try.checked os 3 .any (Rows.fnEntriesSpec.pre6 enc Try.prog Try.f3 Rows.fnEntriesRow.domain false) (Rows.fnEntriesSpec.post enc Try.prog Try.f3 false true false false) := by
  refine returnsInHanded_of_change (C := Try.checked) (by kernel_rfl) started (by kernel_rfl) Try.func3
    (ChangeSpec.witness6 (enc := enc) (C := Try.checked) false ⟨#[], #[.slice none 0 0], []⟩ 8 (by kernel_rfl) (by kernel_rfl) (by kernel_rfl) (by kernel_rfl)) ?_
  intro W base args ds gs before hval0 hW _ _
  have hval : ∀ (j : Nat) t v, Try.f3.params[j]? = some t → args[j]? = some v → Value.okWide Try.prog W .any base t v := hval0
  have hW' := hW
  obtain ⟨p, q, hA0, hV, rfl, hfz, hnd⟩ := hW
  have hA : DataW.TrodAll enc Try.prog W 0 (fun _ => true) true Try.f3.params.toList args.toList ds p := hA0
  rw [Try.params3] at hA hval
  obtain ⟨v0, vs0, d0, ds0, p0, q0, hargs, rfl, rfl, h0, r0⟩ := trodAll_cons hA
  obtain ⟨rfl, rfl, rfl⟩ := trodAll_nil r0
  obtain rfl : args = #[v0] := by cases args; simp_all
  obtain ⟨rfl, rfl⟩ := trodVars_none hV
  obtain ⟨ao0, cap0, m0, bs0, rfl, hl0, hr0, hw0⟩ := open_ByteS (hval 0 22 v0 rfl rfl) h0
  refine (walk hr0 hl0 hw0).mono fun e W' ⟨he, hx⟩ => ?_
  subst he
  exact ⟨_, rfl, law_post (by kernel_rfl) (by kernel_rfl) Try.underlying4 rfl rfl hW' rfl hx⟩

theorem holds : Rows.FnEntriesSaid :=
  OpenClaim.holds_of_wide 3 Try.f3 rfl rfl rfl rfl rfl rfl rfl ⟨rfl, rfl, rfl, rfl, rfl⟩ rfl rfl rfl rfl rfl (by kernel_rfl) Try.func3 (by kernel_rfl)
    (of_decide_eq_true (by kernel_rfl)) (by unfold Func.isWrapper; first | (rw [if_pos (by decide +kernel)]; kernel_rfl) | (rw [if_neg (by decide +kernel)]; exact ⟨rfl, rfl⟩))
    (fun os started H enc _ => lifted os started H enc)

end Go.Proofs.Ytkejhhflpnfepaa.FnEntries
