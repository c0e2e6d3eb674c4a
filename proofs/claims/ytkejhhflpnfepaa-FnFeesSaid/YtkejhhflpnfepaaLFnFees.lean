/-
  Proved here: the law FnFees answers true for every input and leaves its arguments as they were.
  Conditions: none.
-/
import Derived.Test.YtkejhhflpnfepaaReq
import Derived.Test.YtkejhhflpnfepaaReqE
import Derived.Test.YtkejhhflpnfepaaFeeLaw
import Derived.Test.YtkejhhflpnfepaaFeeW
import Derived.Test.YtkejhhflpnfepaaDrawFW
import Derived.Test.YtkejhhflpnfepaaTByteS
import Derived.IntWalk
import Derived.Deep.DrawnRows
import Derived.Deep.DeepCutAuto
import Derived.Deep.CutBlock
namespace Go.Proofs.Ytkejhhflpnfepaa.FnFees
open Go.ChangeShapes Go.WideShapes Go.ChangeAt Go.RowKit

/-- the code behind the first K statements -/
def dropS : Nat → Code → Code
  | 0, c => c
  | n + 1, .seq _ b => dropS n b
  | _ + 1, c => c
theorem rnIns.strs {xs : List Rnr} (h : rnIns xs) : ∀ k, k < xs.length → (nth xs k).name.size ≤ 9223372036854775807 ∧ (nth xs k).club.size ≤ 9223372036854775807 := fun k hk => ⟨by have := (h k hk).f1; omega, by have := (h k hk).f2; omega⟩

set_option maxRecDepth 100000 in
set_option maxHeartbeats 8000000 in
theorem partC {co : Option Addr} {cc m : Nat} {bs : Nat → Nat} {w wc : World} {u1 u2 u3 u4 u5 u6 u7 u8 u9 u10 u11 u12 u13 u14 u15 u16 u17 u18 u19 u20 u21 u22 u23 u24 u25 u26 u27 u28 u29 u30 u31 u32 u33 u34 u35 u36 u37 u38 u39 u40 u41 u42 u43 u44 u45 u46 u47 u48 u49 u50 u51 u52 u53 u54 u55 u56 u57 u58 u59 u60 u61 u62 u63 u64 u65 u66 u67 u68 u69 u70 u71 u72 u73 u74 u75 u76 u77 u78 u79 u80 u81 u82 u83 u84 u85 u86 u87 u88 u89 u90 u91 u92 u93 u94 u95 u96 u97 u98 u99 u100 u101 u102 u103 u104 u105 u106 u107 u108 u109 u110 u111 u112 u113 u114 u115 u116 u117 u118 u119 u120 u121 u122 u123 u124 u125 u126 u127 u128 u129 u130 u131 u132 u133 u134 u135 u136 u137 u138 u139 u140 u141 u142 u143 u144 u145 u146 u147 u148 u149 u150 u151 u152 u153 u154 u155 u156 u157 u158 u159 u160 u161 u162 u163 u164 u165 u166 u167 u168 u169 u170 u171 u172 u173 u174 u175 u176 u177 u178 u179 u180 u181 u182 u183 u184 u185 u186 u187 u188 u189 u190 u191 u192 u193 u194 u195 u196 u197 u198 u199 u200 u201 u202 u203 u204 u205 u206 u207 u208 u209 u210 u211 u212 u213 u214 u215 u216 : Value}
    (HR : Hid (RowAt w co 1 m (by8 bs))) (HM : Hid (m ≤ 9223372036854775807)) (HBS : Hid (∀ k, bs k < 256)) (HX0 : Hid (Ext w wc)) :
    Code.wp Try.prog (dropS 10 (Try.f4.body.getD .skip)) (bodyPost Try.prog Try.f4 fun e w' => e = .returned (.bool true) ∧ Ext w w') ⟨#[.slice co m cc, u1, u2, u3, u4, u5, u6, u7, u8, u9, u10, u11, u12, u13, u14, u15, u16, u17, u18, u19, u20, u21, u22, u23, u24, u25, u26, u27, u28, u29, u30, u31, u32, u33, u34, u35, u36, u37, u38, u39, u40, u41, u42, u43, u44, u45, u46, u47, u48, u49, u50, u51, u52, u53, u54, u55, u56, u57, u58, u59, u60, u61, u62, u63, u64, u65, u66, u67, u68, u69, u70, u71, u72, u73, u74, u75, u76, u77, u78, u79, u80, u81, u82, u83, u84, u85, u86, u87, u88, u89, u90, u91, u92, u93, u94, u95, u96, u97, u98, u99, u100, u101, u102, u103, u104, u105, u106, u107, u108, u109, u110, u111, u112, u113, u114, u115, u116, u117, u118, u119, u120, u121, u122, u123, u124, u125, u126, u127, u128, u129, u130, u131, u132, u133, u134, u135, u136, u137, u138, u139, u140, u141, u142, u143, u144, u145, u146, u147, u148, u149, u150, u151, u152, u153, u154, u155, u156, u157, u158, u159, u160, u161, u162, u163, u164, u165, u166, u167, u168, u169, u170, u171, u172, u173, u174, u175, u176, u177, u178, u179, u180, u181, u182, u183, u184, u185, u186, u187, u188, u189, u190, u191, u192, u193, u194, u195, u196, u197, u198, u199, u200, u201, u202, u203, u204, u205, u206, u207, u208, u209, u210, u211, u212, u213, u214, u215, u216], []⟩ wc := by
  conv => arg 2; whnf
  have HD := Lib.hid (draw_club (cc := cc) (HR.out.ext HX0.out) HBS.out HM.out)
  go_wp2_with fail
  refine HD.out.mono ?_; rintro e w1 ⟨f, rb, ro, rc, rs, b, off, cap, xs, s, rfl, hs, hf, hDR, hDE, hx⟩
  obtain ⟨a0, a1, a2, a3⟩ := f
  have h12 := hDR.len
  have h13 := hDE.len
  have HX1 := Lib.hid (HX0.out.trans hx)
  have HI := Lib.hid (fun y (hy : Ext w1 y) => impl_ClubBill (w := y) (cap := rc) (bcap := cap) (a := a0) (c := a1) (r := a2) (l := a3) (club := s) (hDR.fresh.row.ext hy) (by omega) (rnIns.strs hDR.ok) hDR.caps.1 (hDE.fresh.row.ext hy) (by omega))
  have HS := Lib.hid (fun y (hy : Ext w1 y) => spec_ClubBill (w := y) (cap := rc) (bcap := cap) (a := a0) (c := a1) (r := a2) (l := a3) (club := s) (hDR.fresh.row.ext hy) (by omega) (rnIns.strs hDR.ok) (hDE.fresh.row.ext hy) (by omega))
  have HXA := Lib.hid ((Ext.refl w1).alloc (.cells #[.int .i64 a0, .int .i64 a1, .int .i64 a2, .int .i64 a3] 50))
  clear hs hf hDR hDE hx HD HX0 HR HM HBS
  generalize billX ⟨a0, a1, a2, a3⟩ rs xs s = M at *
  generalize opOk ⟨a0, a1, a2, a3⟩ rs xs = N at *
  have hMM : (M == M) = true := by simp
  have hNN : (N == N) = true := by simp
  dsimp only [Fee.val]
  go_wp2_with fail
  refine (HI.out _ HXA.out).mono ?_; rintro e w2 ⟨rfl, hx2⟩
  have c0 : w2.cell? ⟨w1.heap.size, 0, none⟩ = some (.int .i64 a0) := hx2.cells (by go_simp)
  have c1 : w2.cell? ⟨w1.heap.size, 1, none⟩ = some (.int .i64 a1) := hx2.cells (by go_simp)
  have c2 : w2.cell? ⟨w1.heap.size, 2, none⟩ = some (.int .i64 a2) := hx2.cells (by go_simp)
  have c3 : w2.cell? ⟨w1.heap.size, 3, none⟩ = some (.int .i64 a3) := hx2.cells (by go_simp)
  have HX2 := Lib.hid (HXA.out.trans hx2)
  clear hx2 HI HXA
  go_wp2_with fail
  refine (HS.out _ HX2.out).mono ?_; rintro e w3 ⟨rfl, hx3⟩
  have HX3 := Lib.hid (HX1.out.trans (HX2.out.trans hx3))
  clear hx3 HS HX2 HX1 c0 c1 c2 c3
  go_wp2
  go_ret
  exact ⟨rfl, HX3.out⟩
set_option maxRecDepth 100000 in
set_option maxHeartbeats 8000000 in
theorem partB {co : Option Addr} {cc m : Nat} {bs : Nat → Nat} {w wc : World} {u1 u2 u3 u4 u5 u6 u7 u8 u9 u10 u11 u12 u13 u14 u15 u16 u17 u18 u19 u20 u21 u22 u23 u24 u25 u26 u27 u28 u29 u30 u31 u32 u33 u34 u35 u36 u37 u38 u39 u40 u41 u42 u43 u44 u45 u46 u47 u48 u49 u50 u51 u52 u53 u54 u55 u56 u57 u58 u59 u60 u61 u62 u63 u64 u65 u66 u67 u68 u69 u70 u71 u72 u73 u74 u75 u76 u77 u78 u79 u80 u81 u82 u83 u84 u85 u86 u87 u88 u89 u90 u91 u92 u93 u94 u95 u96 u97 u98 u99 u100 u101 u102 u103 u104 u105 u106 u107 u108 u109 u110 u111 u112 u113 u114 u115 u116 u117 u118 u119 u120 u121 u122 u123 u124 u125 u126 u127 u128 u129 u130 u131 u132 u133 u134 u135 u136 u137 u138 u139 u140 u141 u142 u143 u144 u145 u146 u147 u148 u149 u150 u151 u152 u153 u154 u155 u156 u157 u158 u159 u160 u161 u162 u163 u164 u165 u166 u167 u168 u169 u170 u171 u172 u173 u174 u175 u176 u177 u178 u179 u180 u181 u182 u183 u184 u185 u186 u187 u188 u189 u190 u191 u192 u193 u194 u195 u196 u197 u198 u199 u200 u201 u202 u203 u204 u205 u206 u207 u208 u209 u210 u211 u212 u213 u214 u215 u216 : Value}
    (HR : Hid (RowAt w co 1 m (by8 bs))) (HM : Hid (m ≤ 9223372036854775807)) (HBS : Hid (∀ k, bs k < 256)) (HX0 : Hid (Ext w wc)) :
    Code.wp Try.prog (dropS 6 (Try.f4.body.getD .skip)) (bodyPost Try.prog Try.f4 fun e w' => e = .returned (.bool true) ∧ Ext w w') ⟨#[.slice co m cc, u1, u2, u3, u4, u5, u6, u7, u8, u9, u10, u11, u12, u13, u14, u15, u16, u17, u18, u19, u20, u21, u22, u23, u24, u25, u26, u27, u28, u29, u30, u31, u32, u33, u34, u35, u36, u37, u38, u39, u40, u41, u42, u43, u44, u45, u46, u47, u48, u49, u50, u51, u52, u53, u54, u55, u56, u57, u58, u59, u60, u61, u62, u63, u64, u65, u66, u67, u68, u69, u70, u71, u72, u73, u74, u75, u76, u77, u78, u79, u80, u81, u82, u83, u84, u85, u86, u87, u88, u89, u90, u91, u92, u93, u94, u95, u96, u97, u98, u99, u100, u101, u102, u103, u104, u105, u106, u107, u108, u109, u110, u111, u112, u113, u114, u115, u116, u117, u118, u119, u120, u121, u122, u123, u124, u125, u126, u127, u128, u129, u130, u131, u132, u133, u134, u135, u136, u137, u138, u139, u140, u141, u142, u143, u144, u145, u146, u147, u148, u149, u150, u151, u152, u153, u154, u155, u156, u157, u158, u159, u160, u161, u162, u163, u164, u165, u166, u167, u168, u169, u170, u171, u172, u173, u174, u175, u176, u177, u178, u179, u180, u181, u182, u183, u184, u185, u186, u187, u188, u189, u190, u191, u192, u193, u194, u195, u196, u197, u198, u199, u200, u201, u202, u203, u204, u205, u206, u207, u208, u209, u210, u211, u212, u213, u214, u215, u216], []⟩ wc := by
  conv => arg 2; whnf
  have HD := Lib.hid (draw_due (cc := cc) (HR.out.ext HX0.out) HBS.out HM.out)
  go_wp2_with fail
  refine HD.out.mono ?_; rintro e w1 ⟨f, rb, ro, rc, rs, x, rfl, hf, hDR, hei, hx⟩
  obtain ⟨a0, a1, a2, a3⟩ := f
  obtain ⟨e0, e1, e2, e3, e4⟩ := x
  have h12 := hDR.len
  have HX1 := Lib.hid (HX0.out.trans hx)
  have HI := Lib.hid (fun y (hy : Ext w1 y) => impl_DueFor (w := y) (cap := rc) (a := a0) (c := a1) (r := a2) (l := a3) (e1 := e0) (e2 := e1) (d := e2) (t := e3) (p := e4) (hDR.fresh.row.ext hy) (by omega) (rnIns.strs hDR.ok) hDR.caps.1)
  have HS := Lib.hid (fun y (hy : Ext w1 y) => spec_DueFor (w := y) (cap := rc) (a := a0) (c := a1) (r := a2) (l := a3) (e1 := e0) (e2 := e1) (d := e2) (t := e3) (p := e4) (hDR.fresh.row.ext hy) (by omega) (rnIns.strs hDR.ok))
  have HIL := Lib.hid (fun y (hy : Ext w1 y) => impl_DueFor (w := y) (cap := rc) (a := a0) (c := a1) (r := a2) (l := a3) (e1 := e0) (e2 := e1) (d := 365) (t := e3) (p := e4) (hDR.fresh.row.ext hy) (by omega) (rnIns.strs hDR.ok) hDR.caps.1)
  have HAF := Lib.hid (fun y => impl_AreFees (w := y) (a := a0) (c := a1) (r := a2) (l := a3))
  obtain ⟨D, N, hdn, hlate⟩ := due_form ⟨a0, a1, a2, a3⟩ rs e0 e1 e2 e4 e3
  rw [hdn] at HI HS
  have HLATE := Lib.hid hlate
  have HXA := Lib.hid (((Ext.refl w1).alloc (.cells #[.int .i64 a0, .int .i64 a1, .int .i64 a2, .int .i64 a3] 50)).alloc (.cells #[.int .i64 e0, .int .i64 e1, .int .i64 e2, .bool e3, .int .i64 e4] 26))
  clear hf hDR hei hx HD HX0 hdn hlate
  have hDD : (D == D) = true := by simp
  have hNN : (N == N) = true := by simp
  dsimp only [Fee.val, Ent.val]
  go_wp2_with fail
  refine (HI.out _ HXA.out).mono ?_; rintro e w2 ⟨rfl, hx2⟩
  have c0 : w2.cell? ⟨w1.heap.size, 0, none⟩ = some (.int .i64 a0) := hx2.cells (by go_simp)
  have c1 : w2.cell? ⟨w1.heap.size, 1, none⟩ = some (.int .i64 a1) := hx2.cells (by go_simp)
  have c2 : w2.cell? ⟨w1.heap.size, 2, none⟩ = some (.int .i64 a2) := hx2.cells (by go_simp)
  have c3 : w2.cell? ⟨w1.heap.size, 3, none⟩ = some (.int .i64 a3) := hx2.cells (by go_simp)
  have d0 : w2.cell? ⟨w1.heap.size + 1, 0, none⟩ = some (.int .i64 e0) := hx2.cells (by go_simp)
  have d1 : w2.cell? ⟨w1.heap.size + 1, 1, none⟩ = some (.int .i64 e1) := hx2.cells (by go_simp)
  have d2 : w2.cell? ⟨w1.heap.size + 1, 2, none⟩ = some (.int .i64 e2) := hx2.cells (by go_simp)
  have d3 : w2.cell? ⟨w1.heap.size + 1, 3, none⟩ = some (.bool e3) := hx2.cells (by go_simp)
  have d4 : w2.cell? ⟨w1.heap.size + 1, 4, none⟩ = some (.int .i64 e4) := hx2.cells (by go_simp)
  have HX2 := Lib.hid (HXA.out.trans hx2)
  clear hx2 HI HXA
  go_wp2_with fail
  refine (HS.out _ HX2.out).mono ?_; rintro e w3 ⟨rfl, hx3⟩
  replace c0 := hx3.cells c0
  replace c1 := hx3.cells c1
  replace c2 := hx3.cells c2
  replace c3 := hx3.cells c3
  replace d0 := hx3.cells d0
  replace d1 := hx3.cells d1
  replace d2 := hx3.cells d2
  replace d3 := hx3.cells d3
  replace d4 := hx3.cells d4
  have HX3 := Lib.hid (HX2.out.trans hx3)
  clear hx3 HS HX2
  go_upto_if 164 with fail
  go_cut [] (fun wc => Ext w wc)
  case first =>
    cases N
    · go_wp2_with fail
      go_meet
      exact HX1.out.trans HX3.out
    · obtain ⟨hfb, D2, hd2, hle⟩ := HLATE.out rfl
      rw [hd2] at HIL
      rw [hfb] at HAF
      have hlt : ¬ D2 < D := by omega
      have hlb : decide (D2 < D) = false := by simpa using hlt
      clear hd2 hle hfb HLATE hDD hNN
      have hw3 : w1.heap.size + 1 < w3.heap.size := World.block_lt_of_cell? _ _ d0
      have hw4 : w1.heap.size < w3.heap.size := by omega
      go_wp2_with (first
        | (go_at_call 30; ((with_reducible refine (HIL.out _ (HX3.out.trans ((Ext.refl w3).alloc _))).mono ?_); rintro e w4 ⟨rfl, hx4⟩; replace c0 := hx4.cells (((Ext.refl w3).alloc _).cells c0); replace c1 := hx4.cells (((Ext.refl w3).alloc _).cells c1); replace c2 := hx4.cells (((Ext.refl w3).alloc _).cells c2); replace c3 := hx4.cells (((Ext.refl w3).alloc _).cells c3); have HX4 := Lib.hid (((Ext.refl w3).alloc _).trans hx4); clear hx4))
        | (go_at_call 35; ((with_reducible refine (HAF.out _).mono ?_); rintro e w5 ⟨rfl, hx5⟩)))
      go_meet
      exact (HX1.out.trans HX3.out).trans (HX4.out.trans hx5)
  case rest =>
    have HXC := Lib.hid hcut
    clear hcut
    exact (‹∀ (a : Act) (w : World), Code.wp Try.prog _ _ a w → _›) _ _ (partC HR HM HBS HXC)
set_option maxRecDepth 100000 in
set_option maxHeartbeats 8000000 in
theorem partA {co : Option Addr} {cc m : Nat} {bs : Nat → Nat} {w wc : World} {u1 u2 u3 u4 u5 u6 u7 u8 u9 u10 u11 u12 u13 u14 u15 u16 u17 u18 u19 u20 u21 u22 u23 u24 u25 u26 u27 u28 u29 u30 u31 u32 u33 u34 u35 u36 u37 u38 u39 u40 u41 u42 u43 u44 u45 u46 u47 u48 u49 u50 u51 u52 u53 u54 u55 u56 u57 u58 u59 u60 u61 u62 u63 u64 u65 u66 u67 u68 u69 u70 u71 u72 u73 u74 u75 u76 u77 u78 u79 u80 u81 u82 u83 u84 u85 u86 u87 u88 u89 u90 u91 u92 u93 u94 u95 u96 u97 u98 u99 u100 u101 u102 u103 u104 u105 u106 u107 u108 u109 u110 u111 u112 u113 u114 u115 u116 u117 u118 u119 u120 u121 u122 u123 u124 u125 u126 u127 u128 u129 u130 u131 u132 u133 u134 u135 u136 u137 u138 u139 u140 u141 u142 u143 u144 u145 u146 u147 u148 u149 u150 u151 u152 u153 u154 u155 u156 u157 u158 u159 u160 u161 u162 u163 u164 u165 u166 u167 u168 u169 u170 u171 u172 u173 u174 u175 u176 u177 u178 u179 u180 u181 u182 u183 u184 u185 u186 u187 u188 u189 u190 u191 u192 u193 u194 u195 u196 u197 u198 u199 u200 u201 u202 u203 u204 u205 u206 u207 u208 u209 u210 u211 u212 u213 u214 u215 u216 : Value}
    (HR : Hid (RowAt w co 1 m (by8 bs))) (HM : Hid (m ≤ 9223372036854775807)) (HBS : Hid (∀ k, bs k < 256)) (HX0 : Hid (Ext w wc)) :
    Code.wp Try.prog (dropS 2 (Try.f4.body.getD .skip)) (bodyPost Try.prog Try.f4 fun e w' => e = .returned (.bool true) ∧ Ext w w') ⟨#[.slice co m cc, u1, u2, u3, u4, u5, u6, u7, u8, u9, u10, u11, u12, u13, u14, u15, u16, u17, u18, u19, u20, u21, u22, u23, u24, u25, u26, u27, u28, u29, u30, u31, u32, u33, u34, u35, u36, u37, u38, u39, u40, u41, u42, u43, u44, u45, u46, u47, u48, u49, u50, u51, u52, u53, u54, u55, u56, u57, u58, u59, u60, u61, u62, u63, u64, u65, u66, u67, u68, u69, u70, u71, u72, u73, u74, u75, u76, u77, u78, u79, u80, u81, u82, u83, u84, u85, u86, u87, u88, u89, u90, u91, u92, u93, u94, u95, u96, u97, u98, u99, u100, u101, u102, u103, u104, u105, u106, u107, u108, u109, u110, u111, u112, u113, u114, u115, u116, u117, u118, u119, u120, u121, u122, u123, u124, u125, u126, u127, u128, u129, u130, u131, u132, u133, u134, u135, u136, u137, u138, u139, u140, u141, u142, u143, u144, u145, u146, u147, u148, u149, u150, u151, u152, u153, u154, u155, u156, u157, u158, u159, u160, u161, u162, u163, u164, u165, u166, u167, u168, u169, u170, u171, u172, u173, u174, u175, u176, u177, u178, u179, u180, u181, u182, u183, u184, u185, u186, u187, u188, u189, u190, u191, u192, u193, u194, u195, u196, u197, u198, u199, u200, u201, u202, u203, u204, u205, u206, u207, u208, u209, u210, u211, u212, u213, u214, u215, u216], []⟩ wc := by
  conv => arg 2; whnf
  have HD := Lib.hid (draw_open (cc := cc) (HR.out.ext HX0.out) HBS.out HM.out)
  go_wp2_with fail
  refine HD.out.mono ?_; rintro e v1 ⟨f, rb, ro, rc, rs, b, off, cap, xs, rfl, hf, hDR, hDE, hx⟩
  obtain ⟨a0, a1, a2, a3⟩ := f
  have h12 := hDR.len
  have h13 := hDE.len
  have HX1 := Lib.hid (HX0.out.trans hx)
  have HI := Lib.hid (fun y (hy : Ext v1 y) => impl_OpenSums (w := y) (cap := rc) (bcap := cap) (a := a0) (c := a1) (r := a2) (l := a3) (hDR.fresh.row.ext hy) (by omega) (rnIns.strs hDR.ok) hDR.caps.1 (hDE.fresh.row.ext hy) (by omega))
  have HS := Lib.hid (fun y (hy : Ext v1 y) => spec_OpenSums (w := y) (cap := rc) (bcap := cap) (a := a0) (c := a1) (r := a2) (l := a3) (hDR.fresh.row.ext hy) (by omega) (rnIns.strs hDR.ok) (hDE.fresh.row.ext hy) (by omega))
  have HDUE := Lib.hid (fun y (hy : Ext v1 y) (x : Ent) => impl_DueFor (w := y) (cap := rc) (a := a0) (c := a1) (r := a2) (l := a3) (e1 := x.runner) (e2 := x.cls) (d := x.day) (t := x.rent) (p := x.paid) (hDR.fresh.row.ext hy) (by omega) (rnIns.strs hDR.ok) hDR.caps.1)
  have HBILL := Lib.hid (fun y (hy : Ext v1 y) (s : ByteArray) => impl_ClubBill (w := y) (cap := rc) (bcap := cap) (a := a0) (c := a1) (r := a2) (l := a3) (club := s) (hDR.fresh.row.ext hy) (by omega) (rnIns.strs hDR.ok) hDR.caps.1 (hDE.fresh.row.ext hy) (by omega))
  have HCLUB := Lib.hid (fun y (hy : Ext v1 y) hb hl => impl_ClubsOf (w := y) (cap := rc) (hDR.fresh.row.ext hy) (rnIns.strs hDR.ok) hDR.caps.1 hb hl)
  have HROWE := Lib.hid hDE.fresh.row
  have HXA := Lib.hid ((Ext.refl v1).alloc (.cells #[.int .i64 a0, .int .i64 a1, .int .i64 a2, .int .i64 a3] 50))
  clear hf hDR hDE hx HD HX0
  have hxl : (opX ⟨a0, a1, a2, a3⟩ rs xs).length ≤ 13 := by
    unfold opX; split
    · rw [opL_len]; exact h13
    · simp
  unfold ResJ at HI HS
  obtain ⟨N, hN⟩ : ∃ N, N = opOk ⟨a0, a1, a2, a3⟩ rs xs := ⟨_, rfl⟩
  obtain ⟨M, hM⟩ : ∃ M, M = opX ⟨a0, a1, a2, a3⟩ rs xs := ⟨_, rfl⟩
  rw [← hN, ← hM] at HI HS
  rw [← hM] at hxl
  have HN := Lib.hid hN; have HMM := Lib.hid hM
  clear hN hM
  dsimp only [Fee.val]
  go_wp2_with fail
  refine (HI.out _ HXA.out).mono ?_; rintro e w2 ⟨mo, mc, rfl, hx2, hrow2⟩
  have c0 : w2.cell? ⟨v1.heap.size, 0, none⟩ = some (.int .i64 a0) := hx2.cells (by go_simp)
  have c1 : w2.cell? ⟨v1.heap.size, 1, none⟩ = some (.int .i64 a1) := hx2.cells (by go_simp)
  have c2 : w2.cell? ⟨v1.heap.size, 2, none⟩ = some (.int .i64 a2) := hx2.cells (by go_simp)
  have c3 : w2.cell? ⟨v1.heap.size, 3, none⟩ = some (.int .i64 a3) := hx2.cells (by go_simp)
  have HX2 := Lib.hid (HXA.out.trans hx2)
  have HM2 := Lib.hid hrow2
  clear hx2 HI HXA hrow2
  go_wp2_with fail
  refine (HS.out _ HX2.out).mono ?_; rintro e w3 ⟨so, sc, rfl, hx3, hrow3⟩
  replace c0 := hx3.cells c0
  replace c1 := hx3.cells c1
  replace c2 := hx3.cells c2
  replace c3 := hx3.cells c3
  have HX3 := Lib.hid (HX2.out.trans hx3)
  have HM3 := Lib.hid (HM2.out.ext hx3)
  have HRI := Lib.hid (laws_rInts (ac := mc) (bc := sc) (HM2.out.ext hx3) hrow3 (by omega))
  have hNN : (N == N) = true := by simp
  clear hx3 hrow3 HS HX2 HM2
  go_wp2_with fail
  refine HRI.out.mono ?_; rintro e w4 ⟨rfl, hx4⟩
  replace c0 := hx4.cells c0
  replace c1 := hx4.cells c1
  replace c2 := hx4.cells c2
  replace c3 := hx4.cells c3
  have HX4 := Lib.hid (HX3.out.trans hx4)
  have HM4 := Lib.hid (HM3.out.ext hx4)
  clear hx4 HRI HX3 HM3 hNN
  go_upto_if 68 with fail
  go_cut [] (fun wc => Ext w wc)
  case first =>
    cases N
    · go_wp2_with fail
      go_meet
      exact HX1.out.trans HX4.out
    · have HOK := Lib.hid HN.out.symm
      have HML := Lib.hid (HMM.out.trans (opX_yes HOK.out))
      have HLN := Lib.hid (show M.length = xs.length by rw [HML.out, opL_len])
      have HEN := Lib.hid (fun k (hk : k < xs.length) => entB_ok (entsB_at (opOk_at HOK.out).2.2.1 hk))
      have HOV := Lib.hid (fun k (hk : k < xs.length) => opV_bd (opOk_at HOK.out).1 rs (HEN.out k hk))
      have HW4 := Lib.hid (Ext.refl w4)
      go_upto_block 0 with fail
      go_cut [] (fun wx => Ext w4 wx)
      case first =>
        go_wp2_with fail
        go_loopw [10] (fun i wr => ∃ k : Nat, k ≤ xs.length ∧ i = .int .i64 k ∧ Ext w4 wr) (fun i _ => xs.length - (intOf i).toNat)
        case atStart => exact ⟨0, Nat.zero_le _, rfl, Ext.refl _⟩
        case round =>
          obtain ⟨k, hk, rfl, hx⟩ := hrel
          have HX := Lib.hid hx
          by_cases hlt : k < xs.length
          · obtain ⟨eb, eoff, ee, hce⟩ := (HROWE.out.ext (HX4.out.trans hx)) (by omega)
            injection ee with ee; injection ee with q1 q2; subst q1 q2
            obtain ⟨mb, moff, rfl, hcm⟩ := (HM4.out.ext hx) (by rw [HLN.out]; omega)
            have g0 := Grow.cells (hx.cells c0); have g1 := Grow.cells (hx.cells c1); have g2 := Grow.cells (hx.cells c2); have g3 := Grow.cells (hx.cells c3)
            have x0 := Grow.cells (hce k hlt 0 (by decide)); have x1 := Grow.cells (hce k hlt 1 (by decide)); have x2 := Grow.cells (hce k hlt 2 (by decide)); have x3 := Grow.cells (hce k hlt 3 (by decide)); have x4 := Grow.cells (hce k hlt 4 (by decide))
            simp only [Ent.c0, Ent.c1, Ent.c2, Ent.c3, Ent.c4, Nat.add_zero] at x0 x1 x2 x3 x4
            have HDK := Lib.hid (fun y (hy : Ext v1 y) => by have := HDUE.out y hy (nth xs k); rw [fee_due HOK.out hlt] at this; exact this)
            have HXK := Lib.hid (HX4.out.trans hx)
            have hb1 := HOV.out k hlt; have hb2 := (HEN.out k hlt).p
            have hm0 := hcm k (by rw [HLN.out]; exact hlt) 0 (by decide)
            simp only [ic] at hm0
            rw [show nth M k = opV ⟨a0, a1, a2, a3⟩ rs (nth xs k) by rw [HML.out]; exact opL_nth _ _ _ hlt] at hm0
            have hkm : (k : Int) < (M.length : Int) := by rw [HLN.out]; omega
            have hkn : (k : Int) < (xs.length : Int) := by omega
            have y4 := hce k hlt 4 (by decide)
            simp only [Nat.add_zero, Nat.mul_one, Ent.c4] at hm0 y4
            clear hx hce hcm
            go_wp2_with fail
            refine wp_region_ext (by kernel_rfl) (by kernel_rfl) ?_
            repeat (go_big_quiet_step ((go_at_call 30; with_reducible exact Calls.ext_of (HDK.out _ (HXK.out.trans (Grow.h _))))))
            refine wpQuiet_nil ?_
            rintro _ ⟨⟨w1, hx1⟩, rfl⟩
            have HX5 := Lib.hid (HX.out.trans hx1)
            replace hm0 := hx1.cells hm0; replace y4 := hx1.cells y4
            clear hx1 HDK g0 g1 g2 g3 x0 x1 x2 x3 x4
            generalize opV ⟨a0, a1, a2, a3⟩ rs (nth xs k) = V at *
            generalize (nth xs k).paid = P at *
            have hvp : V + P - P = V := by omega
            have hwr : IntKind.i64.wrap (V + P - P) = V := by rw [hvp]; exact IntWalk.i64_in _ (by omega)
            have hwr2 : IntKind.i64.wrap V = V := IntWalk.i64_in _ (by omega)
            have hee : (V == V) = true := by simp
            have hen : (V != V) = false := by simp
            clear hb1 hb2
            go_wp2_with fail
            go_quiet (fail)
            go_wp2_with fail
            go_roundw
            case rel => exact ⟨k + 1, by omega, by go_num, HX5.out.trans (Ext.drewQ _ _)⟩
            case measure => simp [intOf] <;> omega
          · have hkn : ¬ (k : Int) < (xs.length : Int) := by omega
            clear hx
            go_wp2_with fail
            go_meet
            exact HX.out
      case rest =>
        have HXQ := Lib.hid (HX4.out.trans hcut)
        have HMQ := Lib.hid (HM4.out.ext hcut)
        replace c0 := hcut.cells c0; replace c1 := hcut.cells c1; replace c2 := hcut.cells c2; replace c3 := hcut.cells c3
        clear hcut HX4 HM4 HDUE HOV HW4
        generalize wc = w5 at *
        have HCL := Lib.hid (HCLUB.out _ HXQ.out (opOk_at HOK.out).2.1 (rnsB_len (opOk_at HOK.out).2.1))
        clear HCLUB
        go_wp2_with fail
        refine HCL.out.mono ?_; rintro e w6 ⟨gb, gc, E, rfl, hx6, hrowE, hok⟩
        replace c0 := hx6.cells c0; replace c1 := hx6.cells c1; replace c2 := hx6.cells c2; replace c3 := hx6.cells c3
        have HX6 := Lib.hid (HXQ.out.trans hx6); have HRE := Lib.hid hrowE; have HM6 := Lib.hid (HMQ.out.ext hx6)
        have HCK := Lib.hid hok
        have hel : E.length ≤ 10 := Nat.le_trans hok.len (rnsB_len (opOk_at HOK.out).2.1)
        clear hx6 hrowE hok HCL HXQ HMQ
        have HSUM := Lib.hid (fun k hk => sumF_bd (g := billX ⟨a0, a1, a2, a3⟩ rs xs) (cs := E) (M := 1200000) (billX_bd HOK.out) k hk)
        have HFC := Lib.hid (fee_clubs HOK.out HCK.out)
        have HRS := Lib.hid (fun y (hy : Ext w6 y) => laws_rSum (cap := mc) (HM6.out.ext hy) (by omega) (fun k hk => by rw [HML.out] at hk ⊢; exact fee_sumI HOK.out k (by rw [opL_len] at hk; exact hk)))
        have HBI := Lib.hid (fun y (hy : Ext v1 y) (s : ByteArray) => by have := HBILL.out y hy s; rw [HOK.out] at this; exact this)
        have hsumE : sumU M M.length = sumF (billX ⟨a0, a1, a2, a3⟩ rs xs) E := by rw [HFC.out, HLN.out, HML.out]
        rw [hsumE] at HRS
        have HIB := Lib.hid (fun c => billX_bd HOK.out c)
        have HSC := Lib.hid (fun k (hk : k < E.length) => sumF_succ (billX ⟨a0, a1, a2, a3⟩ rs xs) hk)
        have HTK : Hid (sumF (billX ⟨a0, a1, a2, a3⟩ rs xs) (E.take E.length) = sumF (billX ⟨a0, a1, a2, a3⟩ rs xs) E) := Lib.hid (by rw [List.take_length])
        have hz : sumF (billX ⟨a0, a1, a2, a3⟩ rs xs) (E.take 0) = 0 := by simp [sumF]
        have HZ := Lib.hid hz
        clear hsumE hz HBILL HFC HCK HML HMM HN HOK HEN
        generalize billX ⟨a0, a1, a2, a3⟩ rs xs = G at *
        go_wp2_with fail
        go_loopw [15, 16] (fun s i wr => ∃ k : Nat, k ≤ E.length ∧ i = .int .i64 k ∧ s = .int .i64 (sumF G (E.take k)) ∧ Ext w6 wr) (fun _ i _ => E.length - (intOf i).toNat)
        case atStart => exact ⟨0, Nat.zero_le _, rfl, by rw [HZ.out], Ext.refl _⟩
        case round =>
          obtain ⟨k, hk, rfl, rfl, hx⟩ := hrel
          have HX := Lib.hid hx
          by_cases hlt : k < E.length
          · have hkn : (k : Int) < (E.length : Int) := by omega
            obtain ⟨eb, eoff, ee, hce⟩ := (HRE.out.ext hx) (by omega)
            injection ee with ee; injection ee with q1 q2; subst q1 q2
            have g0 := Grow.cells (hx.cells c0); have g1 := Grow.cells (hx.cells c1); have g2 := Grow.cells (hx.cells c2); have g3 := Grow.cells (hx.cells c3)
            have x0 := Grow.cells (hce k hlt 0 (by decide))
            simp only [scc, Nat.add_zero, Nat.zero_add, Nat.mul_one] at x0
            have HXK := Lib.hid (HX6.out.trans hx)
            have hb1 := HSUM.out k hk; have hb2 := HIB.out (nth E k)
            have hsc := HSC.out k hlt
            clear hx hce
            go_wp2_with fail
            refine wp_region_ext (by kernel_rfl) (by kernel_rfl) ?_
            repeat (go_big_quiet_step ((go_at_call 32; with_reducible exact Calls.ext_of (HBI.out _ (HXK.out.trans (Grow.h _)) _))))
            refine wpQuiet_nil ?_
            rintro _ ⟨⟨w1, hx1⟩, rfl⟩
            have HX7 := Lib.hid (HX.out.trans hx1)
            clear hx1 g0 g1 g2 g3 x0 HXK
            have hwr : IntKind.i64.wrap (sumF G (E.take k) + G (nth E k)) = sumF G (E.take k) + G (nth E k) := IntWalk.i64_in _ (by omega)
            have HSS := Lib.hid hsc
            clear hb1 hb2 hsc
            go_wp2_with fail
            go_roundw
            case rel => exact ⟨k + 1, by omega, by go_num, by rw [HSS.out], HX7.out⟩
            case measure => simp [intOf] <;> omega
          · have hkn : ¬ (k : Int) < (E.length : Int) := by omega
            obtain rfl : k = E.length := by omega
            clear hx
            rw [HTK.out]
            have hen : (sumF G E != sumF G E) = false := by simp
            have hee : (sumF G E == sumF G E) = true := by simp
            go_wp2_with fail
            refine (HRS.out _ HX.out).mono ?_; rintro e w7 ⟨rfl, rfl⟩
            go_wp2_with fail
            go_meet
            exact HX1.out.trans (HX6.out.trans HX.out)
  case rest =>
    have HXC := Lib.hid hcut
    clear hcut
    exact (‹∀ (a : Act) (w : World), Code.wp Try.prog _ _ a w → _›) _ _ (partB HR HM HBS HXC)
set_option maxRecDepth 100000 in
set_option maxHeartbeats 8000000 in
theorem walk {co : Option Addr} {cc m : Nat} {bs : Nat → Nat} {w : World} (hr : RowAt w co 1 m (by8 bs)) (hm : m ≤ 9223372036854775807) (hb : ∀ k, bs k < 256) :
    Calls Try.prog 4 #[.slice co m cc] w fun e w' => e = .returned (.bool true) ∧ Ext w w' := by
  have HV := Lib.hid (laws_rBig (ao := co) (cap := cc) (w := w) hm)
  have HR := Lib.hid hr; have HM := Lib.hid hm; have HBS := Lib.hid hb
  clear hr hb
  by_cases hbig : 65536 < m
  · have HBIG : Hid (decide (65536 < m) = true) := Lib.hid (by simpa using hbig)
    clear hbig hm
    go_enter Try.func4, Try.ntmps4
    go_wp2_with fail
    refine HV.out.mono ?_; rintro e w1 ⟨rfl, rfl⟩
    rw [HBIG.out]
    clear HV HBIG
    go_wp2
    go_ret
    exact ⟨rfl, Ext.refl _⟩
  · have HBIG : Hid (decide (65536 < m) = false) := Lib.hid (by simpa using hbig)
    clear hbig hm
    go_enter Try.func4, Try.ntmps4
    go_upto_region 1 with fail
    go_cut [38] (fun b wc => b = .bool false ∧ Ext w wc)
    case first =>
      go_wp2_with fail
      refine HV.out.mono ?_; rintro e w1 ⟨rfl, rfl⟩
      rw [HBIG.out]
      clear HV HBIG
      go_wp2_with fail
      go_meet
      exact ⟨rfl, Ext.refl _⟩
    case rest =>
      obtain ⟨rfl, hcut⟩ := hcut
      generalize wc = w0 at hcut ⊢
      have HXC := Lib.hid hcut
      clear hcut
      go_upto_if 38 with fail
      go_cut [] (fun wc => Ext w wc)
      case first =>
        go_wp2_with fail
        go_meet
        exact HXC.out
      case rest =>
        have HXC := Lib.hid hcut
        clear hcut
        exact (‹∀ (a : Act) (w : World), Code.wp Try.prog _ _ a w → _›) _ _ (partA HR HM HBS HXC)

set_option maxRecDepth 100000 in
theorem lifted (os : Os) (started : os.Started) (H : Type) (enc : TypeId × Value → H) :
    ReturnsInHanded {} Try.checked os 4 .any (Rows.fnFeesSpec.pre6 enc Try.prog Try.f4 Rows.fnFeesRow.domain false) (Rows.fnFeesSpec.post enc Try.prog Try.f4 false true false false) := by
  refine returnsInHanded_of_change (C := Try.checked) (by kernel_rfl) started (by kernel_rfl) Try.func4
    (ChangeSpec.witness6 (enc := enc) (C := Try.checked) false ⟨#[], #[.slice none 0 0], []⟩ 8 (by kernel_rfl) (by kernel_rfl) (by kernel_rfl) (by kernel_rfl)) ?_
  intro W base args ds gs before hval0 hW _ _
  have hval : ∀ (j : Nat) t v, Try.f4.params[j]? = some t → args[j]? = some v → Value.okWide Try.prog W .any base t v := hval0
  have hW' := hW
  obtain ⟨p, q, hA0, hV, rfl, hfz, hnd⟩ := hW
  have hA : DataW.TrodAll enc Try.prog W 0 (fun _ => true) true Try.f4.params.toList args.toList ds p := hA0
  rw [Try.params4] at hA hval
  obtain ⟨v0, vs0, d0, ds0, p0, q0, hargs, rfl, rfl, h0, r0⟩ := trodAll_cons hA
  obtain ⟨rfl, rfl, rfl⟩ := trodAll_nil r0
  obtain rfl : args = #[v0] := by cases args; simp_all
  obtain ⟨rfl, rfl⟩ := trodVars_none hV
  obtain ⟨ao0, cap0, m0, bs0, rfl, hl0, hr0, hw0⟩ := open_ByteS (hval 0 22 v0 rfl rfl) h0
  refine (walk hr0 hl0 hw0).mono fun e W' ⟨he, hx⟩ => ?_
  subst he
  exact ⟨_, rfl, law_post (by kernel_rfl) (by kernel_rfl) Try.underlying4 rfl rfl hW' rfl hx⟩

theorem holds : Rows.FnFeesSaid :=
  OpenClaim.holds_of_wide 4 Try.f4 rfl rfl rfl rfl rfl rfl rfl ⟨rfl, rfl, rfl, rfl, rfl⟩ rfl rfl rfl rfl rfl (by kernel_rfl) Try.func4 (by kernel_rfl)
    (of_decide_eq_true (by kernel_rfl)) (by unfold Func.isWrapper; first | (rw [if_pos (by decide +kernel)]; kernel_rfl) | (rw [if_neg (by decide +kernel)]; exact ⟨rfl, rfl⟩))
    (fun os started H enc _ => lifted os started H enc)

end Go.Proofs.Ytkejhhflpnfepaa.FnFees
