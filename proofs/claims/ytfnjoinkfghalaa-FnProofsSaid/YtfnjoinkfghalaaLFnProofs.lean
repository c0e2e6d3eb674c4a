/-
  Proved here: the law FnProofs answers true for every input and leaves its arguments as they were.
  Conditions: none.
-/
import Derived.Test.YtfnjoinkfghalaaPrfPl
import Derived.Test.YtfnjoinkfghalaaDrawP
import Derived.Test.YtfnjoinkfghalaaConS
import Derived.Test.YtfnjoinkfghalaaTByteS
import Derived.Deep.DrawnRows
import Derived.Deep.DeepCutAuto
namespace Go.Proofs.Ytfnjoinkfghalaa.FnProofs
open Go.ChangeShapes Go.WideShapes Go.ChangeAt Go.RowKit

theorem list_len {ms : List Prf} : (conRL ms).length ≤ 1000 ∧ ∀ k, k < (conRL ms).length → (nth (conRL ms) k).length ≤ 1000 := by
  unfold conRL
  split
  · rename_i hv
    have hl12 : ms.length ≤ 12 := by
      simp only [prfsB, Bool.and_eq_true, decide_eq_true_eq] at hv; exact hv.1
    have h1 := keyU_len ms ms.length
    have h2 : ms.length * ms.length ≤ 12 * 12 := Nat.mul_le_mul hl12 hl12
    unfold conL
    rw [List.length_map]
    refine ⟨by omega, fun k hk => ?_⟩
    simp [nth, hk]
  · exact ⟨by simp, fun k hk => by simp at hk⟩

/-- the code from a statement on -/
def dropS : Nat → Code → Code
  | 0, c => c
  | n + 1, .seq _ b => dropS n b
  | _ + 1, c => c
noncomputable def tail2C : Code := dropS 10 (Try.f5.body.getD .skip)

set_option maxRecDepth 100000 in
set_option maxHeartbeats 8000000 in
theorem tail2 {co : Option Addr} {cc m : Nat} {w wc : World} {u1 u2 u3 u4 u5 u6 u7 u8 u9 u10 u11 u12 u13 u14 u15 u16 u17 u18 u19 u20 u21 u22 u23 u24 u25 u26 u27 u28 u29 u30 u31 u32 u33 u34 u35 u36 u37 u38 u39 u40 u41 u42 u43 u44 u45 u46 u47 u48 u49 u50 u51 u52 u53 u54 u55 u56 u57 u58 u59 u60 u61 u62 u63 u64 u65 u66 u67 u68 u69 u70 u71 u72 u73 u74 u75 u76 u77 u78 u79 u80 u81 u82 u83 u84 u85 u86 u87 u88 u89 u90 u91 u92 u93 u94 u95 u96 u97 u98 u99 u100 u101 u102 u103 u104 u105 u106 u107 u108 u109 u110 u111 u112 u113 u114 u115 u116 u117 u118 u119 u120 u121 u122 u123 u124 u125 u126 u127 u128 u129 u130 u131 u132 u133 u134 u135 u136 u137 u138 u139 u140 u141 u142 u143 u144 u145 u146 u147 u148 u149 u150 u151 u152 u153 u154 u155 u156 u157 u158 u159 u160 u161 u162 u163 u164 u165 u166 u167 u168 u169 u170 u171 u172 u173 u174 u175 u176 u177 u178 u179 u180 u181 u182 u183 u184 u185 u186 u187 u188 u189 u190 u191 u192 u193 u194 u195 u196 u197 u198 u199 u200 u201 u202 u203 u204 u205 u206 u207 u208 u209 u210 u211 u212 u213 u214 u215 u216 u217 u218 u219 u220 u221 u222 u223 u224 u225 u226 u227 u228 u229 u230 u231 u232 u233 u234 u235 u236 u237 u238 u239 u240 u241 u242 u243 u244 u245 u246 u247 u248 u249 u250 u251 u252 u253 u254 u255 u256 u257 u258 u259 u260 u261 u262 u263 u264 u265 u266 u267 u268 u269 u270 u271 u272 u273 u274 u275 u276 u277 u278 u279 u280 u281 u282 u283 u284 u285 : Value}
    (HD3 : Hid (∀ x, Ext w x → Calls Try.prog 37 #[.slice co m cc] x fun e w' => ∃ (ao : Option Addr) (cap : Nat) (xs : List Prf) (r c : Int), e = .returned (.tuple #[.slice ao xs.length cap, .int .i64 r, .int .i64 c]) ∧ DrawnPrfs x.heap.size w' xs ao cap ∧ I64 r ∧ I64 c ∧ Ext x w'))
    (HD4 : Hid (∀ x, Ext w x → Calls Try.prog 39 #[.slice co m cc] x fun e w' => ∃ (ao : Option Addr) (cap : Nat) (xs : List Prf) (p : Prf), e = .returned (.tuple #[.slice ao xs.length cap, p.val]) ∧ DrawnPrfs x.heap.size w' xs ao cap ∧ prOk p ∧ Ext x w'))
    (HXC : Hid (Ext w wc)) :
    Code.wp Try.prog tail2C (bodyPost Try.prog Try.f5 fun e w' => e = .returned (.bool true) ∧ Ext w w') ⟨#[.slice co m cc, u1, u2, u3, u4, u5, u6, u7, u8, u9, u10, u11, u12, u13, u14, u15, u16, u17, u18, u19, u20, u21, u22, u23, u24, u25, u26, u27, u28, u29, u30, u31, u32, u33, u34, u35, u36, u37, u38, u39, u40, u41, u42, u43, u44, u45, u46, u47, u48, u49, u50, u51, u52, u53, u54, u55, u56, u57, u58, u59, u60, u61, u62, u63, u64, u65, u66, u67, u68, u69, u70, u71, u72, u73, u74, u75, u76, u77, u78, u79, u80, u81, u82, u83, u84, u85, u86, u87, u88, u89, u90, u91, u92, u93, u94, u95, u96, u97, u98, u99, u100, u101, u102, u103, u104, u105, u106, u107, u108, u109, u110, u111, u112, u113, u114, u115, u116, u117, u118, u119, u120, u121, u122, u123, u124, u125, u126, u127, u128, u129, u130, u131, u132, u133, u134, u135, u136, u137, u138, u139, u140, u141, u142, u143, u144, u145, u146, u147, u148, u149, u150, u151, u152, u153, u154, u155, u156, u157, u158, u159, u160, u161, u162, u163, u164, u165, u166, u167, u168, u169, u170, u171, u172, u173, u174, u175, u176, u177, u178, u179, u180, u181, u182, u183, u184, u185, u186, u187, u188, u189, u190, u191, u192, u193, u194, u195, u196, u197, u198, u199, u200, u201, u202, u203, u204, u205, u206, u207, u208, u209, u210, u211, u212, u213, u214, u215, u216, u217, u218, u219, u220, u221, u222, u223, u224, u225, u226, u227, u228, u229, u230, u231, u232, u233, u234, u235, u236, u237, u238, u239, u240, u241, u242, u243, u244, u245, u246, u247, u248, u249, u250, u251, u252, u253, u254, u255, u256, u257, u258, u259, u260, u261, u262, u263, u264, u265, u266, u267, u268, u269, u270, u271, u272, u273, u274, u275, u276, u277, u278, u279, u280, u281, u282, u283, u284, u285], []⟩ wc := by
  conv => arg 2; whnf
  go_wp2_with fail
  refine (HD3.out _ HXC.out).mono ?_; rintro e w2 ⟨ao, cap, xs, r, c, rfl, hD, hr6, hc6, hx⟩
  have hxl : xs.length ≤ 13 := hD.1
  have hnil := hD.2.2.1
  have HL := Lib.hid hD.2.2.2.row
  have HX2 := Lib.hid (HXC.out.trans hx)
  have HSI := Lib.hid (fun x h => impl_StrongestFor (w := x) (ao := ao) (cap := cap) (ms := xs) (r := r) (c := c) h (by omega) (by omega) hnil)
  have HSS := Lib.hid (fun x h => spec_StrongestFor (w := x) (ao := ao) (cap := cap) (ms := xs) (r := r) (c := c) h (by omega))
  have HAT := Lib.hid (fun (hB : strB xs r c = true) i hi => str_at (xs := xs) (r := r) (c := c) hB (i := i) hi)
  generalize strB xs r c = B at HSI HSS HAT
  generalize strP xs r c = P at HSI HSS HAT
  obtain ⟨p0, p1, p2, p3, p4⟩ := P
  dsimp only [Prf.val] at HSI HSS
  clear hD hx HXC HD3 hr6 hc6 hnil
  go_wp2_with fail
  refine (HSI.out _ HL.out).mono ?_; rintro e w3 ⟨rfl, hx⟩
  have hb0 : (w3.alloc (.cells #[.int .i64 p0, .int .i64 p1, .int .i64 p2, .int .i64 p3, .bool p4] 45)).cell? ⟨w3.heap.size, 0, none⟩ = some (.int .i64 p0) := by go_simp
  have hxb : Ext w2 (w3.alloc (.cells #[.int .i64 p0, .int .i64 p1, .int .i64 p2, .int .i64 p3, .bool p4] 45)) := hx.alloc _
  have HXB := Lib.hid hxb
  have HS2 := Lib.hid (HSS.out _ (HL.out.ext hxb))
  have HBX := Lib.hid (fun x (hx : Ext (w3.alloc (.cells #[.int .i64 p0, .int .i64 p1, .int .i64 p2, .int .i64 p3, .bool p4] 45)) x) => (show x.cell? ⟨w3.heap.size, 0, none⟩ = some (.int .i64 p0) ∧ x.cell? ⟨w3.heap.size, 1, none⟩ = some (.int .i64 p1) ∧ x.cell? ⟨w3.heap.size, 2, none⟩ = some (.int .i64 p2) ∧ x.cell? ⟨w3.heap.size, 3, none⟩ = some (.int .i64 p3) ∧ x.cell? ⟨w3.heap.size, 4, none⟩ = some (.bool p4) from ⟨hx.cells (by go_simp), hx.cells (by go_simp), hx.cells (by go_simp), hx.cells (by go_simp), hx.cells (by go_simp)⟩))
  clear hx hxb hb0 HSI HSS
  go_wp2_with fail
  refine HS2.out.mono ?_; rintro e w4 ⟨rfl, hx⟩
  obtain ⟨b0, b1, b2, b3, b4⟩ := HBX.out _ hx
  have bl := World.block_lt_of_cell? _ _ b0
  have HY4 := Lib.hid (show Ext w3 w4 from ((Ext.refl w3).alloc _).trans hx)
  have HX4 := Lib.hid (HX2.out.trans (HXB.out.trans hx))
  have HL4 := Lib.hid (HL.out.ext (HXB.out.trans hx))
  have HBK := Lib.hid (fun x (hy : Ext w4 x) => HBX.out x (hx.trans hy))
  clear hx HS2 HBX HX2 HXB HL
  go_upto_if 209 with fail
  go_cut [] (fun wc => Ext w4 wc)
  case first =>
    go_wp2_with fail
    go_meet
    exact (Ext.refl w4).alloc _
  case rest =>
  have HX5 := Lib.hid (HX4.out.trans hcut)
  have HL5 := Lib.hid (HL4.out.ext hcut)
  have HBK5 := Lib.hid (fun x (hy : Ext wc x) => HBK.out x (hcut.trans hy))
  clear hcut HX4 HL4 HBK b0 b1 b2 b3 b4 bl HY4
  generalize hwg : wc = w5 at HX5 HL5 HBK5 ⊢
  clear hwg
  go_upto_block 6 with fail
  go_cut [] (fun wx => Ext w5 wx)
  case first =>
    go_wp2_with fail
    go_loopw [26] (fun i wr => ∃ k : Nat, k ≤ xs.length ∧ i = .int .i64 k ∧ Ext w5 wr) (fun i _ => xs.length - (intOf i).toNat)
    case atStart => exact ⟨0, Nat.zero_le _, rfl, Ext.refl _⟩
    case round =>
      obtain ⟨k, hk, rfl, hx⟩ := hrel
      have HX := Lib.hid hx
      clear hx
      by_cases hlt : k < xs.length
      · have hk0 : (0 : Int) ≤ (k : Int) := by omega
        have hk1 : (k : Int) < (xs.length : Int) := by omega
        cases B
        · go_wp2
          go_meet
          exact HX.out
        · have hat := HAT.out rfl k hlt
          obtain ⟨b0, b1, b2, b3, b4⟩ := HBK5.out _ HX.out
          have bl := World.block_lt_of_cell? _ _ b0
          obtain ⟨lb, loff, rfl, hcell⟩ := (HL5.out.ext HX.out) (by omega)
          have d0 := hcell k hlt 0 (by decide)
          have d1 := hcell k hlt 1 (by decide)
          have d3 := hcell k hlt 3 (by decide)
          have d4 := hcell k hlt 4 (by decide)
          simp only [Prf.c0, Prf.c1, Prf.c3, Prf.c4, Nat.add_zero] at d0 d1 d3 d4
          clear hcell
          generalize (nth xs k).runner = a0 at d0 hat
          generalize (nth xs k).code = a1 at d1 hat
          generalize (nth xs k).weight = a3 at d3 hat
          generalize (nth xs k).against = a4 at d4 hat
          cases e1 : (a0 == r)
          · clear hat
            go_wp2
            go_quiet (fail)
            go_wp2
            go_roundw
            case rel => exact ⟨k + 1, by omega, by go_num, HX.out.trans (Ext.drewQ _ _)⟩
            case measure => simp [intOf] <;> omega
          · cases e2 : (a1 == c)
            · clear hat
              go_wp2
              go_quiet (fail)
              go_wp2
              go_roundw
              case rel => exact ⟨k + 1, by omega, by go_num, HX.out.trans (Ext.drewQ _ _)⟩
              case measure => simp [intOf] <;> omega
            · cases a4
              · have hle : decide (p3 < a3) = false := by
                  rw [e1, e2] at hat
                  simpa using hat
                clear hat
                go_wp2
                go_quiet (fail)
                go_wp2
                go_roundw
                case rel => exact ⟨k + 1, by omega, by go_num, HX.out.trans (Ext.drewQ _ _)⟩
                case measure => simp [intOf] <;> omega
              · clear hat
                go_wp2
                go_quiet (fail)
                go_wp2
                go_roundw
                case rel => exact ⟨k + 1, by omega, by go_num, HX.out.trans (Ext.drewQ _ _)⟩
                case measure => simp [intOf] <;> omega
      · have hnk : ¬ (k : Int) < (xs.length : Int) := by omega
        go_wp2
        go_meet
        exact HX.out
  case rest =>
  have HX6 := Lib.hid (HX5.out.trans hcut)
  clear hcut HX5 HL5 HBK5 HAT
  generalize hwg : wc = w6 at HX6 ⊢
  clear hwg
  go_wp2_with fail
  refine (HD4.out _ HX6.out).mono ?_; rintro e w7 ⟨ao2, cap2, ys, q, rfl, hD, hq, hx⟩
  have hyl : ys.length ≤ 13 := hD.1
  have hnil := hD.2.2.1
  have HY := Lib.hid hD.2.2.2.row
  have HX7 := Lib.hid (HX6.out.trans hx)
  obtain ⟨q0, q1, q2, q3, q4⟩ := q
  dsimp only [Prf.val]
  have hai := fun x h => impl_AddProof (w := x) (ao := ao2) (cap := cap2) (ms := ys) (p := ⟨q0, q1, q2, q3, q4⟩) h (by omega) (by omega) hnil
  have has := fun x h => spec_AddProof (w := x) (ao := ao2) (cap := cap2) (ms := ys) (p := ⟨q0, q1, q2, q3, q4⟩) h (by omega) (by omega) hnil
  have hlen : (addL ys ⟨q0, q1, q2, q3, q4⟩).length ≤ 14 := by unfold addL; split <;> simp <;> omega
  have hkn := @add_known ys ⟨q0, q1, q2, q3, q4⟩
  dsimp only [Prf.val] at hai has
  generalize addL ys ⟨q0, q1, q2, q3, q4⟩ = M at hai has hlen
  generalize addB ys ⟨q0, q1, q2, q3, q4⟩ = N at hai has hkn
  have HAI := Lib.hid hai; have HAS := Lib.hid has; have HKN := Lib.hid hkn
  have HQB := Lib.hid (show Ext w7 (w7.alloc (.cells #[.int .i64 q0, .int .i64 q1, .int .i64 q2, .int .i64 q3, .bool q4] 45)) from (Ext.refl _).alloc _)
  have HBX := Lib.hid (fun x (hx : Ext (w7.alloc (.cells #[.int .i64 q0, .int .i64 q1, .int .i64 q2, .int .i64 q3, .bool q4] 45)) x) => (show x.cell? ⟨w7.heap.size, 0, none⟩ = some (.int .i64 q0) ∧ x.cell? ⟨w7.heap.size, 1, none⟩ = some (.int .i64 q1) ∧ x.cell? ⟨w7.heap.size, 2, none⟩ = some (.int .i64 q2) ∧ x.cell? ⟨w7.heap.size, 3, none⟩ = some (.int .i64 q3) ∧ x.cell? ⟨w7.heap.size, 4, none⟩ = some (.bool q4) from ⟨hx.cells (by go_simp), hx.cells (by go_simp), hx.cells (by go_simp), hx.cells (by go_simp), hx.cells (by go_simp)⟩))
  clear hD hq hx hai has hkn hnil HX6 HD4
  go_wp2_with fail
  refine (HAI.out _ (HY.out.ext HQB.out)).mono ?_; rintro e w8 ⟨mo, mc, rfl, hx, hF⟩
  have HM := Lib.hid hF.row
  obtain ⟨b0, b1, b2, b3, b4⟩ := HBX.out _ hx
  have HX8 := Lib.hid (HQB.out.trans hx)
  have HQ8 := Lib.hid hx
  clear hF hx
  go_wp2_with fail
  refine (HAS.out _ (HY.out.ext HX8.out)).mono ?_; rintro e w9 ⟨mo2, mc2, rfl, hx, hF⟩
  have HM2 := Lib.hid hF.row
  have HM1 := Lib.hid (HM.out.ext hx)
  have HX9 := Lib.hid (HX7.out.trans (HX8.out.trans hx))
  have HQ9 := Lib.hid (HQ8.out.trans hx)
  clear hF hx b0 b1 b2 b3 b4 HM HX8 HQ8 HAI HAS HY HQB
  go_wp2_with fail
  refine (laws_rProofs (ac := mc) (bc := mc2) HM1.out HM2.out (by omega)).mono ?_; rintro e w10 ⟨rfl, hx⟩
  obtain ⟨b0, b1, b2, b3, b4⟩ := HBX.out _ (HQ9.out.trans hx)
  have HX10 := Lib.hid (HX9.out.trans hx)
  clear hx HQ9 HBX HM1 HM2
  cases N
  · go_wp2
    go_ret
    exact ⟨rfl, HX10.out⟩
  · have hpb := HKN.out rfl
    go_wp2_with fail
    refine impl_IsProof.mono ?_; rw [hpb]; rintro e w11 ⟨rfl, hx⟩
    have HX11 := Lib.hid (HX10.out.trans hx)
    clear hx b0 b1 b2 b3 b4
    go_wp2
    go_ret
    exact ⟨rfl, HX11.out⟩

noncomputable def tail1C : Code := dropS 6 (Try.f5.body.getD .skip)

set_option maxRecDepth 100000 in
set_option maxHeartbeats 8000000 in
theorem tail1 {co : Option Addr} {cc m : Nat} {w wc : World} {u1 u2 u3 u4 u5 u6 u7 u8 u9 u10 u11 u12 u13 u14 u15 u16 u17 u18 u19 u20 u21 u22 u23 u24 u25 u26 u27 u28 u29 u30 u31 u32 u33 u34 u35 u36 u37 u38 u39 u40 u41 u42 u43 u44 u45 u46 u47 u48 u49 u50 u51 u52 u53 u54 u55 u56 u57 u58 u59 u60 u61 u62 u63 u64 u65 u66 u67 u68 u69 u70 u71 u72 u73 u74 u75 u76 u77 u78 u79 u80 u81 u82 u83 u84 u85 u86 u87 u88 u89 u90 u91 u92 u93 u94 u95 u96 u97 u98 u99 u100 u101 u102 u103 u104 u105 u106 u107 u108 u109 u110 u111 u112 u113 u114 u115 u116 u117 u118 u119 u120 u121 u122 u123 u124 u125 u126 u127 u128 u129 u130 u131 u132 u133 u134 u135 u136 u137 u138 u139 u140 u141 u142 u143 u144 u145 u146 u147 u148 u149 u150 u151 u152 u153 u154 u155 u156 u157 u158 u159 u160 u161 u162 u163 u164 u165 u166 u167 u168 u169 u170 u171 u172 u173 u174 u175 u176 u177 u178 u179 u180 u181 u182 u183 u184 u185 u186 u187 u188 u189 u190 u191 u192 u193 u194 u195 u196 u197 u198 u199 u200 u201 u202 u203 u204 u205 u206 u207 u208 u209 u210 u211 u212 u213 u214 u215 u216 u217 u218 u219 u220 u221 u222 u223 u224 u225 u226 u227 u228 u229 u230 u231 u232 u233 u234 u235 u236 u237 u238 u239 u240 u241 u242 u243 u244 u245 u246 u247 u248 u249 u250 u251 u252 u253 u254 u255 u256 u257 u258 u259 u260 u261 u262 u263 u264 u265 u266 u267 u268 u269 u270 u271 u272 u273 u274 u275 u276 u277 u278 u279 u280 u281 u282 u283 u284 u285 : Value}
    (HD2 : Hid (∀ x, Ext w x → Calls Try.prog 33 #[.slice co m cc] x fun e w' => ∃ (ao : Option Addr) (cap : Nat) (xs : List Prf) (l : Int), e = .returned (.tuple #[.slice ao xs.length cap, .int .i64 l]) ∧ DrawnPrfs x.heap.size w' xs ao cap ∧ I64 l ∧ Ext x w'))
    (HD3 : Hid (∀ x, Ext w x → Calls Try.prog 37 #[.slice co m cc] x fun e w' => ∃ (ao : Option Addr) (cap : Nat) (xs : List Prf) (r c : Int), e = .returned (.tuple #[.slice ao xs.length cap, .int .i64 r, .int .i64 c]) ∧ DrawnPrfs x.heap.size w' xs ao cap ∧ I64 r ∧ I64 c ∧ Ext x w'))
    (HD4 : Hid (∀ x, Ext w x → Calls Try.prog 39 #[.slice co m cc] x fun e w' => ∃ (ao : Option Addr) (cap : Nat) (xs : List Prf) (p : Prf), e = .returned (.tuple #[.slice ao xs.length cap, p.val]) ∧ DrawnPrfs x.heap.size w' xs ao cap ∧ prOk p ∧ Ext x w'))
    (HXC : Hid (Ext w wc)) :
    Code.wp Try.prog tail1C (bodyPost Try.prog Try.f5 fun e w' => e = .returned (.bool true) ∧ Ext w w') ⟨#[.slice co m cc, u1, u2, u3, u4, u5, u6, u7, u8, u9, u10, u11, u12, u13, u14, u15, u16, u17, u18, u19, u20, u21, u22, u23, u24, u25, u26, u27, u28, u29, u30, u31, u32, u33, u34, u35, u36, u37, u38, u39, u40, u41, u42, u43, u44, u45, u46, u47, u48, u49, u50, u51, u52, u53, u54, u55, u56, u57, u58, u59, u60, u61, u62, u63, u64, u65, u66, u67, u68, u69, u70, u71, u72, u73, u74, u75, u76, u77, u78, u79, u80, u81, u82, u83, u84, u85, u86, u87, u88, u89, u90, u91, u92, u93, u94, u95, u96, u97, u98, u99, u100, u101, u102, u103, u104, u105, u106, u107, u108, u109, u110, u111, u112, u113, u114, u115, u116, u117, u118, u119, u120, u121, u122, u123, u124, u125, u126, u127, u128, u129, u130, u131, u132, u133, u134, u135, u136, u137, u138, u139, u140, u141, u142, u143, u144, u145, u146, u147, u148, u149, u150, u151, u152, u153, u154, u155, u156, u157, u158, u159, u160, u161, u162, u163, u164, u165, u166, u167, u168, u169, u170, u171, u172, u173, u174, u175, u176, u177, u178, u179, u180, u181, u182, u183, u184, u185, u186, u187, u188, u189, u190, u191, u192, u193, u194, u195, u196, u197, u198, u199, u200, u201, u202, u203, u204, u205, u206, u207, u208, u209, u210, u211, u212, u213, u214, u215, u216, u217, u218, u219, u220, u221, u222, u223, u224, u225, u226, u227, u228, u229, u230, u231, u232, u233, u234, u235, u236, u237, u238, u239, u240, u241, u242, u243, u244, u245, u246, u247, u248, u249, u250, u251, u252, u253, u254, u255, u256, u257, u258, u259, u260, u261, u262, u263, u264, u265, u266, u267, u268, u269, u270, u271, u272, u273, u274, u275, u276, u277, u278, u279, u280, u281, u282, u283, u284, u285], []⟩ wc := by
  conv => arg 2; whnf
  go_wp2_with fail
  refine (HD2.out _ HXC.out).mono ?_; rintro e w2 ⟨ao, cap, xs, l, rfl, hD, hl6, hx⟩
  have hxl : xs.length ≤ 13 := hD.1
  have hnil := hD.2.2.1
  have HL := Lib.hid hD.2.2.2.row
  have HX2 := Lib.hid (HXC.out.trans hx)
  have hai := fun x h => impl_DropWeak (w := x) (ao := ao) (cap := cap) (ms := xs) (l := l) h (by omega) hl6 (by omega) hnil
  have has := fun x h => spec_DropWeak (w := x) (ao := ao) (cap := cap) (ms := xs) (l := l) h (by omega) hl6 (by omega) hnil
  have hlen := drpL_len xs l
  have HAT := Lib.hid (fun i hi => drp_at (xs := xs) (l := l) (i := i) hi)
  generalize drpL xs l = M at hai has hlen HAT
  generalize drpB xs l = N at hai has
  have HAI := Lib.hid hai; have HAS := Lib.hid has
  clear hD hx hai has hnil hl6 HXC HD2
  go_wp2_with fail
  refine (HAI.out _ HL.out).mono ?_; rintro e w3 ⟨mo, mc, rfl, hx, hF⟩
  have HM := Lib.hid hF.row
  have HX3 := Lib.hid (HX2.out.trans hx)
  have HL3 := Lib.hid (HL.out.ext hx)
  clear hF hx HAI HX2 HL
  go_wp2_with fail
  refine (HAS.out _ HL3.out).mono ?_; rintro e w4 ⟨mo2, mc2, rfl, hx, hF⟩
  have HM2 := Lib.hid hF.row
  have HM1 := Lib.hid (HM.out.ext hx)
  have HX4 := Lib.hid (HX3.out.trans hx)
  clear hF hx HAS HX3 HL3 HM
  go_wp2_with fail
  refine (laws_rProofs (ac := mc) (bc := mc2) HM1.out HM2.out (by omega)).mono ?_; rintro e w5 ⟨rfl, hx⟩
  have HX5 := Lib.hid (HX4.out.trans hx)
  have HM5 := Lib.hid (HM1.out.ext hx)
  clear hx HX4 HM1 HM2
  go_upto_block 4 with fail
  go_cut [] (fun wx => Ext w5 wx)
  case first =>
    go_wp2_with fail
    go_loopw [18] (fun i wr => ∃ k : Nat, k ≤ M.length ∧ i = .int .i64 k ∧ Ext w5 wr) (fun i _ => M.length - (intOf i).toNat)
    case atStart => exact ⟨0, Nat.zero_le _, rfl, Ext.refl _⟩
    case round =>
      obtain ⟨k, hk, rfl, hx⟩ := hrel
      have HX := Lib.hid hx
      by_cases hlt : k < M.length
      · have hk0 : (0 : Int) ≤ (k : Int) := by omega
        have hk1 : (k : Int) < (M.length : Int) := by omega
        have hat := HAT.out k hlt
        obtain ⟨lb, loff, rfl, hcell⟩ := (HM5.out.ext hx) (by omega)
        have d3 := hcell k hlt 3 (by decide)
        simp only [Prf.c3, Nat.add_zero] at d3
        clear hcell hx
        go_wp2
        go_roundw
        case rel => exact ⟨k + 1, by omega, by go_num, HX.out⟩
        case measure => simp [intOf] <;> omega
      · have hnk : ¬ (k : Int) < (M.length : Int) := by omega
        clear hx
        go_wp2
        go_meet
        exact HX.out
  case rest =>
  have HXN := Lib.hid (HX5.out.trans hcut)
  clear hcut HX5 HM5 HAT
  rename_i hK
  exact hK _ _ (tail2 HD3 HD4 HXN)

set_option maxRecDepth 100000 in
set_option maxHeartbeats 8000000 in
theorem walk {co : Option Addr} {cc m : Nat} {bs : Nat → Nat} {w : World} (hr : RowAt w co 1 m (by8 bs)) (hm : m ≤ 9223372036854775807) (hb : ∀ k, bs k < 256) :
    Calls Try.prog 5 #[.slice co m cc] w fun e w' => e = .returned (.bool true) ∧ Ext w w' := by
  by_cases hbig : 65536 < m
  · go_enter Try.func5, Try.ntmps5
    go_wp2_with fail
    refine (laws_rBig hm).mono ?_; rintro e w1 ⟨rfl, rfl⟩
    rw [show decide (65536 < m) = true by simpa using hbig]
    go_wp2
    go_ret
    exact ⟨rfl, (by repeat (first | (with_reducible exact Ext.refl _) | (with_reducible assumption) | with_reducible refine Ext.drew ?_ | with_reducible refine Ext.alloc ?_ _ | with_reducible refine Ext.setCell ?_ (by first | (simp; done) | (simp; omega) | omega) _ | with_reducible refine Ext.trans ?_ (by with_reducible assumption)))⟩
  · have HD1 := Lib.hid (draw_contra (cc := cc) hr hb hm)
    have HD2 := Lib.hid (fun x (hx : Ext w x) => draw_weak (cc := cc) (hr.ext hx) hb hm)
    have HD3 := Lib.hid (fun x (hx : Ext w x) => draw_strong (cc := cc) (hr.ext hx) hb hm)
    have HD4 := Lib.hid (fun x (hx : Ext w x) => draw_addp (cc := cc) (hr.ext hx) hb hm)
    have HV := Lib.hid (laws_rBig (ao := co) (cap := cc) (w := w) hm)
    have HBIG : Hid (decide (65536 < m) = false) := Lib.hid (by simpa using hbig)
    clear hr hb hbig hm
    go_enter Try.func5, Try.ntmps5
    go_wp2_with fail
    refine HV.out.mono ?_; rintro e w1 ⟨rfl, rfl⟩
    rw [HBIG.out]
    clear HV HBIG
    go_wp2_with fail
    refine HD1.out.mono ?_; rintro e w1 ⟨ao, cap, xs, rfl, hD, hx⟩
    have hxl : xs.length ≤ 13 := hD.1
    have HL := Lib.hid hD.2.2.2.row
    have HX1 := Lib.hid hx
    have hai := fun x h => impl_Contradictions (w := x) (ao := ao) (cap := cap) (xs := xs) h (by omega)
    have has := fun x h => spec_Contradictions (w := x) (ao := ao) (cap := cap) (xs := xs) h (by omega)
    have HAP := Lib.hid (fun x h => impl_AreProofs (w := x) (ao := ao) (cap := cap) (ms := xs) h (by omega))
    obtain ⟨hl1, hl2⟩ := list_len (ms := xs)
    have HLL := Lib.hid (fun k hk => (show (nth (conRL xs) k).length ≤ 9223372036854775807 from by have := hl2 k hk; omega))
    have HAT := Lib.hid (fun i hi => con_at (xs := xs) (i := i) hi)
    generalize conRL xs = L at hai has hl1 HLL HAT
    generalize prfsB xs = N at hai has HAP
    have HAI := Lib.hid hai; have HAS := Lib.hid has
    clear hD hx hai has hl2 HD1
    go_wp2_with fail
    refine (HAI.out _ HL.out).mono ?_; rintro e w2 ⟨go, gc, gf, rfl, hx, hG⟩
    have HG := Lib.hid hG
    have HX2 := Lib.hid (HX1.out.trans hx)
    have HL2 := Lib.hid (HL.out.ext hx)
    clear hG hx HAI HX1 HL
    go_wp2_with fail
    refine (HAS.out _ HL2.out).mono ?_; rintro e w3 ⟨bo, bc, bf, rfl, hx, hW⟩
    have HW := Lib.hid hW
    have HX3 := Lib.hid (HX2.out.trans hx)
    have HL3 := Lib.hid (HL2.out.ext hx)
    have HG3 := Lib.hid (HG.out.ext hx)
    clear hW hx HAS HX2 HL2 HG
    go_wp2_with fail
    refine (laws_rTable (cap := gc) (cap' := bc) HG3.out.row HW.out.row (by omega) HLL.out).mono ?_; rintro e w4 ⟨rfl, hx⟩
    have HX4 := Lib.hid (HX3.out.trans hx)
    have HL4 := Lib.hid (HL3.out.ext hx)
    have HG4 := Lib.hid (HG3.out.ext hx)
    clear hx HX3 HL3 HG3 HW HLL
    go_wp2_with fail
    refine (HAP.out _ HL4.out).mono ?_; rintro e w5 ⟨rfl, hx⟩
    have HX5 := Lib.hid (HX4.out.trans hx)
    have HL5 := Lib.hid (HL4.out.ext hx)
    have HG5 := Lib.hid (HG4.out.ext hx).row
    clear hx HX4 HL4 HG4 HAP
    go_upto_block 0 with fail
    go_cut [] (fun wx => Ext w5 wx)
    case first =>
      go_wp2_with fail
      go_loopw [8] (fun i wr => ∃ k : Nat, k ≤ L.length ∧ i = .int .i64 k ∧ Ext w5 wr) (fun i _ => L.length - (intOf i).toNat)
      case atStart => exact ⟨0, Nat.zero_le _, rfl, Ext.refl _⟩
      case round =>
        obtain ⟨k, hk, rfl, hx⟩ := hrel
        have HX := Lib.hid hx
        by_cases hlt : k < L.length
        · obtain ⟨r, c, hrc, hs1, hs2, hpr⟩ := HAT.out k hlt
          have HS1 := Lib.hid hs1; have HS2 := Lib.hid hs2
          have hk0 : (0 : Int) ≤ (k : Int) := by omega
          have hk1 : (k : Int) < (L.length : Int) := by omega
          obtain ⟨ob, ooff, eo, hcell⟩ := (HG5.out.ext hx).outer (by omega)
          subst eo
          have HOC := Lib.hid hcell
          have HIN := Lib.hid (fun i hi => (HG5.out.ext hx).inner i hi)
          have d0 := hcell k hlt 0 (by decide)
          simp only [Nat.mul_one, Nat.add_zero, lenL, hrc] at d0
          obtain ⟨ib, ioff, ei, hic⟩ := (HG5.out.ext hx).inner k hlt (by simp [lenL, hrc])
          rw [ei] at d0
          have i0 := hic 0 (by simp [lenL, hrc]) 0 (by decide)
          have i1 := hic 1 (by simp [lenL, hrc]) 0 (by decide)
          simp only [icL, hrc, ic, Nat.mul_one, Nat.add_zero, Nat.zero_mul, Nat.one_mul] at i0 i1
          have i0' : wr.cell? ⟨ib, ioff, none⟩ = some (.int .i64 r) := i0
          have i1' : wr.cell? ⟨ib, ioff + 1, none⟩ = some (.int .i64 c) := i1
          have HPR := Lib.hid hpr
          clear hs1 hs2 hcell hic i0 i1 hpr
          have HD0 := Lib.hid d0; have HI0 := Lib.hid i0'; have HI1 := Lib.hid i1'
          clear hx d0 i0' i1' ei
          generalize hfc : (gf k).2 = fcap at HD0
          clear hfc
          go_upto_block 2 with fail
          go_cut [9, 10] (fun p q wx => p = .bool true ∧ q = .bool true ∧ Ext wr wx)
          case first =>
            go_wp2_with fail
            go_loopw [9, 10, 11] (fun p q i wz => ∃ j : Nat, j ≤ xs.length ∧ i = .int .i64 j ∧ p = .bool (sawU xs r c false j) ∧ q = .bool (sawU xs r c true j) ∧ Ext wr wz) (fun _ _ i _ => xs.length - (intOf i).toNat)
            case atStart => exact ⟨0, Nat.zero_le _, rfl, rfl, rfl, Ext.refl _⟩
            case round =>
              obtain ⟨j, hj, rfl, rfl, rfl, hy⟩ := hrel
              have HY := Lib.hid hy
              by_cases hjl : j < xs.length
              · have hj0 : (0 : Int) ≤ (j : Int) := by omega
                have hj1 : (j : Int) < (xs.length : Int) := by omega
                obtain ⟨lb, loff, rfl, hcell⟩ := (HL5.out.ext (HX.out.trans hy)) (by omega)
                have a0 := hcell j hjl 0 (by decide)
                have a1 := hcell j hjl 1 (by decide)
                have a4 := hcell j hjl 4 (by decide)
                simp only [Prf.c0, Prf.c1, Prf.c4, Nat.add_zero] at a0 a1 a4
                have d0 := hy.cells HD0.out
                have i0 := hy.cells HI0.out
                have i1 := hy.cells HI1.out
                have HSF := Lib.hid (show sawU xs r c false (j + 1) = (sawU xs r c false j || ((nth xs j).runner == r && (nth xs j).code == c && (nth xs j).against == false)) from rfl)
                have HST := Lib.hid (show sawU xs r c true (j + 1) = (sawU xs r c true j || ((nth xs j).runner == r && (nth xs j).code == c && (nth xs j).against == true)) from rfl)
                generalize sawU xs r c false j = PF at HSF ⊢
                generalize sawU xs r c true j = PT at HST ⊢
                generalize (nth xs j).runner = v0 at a0 HSF HST
                generalize (nth xs j).code = v1 at a1 HSF HST
                generalize (nth xs j).against = v4 at a4 HSF HST
                clear hcell hy
                cases e1 : (v0 == r)
                · rw [e1] at HSF HST
                  go_wp2
                  go_quiet (fail)
                  go_wp2
                  go_roundw
                  case rel => exact ⟨j + 1, by omega, by go_num, by rw [HSF.out]; simp, by rw [HST.out]; simp, HY.out.trans (Ext.drewQ _ _)⟩
                  case measure => simp [intOf] <;> omega
                · cases e2 : (v1 == c)
                  · rw [e1, e2] at HSF HST
                    go_wp2
                    go_quiet (fail)
                    go_wp2
                    go_roundw
                    case rel => exact ⟨j + 1, by omega, by go_num, by rw [HSF.out]; simp, by rw [HST.out]; simp, HY.out.trans (Ext.drewQ _ _)⟩
                    case measure => simp [intOf] <;> omega
                  · rw [e1, e2] at HSF HST
                    cases v4 <;> cases PF <;> cases PT
                    all_goals
                      go_wp2
                      go_quiet (fail)
                      go_wp2
                      go_roundw
                      case rel => exact ⟨j + 1, by omega, by go_num, by rw [HSF.out]; rfl, by rw [HST.out]; rfl, HY.out.trans (Ext.drewQ _ _)⟩
                      case measure => simp [intOf] <;> omega
              · obtain rfl : j = xs.length := by omega
                have hnj : ¬ (xs.length : Int) < (xs.length : Int) := by omega
                clear hy
                go_wp2
                go_meet
                exact ⟨by rw [HS1.out], by rw [HS2.out], HY.out⟩
          case rest =>
          obtain ⟨rfl, rfl, hy⟩ := hcut
          have d0 := hy.cells HD0.out
          have i0 := hy.cells HI0.out
          have HXY := Lib.hid (HX.out.trans hy)
          by_cases hkz : 0 < k
          · obtain ⟨m2, rfl⟩ : ∃ m2, k = m2 + 1 := ⟨k - 1, by omega⟩
            obtain ⟨r', c', hrc', hle⟩ := HPR.out hkz
            rw [Nat.add_sub_cancel] at hrc'
            have hdec : decide ((0 : Int) < ((m2 + 1 : Nat) : Int)) = true := by simp
            have e0 := hy.cells (HOC.out m2 (by omega) 0 (by decide))
            simp only [Nat.mul_one, Nat.add_zero, lenL, hrc'] at e0
            obtain ⟨jb, joff, ej, hjc⟩ := HIN.out m2 (by omega) (by simp [lenL, hrc'])
            rw [ej] at e0
            have j0 := hjc 0 (by simp [lenL, hrc']) 0 (by decide)
            simp only [icL, hrc', ic, Nat.mul_one, Nat.add_zero, Nat.zero_mul] at j0
            have j0' := hy.cells (show wr.cell? ⟨jb, joff, none⟩ = some (.int .i64 r') from j0)
            have hm0 : (0 : Int) ≤ (m2 : Int) := by omega
            have hm1 : (m2 : Int) < (L.length : Int) := by omega
            have hle2 : decide (r < r') = false := by simpa using hle
            clear hjc j0 hy ej
            go_wp2
            go_quiet (fail)
            go_wp2
            go_roundw
            case rel => exact ⟨m2 + 1 + 1, by omega, by go_num, HXY.out.trans (Ext.drewQ _ _)⟩
            case measure => simp [intOf] <;> omega
          · obtain rfl : k = 0 := by omega
            have hdec : decide ((0 : Int) < ((0 : Nat) : Int)) = false := by decide
            clear hy
            go_wp2
            go_quiet (fail)
            go_wp2
            go_roundw
            case rel => exact ⟨0 + 1, by omega, by go_num, HXY.out.trans (Ext.drewQ _ _)⟩
            case measure => simp [intOf] <;> omega
        · have hnk : ¬ (k : Int) < (L.length : Int) := by omega
          clear hx
          go_wp2
          go_meet
          exact HX.out
    case rest =>
      have HXC := Lib.hid (HX5.out.trans hcut)
      clear hcut HX5 HL5 HG5 HAT
      rename_i hK
      exact hK _ _ (tail1 HD2 HD3 HD4 HXC)

set_option maxRecDepth 100000 in
theorem lifted (os : Os) (started : os.Started) (H : Type) (enc : TypeId × Value → H) :
    ReturnsInHanded {} Try.checked os 5 .any (Rows.fnProofsSpec.pre6 enc Try.prog Try.f5 Rows.fnProofsRow.domain false) (Rows.fnProofsSpec.post enc Try.prog Try.f5 false true false false) := by
  refine returnsInHanded_of_change (C := Try.checked) (by kernel_rfl) started (by kernel_rfl) Try.func5
    (ChangeSpec.witness6 (enc := enc) (C := Try.checked) false ⟨#[], #[.slice none 0 0], []⟩ 8 (by kernel_rfl) (by kernel_rfl) (by kernel_rfl) (by kernel_rfl)) ?_
  intro W base args ds gs before hval0 hW _ _
  have hval : ∀ (j : Nat) t v, Try.f5.params[j]? = some t → args[j]? = some v → Value.okWide Try.prog W .any base t v := hval0
  have hW' := hW
  obtain ⟨p, q, hA0, hV, rfl, hfz, hnd⟩ := hW
  have hA : DataW.TrodAll enc Try.prog W 0 (fun _ => true) true Try.f5.params.toList args.toList ds p := hA0
  rw [Try.params5] at hA hval
  obtain ⟨v0, vs0, d0, ds0, p0, q0, hargs, rfl, rfl, h0, r0⟩ := trodAll_cons hA
  obtain ⟨rfl, rfl, rfl⟩ := trodAll_nil r0
  obtain rfl : args = #[v0] := by cases args; simp_all
  obtain ⟨rfl, rfl⟩ := trodVars_none hV
  obtain ⟨ao0, cap0, m0, bs0, rfl, hl0, hr0, hw0⟩ := open_ByteS (hval 0 34 v0 rfl rfl) h0
  refine (walk hr0 hl0 hw0).mono fun e W' ⟨he, hx⟩ => ?_
  subst he
  exact ⟨_, rfl, law_post (by kernel_rfl) (by kernel_rfl) Try.underlying4 rfl rfl hW' rfl hx⟩

theorem holds : Rows.FnProofsSaid :=
  OpenClaim.holds_of_wide 5 Try.f5 rfl rfl rfl rfl rfl rfl rfl ⟨rfl, rfl, rfl, rfl, rfl⟩ rfl rfl rfl rfl rfl (by kernel_rfl) Try.func5 (by kernel_rfl)
    (of_decide_eq_true (by kernel_rfl)) (by unfold Func.isWrapper; first | (rw [if_pos (by decide +kernel)]; kernel_rfl) | (rw [if_neg (by decide +kernel)]; exact ⟨rfl, rfl⟩))
    (fun os started H enc _ => lifted os started H enc)

end Go.Proofs.Ytfnjoinkfghalaa.FnProofs
