/-
  Proved here: the law FnCards answers true for every input and leaves its arguments as they were.
  Conditions: none.
-/
import Derived.Test.YtckgjpaccgpdpaaGreatDoorFnCW
import Derived.Test.YtckgjpaccgpdpaaGreatDoorVCard
import Derived.Test.YtckgjpaccgpdpaaGreatDoorVeq
import Derived.Test.YtckgjpaccgpdpaaGreatDoorCards11
import Derived.Test.YtckgjpaccgpdpaaGreatDoorPar2
import Derived.Test.YtckgjpaccgpdpaaGreatDoorTByteS
import Derived.Test.YtckgjpaccgpdpaaGreatDoorLaidE
import Derived.Test.YtckgjpaccgpdpaaGreatDoorCards
import Derived.Test.YtckgjpaccgpdpaaGreatDoorTie
import Derived.SevenTiedAt
import Derived.IntWalk
import Derived.Deep.DrawnRows
import Derived.Deep.DeepCutAuto
import Derived.Deep.CutBlock
namespace Go.Proofs.YtckgjpaccgpdpaaGreatDoor.FnCards
open Go.ChangeShapes Go.WideShapes Go.ChangeAt Go.RowKit

/-- the code behind the first K statements -/
def dropS : Nat → Code → Code
  | 0, c => c
  | n + 1, .seq _ b => dropS n b
  | _ + 1, c => c
theorem pr_back {s : ByteArray} (h : prB s = true) : cardB (prC s) = true ∧ bsOf (cardT (prC s)) = s := by
  have e : prC s = crd (splB 32 s) := by unfold prC; rw [if_pos h]
  unfold prB at h
  rw [Bool.and_eq_true, decide_eq_true_eq] at h
  rw [e]
  exact h

set_option maxRecDepth 100000 in
set_option maxHeartbeats 8000000 in
theorem partC {co : Option Addr} {cc m : Nat} {bs : Nat → Nat} {w wc : World} {u1 u2 u3 u4 u5 u6 u7 u8 u9 u10 u11 u12 u13 u14 u15 u16 u17 u18 u19 u20 u21 u22 u23 u24 u25 u26 u27 u28 u29 u30 u31 u32 u33 u34 u35 u36 u37 u38 u39 u40 u41 u42 u43 u44 u45 u46 u47 u48 u49 u50 u51 u52 u53 u54 u55 u56 u57 u58 u59 u60 u61 u62 u63 u64 u65 u66 u67 u68 u69 u70 u71 u72 u73 u74 u75 u76 u77 u78 u79 u80 u81 u82 u83 u84 u85 u86 u87 u88 u89 u90 u91 u92 u93 u94 u95 u96 u97 u98 u99 u100 u101 u102 u103 u104 u105 u106 u107 u108 u109 u110 u111 u112 u113 u114 u115 u116 u117 u118 u119 u120 u121 u122 u123 u124 u125 u126 u127 u128 u129 u130 u131 u132 u133 u134 u135 u136 u137 u138 u139 u140 u141 u142 u143 u144 u145 u146 u147 u148 u149 u150 u151 u152 u153 u154 u155 u156 u157 u158 u159 u160 u161 u162 u163 u164 u165 u166 u167 u168 u169 u170 u171 u172 u173 u174 u175 u176 u177 u178 u179 u180 u181 u182 u183 u184 u185 u186 u187 u188 u189 u190 u191 u192 u193 u194 u195 u196 u197 u198 u199 u200 u201 u202 u203 u204 u205 u206 u207 u208 u209 u210 u211 u212 u213 u214 u215 u216 u217 u218 u219 u220 u221 u222 u223 u224 u225 u226 u227 u228 u229 u230 u231 u232 u233 u234 u235 u236 u237 u238 u239 u240 u241 u242 u243 u244 u245 u246 u247 u248 u249 u250 u251 u252 u253 u254 u255 u256 u257 u258 u259 u260 u261 u262 u263 u264 u265 u266 u267 u268 u269 u270 u271 u272 u273 u274 u275 u276 u277 u278 u279 u280 u281 u282 u283 : Value}
    (HR : Hid (RowAt w co 1 m (by8 bs))) (HM : Hid (m ≤ 9223372036854775807)) (HBS : Hid (∀ k, bs k < 256)) (HX0 : Hid (Ext w wc)) (HPW : Hid (Pow w)) (HEV : Hid (ErrS w)) (HML : Hid (MaxL w)) :
    Code.wp Tryz.prog (dropS 14 (Tryz.f3.body.getD .skip)) (bodyPost Tryz.prog Tryz.f3 fun e w' => e = .returned (.bool true) ∧ Ext w w') ⟨#[.slice co m cc, u1, u2, u3, u4, u5, u6, u7, u8, u9, u10, u11, u12, u13, u14, u15, u16, u17, u18, u19, u20, u21, u22, u23, u24, u25, u26, u27, u28, u29, u30, u31, u32, u33, u34, u35, u36, u37, u38, u39, u40, u41, u42, u43, u44, u45, u46, u47, u48, u49, u50, u51, u52, u53, u54, u55, u56, u57, u58, u59, u60, u61, u62, u63, u64, u65, u66, u67, u68, u69, u70, u71, u72, u73, u74, u75, u76, u77, u78, u79, u80, u81, u82, u83, u84, u85, u86, u87, u88, u89, u90, u91, u92, u93, u94, u95, u96, u97, u98, u99, u100, u101, u102, u103, u104, u105, u106, u107, u108, u109, u110, u111, u112, u113, u114, u115, u116, u117, u118, u119, u120, u121, u122, u123, u124, u125, u126, u127, u128, u129, u130, u131, u132, u133, u134, u135, u136, u137, u138, u139, u140, u141, u142, u143, u144, u145, u146, u147, u148, u149, u150, u151, u152, u153, u154, u155, u156, u157, u158, u159, u160, u161, u162, u163, u164, u165, u166, u167, u168, u169, u170, u171, u172, u173, u174, u175, u176, u177, u178, u179, u180, u181, u182, u183, u184, u185, u186, u187, u188, u189, u190, u191, u192, u193, u194, u195, u196, u197, u198, u199, u200, u201, u202, u203, u204, u205, u206, u207, u208, u209, u210, u211, u212, u213, u214, u215, u216, u217, u218, u219, u220, u221, u222, u223, u224, u225, u226, u227, u228, u229, u230, u231, u232, u233, u234, u235, u236, u237, u238, u239, u240, u241, u242, u243, u244, u245, u246, u247, u248, u249, u250, u251, u252, u253, u254, u255, u256, u257, u258, u259, u260, u261, u262, u263, u264, u265, u266, u267, u268, u269, u270, u271, u272, u273, u274, u275, u276, u277, u278, u279, u280, u281, u282, u283], []⟩ wc := by
  conv => arg 2; whnf
  have HD := Lib.hid (draw_parse (cc := cc) (HR.out.ext HX0.out) HBS.out HM.out)
  go_wp2_with fail
  refine HD.out.mono ?_; rintro e w1 ⟨s, rfl, hs, hx⟩
  have HX1 := Lib.hid (HX0.out.trans hx)
  have hIP := impl_ParseCard (s := s) (w := w1) (by omega) (HPW.out.ext HX1.out) (HEV.out.ext HX1.out) (HML.out.ext HX1.out)
  have hSP := fun y => spec_ParseCard (s := s) (w := y) (by omega)
  have hCT := fun y go gc (hr : RowAt y go 2 (prC s).ps.length (fun k => (nth (prC s).ps k).c)) (hp : Pow y) => impl_CardText (w := y) (c := prC s) (ao := go) (cap := gc) hr (by have := prC_len s; omega) hp
  have hVC := fun y go gc ho hc (hr : RowAt y go 2 (prC s).ps.length (fun k => (nth (prC s).ps k).c)) (hr' : RowAt y ho 2 (prC s).ps.length (fun k => (nth (prC s).ps k).c)) => laws_vCard (w := y) (c := prC s) (ao := go) (bo := ho) (ac := gc) (bc := hc) hr hr' (by have := prC_len s; omega)
  have hbk := fun h => pr_back (s := s) h
  unfold ResP at hIP hSP
  obtain ⟨C, hC⟩ : ∃ C, C = prC s := ⟨_, rfl⟩
  obtain ⟨N, hN⟩ : ∃ N, N = prB s := ⟨_, rfl⟩
  rw [← hC, ← hN] at hIP hSP hbk
  simp only [← hC] at hCT hVC
  clear hC hN hx HD HR HM HBS HX0 hs
  have HBK := Lib.hid hbk
  obtain ⟨n0, n1, n2, ps⟩ := C
  unfold CardD.val at hIP hSP hCT hVC
  dsimp only at hIP hSP hCT hVC
  have HIP := Lib.hid hIP; have HSP := Lib.hid hSP; have HCT := Lib.hid hCT; have HVC := Lib.hid hVC
  clear hIP hSP hCT hVC hbk
  go_wp2_with fail
  refine HIP.out.mono ?_; rintro e w2 ⟨go, gc, rfl, hx2, hF2⟩
  have HROW := Lib.hid hF2.row
  have HX2 := Lib.hid (HX1.out.trans hx2)
  clear hx2 hF2 HIP HX1
  go_wp2_with fail
  refine (HCT.out _ _ _ (HROW.out.ext ((Ext.refl _).alloc _)) (HPW.out.ext (HX2.out.trans ((Ext.refl _).alloc _)))).mono ?_; rintro e w3 ⟨rfl, hx3⟩
  obtain ⟨p0, p1, p2, p3⟩ := Box4.of hx3
  have HX3 := Lib.hid (Ext.trans ((Ext.refl w2).alloc _) hx3)
  clear hx3 HCT
  obtain ⟨TX, hTX⟩ : ∃ TX, TX = (if cardB ⟨n0, n1, n2, ps⟩ then bsOf (cardT ⟨n0, n1, n2, ps⟩) else ByteArray.empty) := ⟨_, rfl⟩
  rw [← hTX]
  obtain ⟨A, hA⟩ : ∃ A, A = cardB ⟨n0, n1, n2, ps⟩ := ⟨_, rfl⟩
  rw [← hA]
  have HQ : Hid (N = true → A = true ∧ TX = s) := Lib.hid (fun h => by
    obtain ⟨h1, h2⟩ := HBK.out h
    refine ⟨by rw [hA, h1], ?_⟩
    rw [hTX, if_pos h1]; exact h2)
  clear hTX hA HBK
  go_wp2_with fail
  refine (HSP.out _).mono ?_; rintro e w4 ⟨ho, hc, rfl, hx4, hF4⟩
  replace p0 := hx4.cells p0; replace p1 := hx4.cells p1; replace p2 := hx4.cells p2; replace p3 := hx4.cells p3
  have pl := World.block_lt_of_cell? _ _ p0
  have HX4 := Lib.hid (HX3.out.trans hx4)
  have HVD := Lib.hid (HVC.out (w4.alloc (.cells #[.int .i64 n0, .int .i64 n1, .int .i64 n2, .slice ho ps.length hc] 26)) go gc ho hc (HROW.out.ext (HX4.out.trans ((Ext.refl _).alloc _))) (hF4.row.ext ((Ext.refl _).alloc _)))
  have HX5 := Lib.hid (HX2.out.trans (HX4.out.trans ((Ext.refl w4).alloc (.cells #[.int .i64 n0, .int .i64 n1, .int .i64 n2, .slice ho ps.length hc] 26))))
  clear hx4 hF4 HSP HVC HROW HX3 HX4 HX2
  cases N
  · clear HQ
    go_wp2_with fail
    refine HVD.out.mono ?_; rintro e w6 ⟨rfl, hx6⟩
    have HX6 := Lib.hid (HX5.out.trans hx6)
    clear hx6 HVD p0 p1 p2 p3 pl
    go_wp2
    go_ret
    exact ⟨rfl, HX6.out⟩
  · obtain ⟨rfl, rfl⟩ := HQ.out rfl
    have hss : (TX.toList == TX.toList) = true := by simp
    clear HQ
    go_wp2_with fail
    refine HVD.out.mono ?_; rintro e w6 ⟨rfl, hx6⟩
    have HX6 := Lib.hid (HX5.out.trans hx6)
    clear hx6 HVD p0 p1 p2 p3 pl
    go_wp2
    go_ret
    exact ⟨rfl, HX6.out⟩
set_option maxRecDepth 100000 in
set_option maxHeartbeats 8000000 in
theorem partB {co : Option Addr} {cc m : Nat} {bs : Nat → Nat} {w wc : World} {u1 u2 u3 u4 u5 u6 u7 u8 u9 u10 u11 u12 u13 u14 u15 u16 u17 u18 u19 u20 u21 u22 u23 u24 u25 u26 u27 u28 u29 u30 u31 u32 u33 u34 u35 u36 u37 u38 u39 u40 u41 u42 u43 u44 u45 u46 u47 u48 u49 u50 u51 u52 u53 u54 u55 u56 u57 u58 u59 u60 u61 u62 u63 u64 u65 u66 u67 u68 u69 u70 u71 u72 u73 u74 u75 u76 u77 u78 u79 u80 u81 u82 u83 u84 u85 u86 u87 u88 u89 u90 u91 u92 u93 u94 u95 u96 u97 u98 u99 u100 u101 u102 u103 u104 u105 u106 u107 u108 u109 u110 u111 u112 u113 u114 u115 u116 u117 u118 u119 u120 u121 u122 u123 u124 u125 u126 u127 u128 u129 u130 u131 u132 u133 u134 u135 u136 u137 u138 u139 u140 u141 u142 u143 u144 u145 u146 u147 u148 u149 u150 u151 u152 u153 u154 u155 u156 u157 u158 u159 u160 u161 u162 u163 u164 u165 u166 u167 u168 u169 u170 u171 u172 u173 u174 u175 u176 u177 u178 u179 u180 u181 u182 u183 u184 u185 u186 u187 u188 u189 u190 u191 u192 u193 u194 u195 u196 u197 u198 u199 u200 u201 u202 u203 u204 u205 u206 u207 u208 u209 u210 u211 u212 u213 u214 u215 u216 u217 u218 u219 u220 u221 u222 u223 u224 u225 u226 u227 u228 u229 u230 u231 u232 u233 u234 u235 u236 u237 u238 u239 u240 u241 u242 u243 u244 u245 u246 u247 u248 u249 u250 u251 u252 u253 u254 u255 u256 u257 u258 u259 u260 u261 u262 u263 u264 u265 u266 u267 u268 u269 u270 u271 u272 u273 u274 u275 u276 u277 u278 u279 u280 u281 u282 u283 : Value}
    (HR : Hid (RowAt w co 1 m (by8 bs))) (HM : Hid (m ≤ 9223372036854775807)) (HBS : Hid (∀ k, bs k < 256)) (HX0 : Hid (Ext w wc)) (HPW : Hid (Pow w)) (HEV : Hid (ErrS w)) (HML : Hid (MaxL w)) :
    Code.wp Tryz.prog (dropS 10 (Tryz.f3.body.getD .skip)) (bodyPost Tryz.prog Tryz.f3 fun e w' => e = .returned (.bool true) ∧ Ext w w') ⟨#[.slice co m cc, u1, u2, u3, u4, u5, u6, u7, u8, u9, u10, u11, u12, u13, u14, u15, u16, u17, u18, u19, u20, u21, u22, u23, u24, u25, u26, u27, u28, u29, u30, u31, u32, u33, u34, u35, u36, u37, u38, u39, u40, u41, u42, u43, u44, u45, u46, u47, u48, u49, u50, u51, u52, u53, u54, u55, u56, u57, u58, u59, u60, u61, u62, u63, u64, u65, u66, u67, u68, u69, u70, u71, u72, u73, u74, u75, u76, u77, u78, u79, u80, u81, u82, u83, u84, u85, u86, u87, u88, u89, u90, u91, u92, u93, u94, u95, u96, u97, u98, u99, u100, u101, u102, u103, u104, u105, u106, u107, u108, u109, u110, u111, u112, u113, u114, u115, u116, u117, u118, u119, u120, u121, u122, u123, u124, u125, u126, u127, u128, u129, u130, u131, u132, u133, u134, u135, u136, u137, u138, u139, u140, u141, u142, u143, u144, u145, u146, u147, u148, u149, u150, u151, u152, u153, u154, u155, u156, u157, u158, u159, u160, u161, u162, u163, u164, u165, u166, u167, u168, u169, u170, u171, u172, u173, u174, u175, u176, u177, u178, u179, u180, u181, u182, u183, u184, u185, u186, u187, u188, u189, u190, u191, u192, u193, u194, u195, u196, u197, u198, u199, u200, u201, u202, u203, u204, u205, u206, u207, u208, u209, u210, u211, u212, u213, u214, u215, u216, u217, u218, u219, u220, u221, u222, u223, u224, u225, u226, u227, u228, u229, u230, u231, u232, u233, u234, u235, u236, u237, u238, u239, u240, u241, u242, u243, u244, u245, u246, u247, u248, u249, u250, u251, u252, u253, u254, u255, u256, u257, u258, u259, u260, u261, u262, u263, u264, u265, u266, u267, u268, u269, u270, u271, u272, u273, u274, u275, u276, u277, u278, u279, u280, u281, u282, u283], []⟩ wc := by
  conv => arg 2; whnf
  have HD := Lib.hid (draw_text (cc := cc) (HR.out.ext HX0.out) HBS.out HM.out)
  go_wp2_with fail
  refine HD.out.mono ?_; rintro e w1 ⟨c, b, off, gc, rfl, hD, hx⟩
  have HX1 := Lib.hid (HX0.out.trans hx)
  have HROW := Lib.hid hD.2.2.2.2.row
  have hl12 := hD.1
  have HCT := fun y (hy : Ext w1 y) => impl_CardText (w := y) (c := c) (cap := gc) (HROW.out.ext hy) (by omega) (HPW.out.ext (HX1.out.trans hy))
  have HST := fun y (hy : Ext w1 y) => spec_CardText (w := y) (c := c) (cap := gc) (HROW.out.ext hy) (by omega)
  obtain ⟨T, hT⟩ : ∃ T, T = (if cardB c then bsOf (cardT c) else ByteArray.empty) := ⟨_, rfl⟩
  obtain ⟨A, hA⟩ : ∃ A, A = cardB c := ⟨_, rfl⟩
  have hts : T.size ≤ 1048576 := by
    rw [hT]; split
    · rename_i h
      have h1 := (card_bd h).textLen
      rw [show (bsOf (cardT c)).size = (cardT c).length by rw [Lib.size_eq]; rfl]
      omega
    · decide
  have HPC := fun y (hy : Ext w1 y) => impl_ParseCard (s := T) (w := y) hts (HPW.out.ext (HX1.out.trans hy)) (HEV.out.ext (HX1.out.trans hy)) (HML.out.ext (HX1.out.trans hy))
  unfold ResP at HPC
  obtain ⟨C, hC⟩ : ∃ C, C = prC T := ⟨_, rfl⟩
  obtain ⟨N, hN⟩ : ∃ N, N = prB T := ⟨_, rfl⟩
  have HQ : Hid (A = true → N = true ∧ C = c) := Lib.hid (fun h => by
    have h1 : cardB c = true := by rw [← hA, h]
    have h2 : bsOf (cardT c) = T := by rw [hT, if_pos h1]
    rw [hN, hC]
    exact pr_yes h1 h2)
  simp only [← hT] at HCT HST
  simp only [← hA] at HCT HST
  simp only [← hC, ← hN] at HPC
  clear hT hC hN hts hA hD hx HD
  have HVC := fun y go gc ho hc hr hr' => laws_vCard (w := y) (c := c) (ao := go) (bo := ho) (ac := gc) (bc := hc) hr hr' (by omega)
  unfold CardD.val at HCT HST HPC HVC
  have HCT := Lib.hid HCT; have HST := Lib.hid HST; have HPC := Lib.hid HPC; have HVC := Lib.hid HVC
  obtain ⟨n0, n1, n2, ps⟩ := c
  obtain ⟨m0, m1, m2, qs⟩ := C
  dsimp only at HCT HST HPC HVC HROW hl12
  unfold CardD.val
  dsimp only
  have HXA := Lib.hid ((Ext.refl w1).alloc (.cells #[.int .i64 n0, .int .i64 n1, .int .i64 n2, .slice (some ⟨b, off, none⟩) ps.length gc] 26))
  go_wp2_with fail
  refine (HCT.out _ HXA.out).mono ?_; rintro e w2 ⟨rfl, hx2⟩
  obtain ⟨q0, q1, q2, q3⟩ := Box4.of hx2
  have HX2 := Lib.hid (HXA.out.trans hx2)
  clear hx2 HXA HCT
  go_wp2_with fail
  refine (HPC.out _ HX2.out).mono ?_; rintro e w3 ⟨go, g3, rfl, hx3, hF3⟩
  obtain ⟨q0, q1, q2, q3⟩ := Box4.ext ⟨q0, q1, q2, q3⟩ hx3
  have ql := World.block_lt_of_cell? _ _ q0
  have HX3 := Lib.hid (HX2.out.trans hx3)
  have HF3 := Lib.hid hF3.row
  have HA3 := Lib.hid ((Ext.refl w3).alloc (.cells #[.int .i64 m0, .int .i64 m1, .int .i64 m2, .slice go qs.length g3] 26))
  clear hx3 hF3 HPC HX2
  go_wp2_with fail
  refine (HST.out _ (HX3.out.trans HA3.out)).mono ?_; rintro e w4 ⟨rfl, hx4⟩
  obtain ⟨q0, q1, q2, q3⟩ := Box4.ext ⟨q0, q1, q2, q3⟩ (HA3.out.trans hx4)
  have ql := World.block_lt_of_cell? _ _ q0
  obtain ⟨p0, p1, p2, p3⟩ := Box4.of hx4
  have pl := World.block_lt_of_cell? _ _ p0
  have HX4 := Lib.hid (HX3.out.trans (HA3.out.trans hx4))
  have HF4 := Lib.hid (HF3.out.ext (HA3.out.trans hx4))
  clear hx4 HST HX3 HA3 HF3
  go_upto_region 33 with fail
  go_cut [246] (fun b wc => b = .bool false ∧ Ext w wc)
  case first =>
    have htt : (T.toList == T.toList) = true := by simp
    cases A
    · clear HQ HVC HF4
      go_wp2_with fail
      go_meet
      exact ⟨rfl, HX1.out.trans HX4.out⟩
    · obtain ⟨rfl, hc⟩ := HQ.out rfl
      injection hc with c0 c1 c2 c3
      subst c0 c1 c2 c3
      clear HQ
      have HV := Lib.hid (HVC.out w4 go g3 (some ⟨b, off, none⟩) gc HF4.out (HROW.out.ext HX4.out))
      clear HVC HF4
      go_wp2_with fail
      refine HV.out.mono ?_; rintro e w5 ⟨rfl, hx5⟩
      have HX5 := Lib.hid (HX1.out.trans (HX4.out.trans hx5))
      clear hx5 HV p0 p1 p2 p3 pl q0 q1 q2 q3 ql
      go_wp2_with fail
      go_meet
      exact ⟨rfl, HX5.out⟩
  case rest =>
    obtain ⟨rfl, hcut⟩ := hcut
    have HXC := Lib.hid hcut
    clear hcut
    rename World => w5
    go_upto_if 246 with fail
    go_cut [] (fun wc => Ext w wc)
    case first =>
      go_wp2_with fail
      go_meet
      exact HXC.out
    case rest =>
    have HXC := Lib.hid hcut
    clear hcut
    exact (‹∀ (a : Act) (w : World), Code.wp Tryz.prog _ _ a w → _›) _ _ (partC HR HM HBS HXC HPW HEV HML)
/-- what the loop over the codes found meets -/
structure FF (L M E cs : List Int) (ps : List Pch) (r : Nat) (lf : Nat → Int) (nf : Nat → Nat) : Prop where
  len : L.length = cs.length
  l0 : lf 0 = -1
  n0 : nf 0 = 0
  le : ∀ k, nf k ≤ k
  at' : ∀ k, k < cs.length → (nth L k < 0 ∧ lf (k + 1) = lf k ∧ nf (k + 1) = nf k) ∨ ∃ q : Nat, nth L k = q ∧ lf k < q ∧ q < ps.length ∧ (nth ps q).code = nth cs k ∧ hasI E E.length q = false ∧ lf (k + 1) = q ∧ nf (k + 1) = nf k + 1
  mi : nf cs.length + M.length = cs.length
  ex : nf cs.length + E.length = ps.length
  ge : nf cs.length ≤ r
theorem nth_mem {xs : List Int} {k : Nat} (h : k < xs.length) : nth xs k ∈ xs := by
  have e : nth xs k = xs[k] := by simp [nth, List.getD, List.getElem?_eq_getElem h]
  rw [e]; exact List.getElem_mem h
theorem found_facts {c : CardD} {cs : List Int} (h : askB c cs = true) : FF (foL c cs) (miL c cs) (exL c cs) cs c.ps (lcsB cs (pco c) 0 0) (lastF c cs) (cntF c cs) := by
  unfold foL miL exL
  rw [if_pos h, if_pos h, if_pos h]
  refine ⟨fL_len _ _ _, rfl, rfl, cntF_le c cs, fun k hk => ?_, mi_cnt c cs _, ex_all c cs, (most_ge c cs).1⟩
  rw [fL_nth c cs hk]
  rcases fI_or c cs k with ⟨h1, _, _⟩ | ⟨q, h1, h2, h3, h4, h5⟩
  · exact .inl ⟨h1, by rw [lastF, if_pos h1], by rw [cntF, if_pos h1]⟩
  · refine .inr ⟨q, h1, by rw [lastF_eq]; omega, h3, h5, hasI_no fun j hj e => ?_, by rw [lastF, if_neg (by omega), h1], by rw [cntF, if_neg (by omega)]⟩
    exact exU_no c cs ((foN_mem c cs _ q).2 ⟨k, hk, h1⟩) _ (e ▸ nth_mem hj)
theorem most_shape (c : CardD) (cs : List Int) : ∃ r : Nat, gMost c cs = .tuple #[.int .i64 r, .bool (askB c cs)] ∧ (askB c cs = true → r = lcsB cs (pco c) 0 0) ∧ r ≤ cs.length := by
  unfold gMost
  split
  · rename_i h
    exact ⟨_, by rw [h], fun _ => rfl, lcsB_le _ _ _ _⟩
  · rename_i h
    exact ⟨0, by rw [Bool.eq_false_iff.2 h]; rfl, (fun hb => absurd hb h), by omega⟩

set_option maxRecDepth 100000 in
set_option maxHeartbeats 8000000 in
theorem partA {co : Option Addr} {cc m : Nat} {bs : Nat → Nat} {w wc : World} {u1 u2 u3 u4 u5 u6 u7 u8 u9 u10 u11 u12 u13 u14 u15 u16 u17 u18 u19 u20 u21 u22 u23 u24 u25 u26 u27 u28 u29 u30 u31 u32 u33 u34 u35 u36 u37 u38 u39 u40 u41 u42 u43 u44 u45 u46 u47 u48 u49 u50 u51 u52 u53 u54 u55 u56 u57 u58 u59 u60 u61 u62 u63 u64 u65 u66 u67 u68 u69 u70 u71 u72 u73 u74 u75 u76 u77 u78 u79 u80 u81 u82 u83 u84 u85 u86 u87 u88 u89 u90 u91 u92 u93 u94 u95 u96 u97 u98 u99 u100 u101 u102 u103 u104 u105 u106 u107 u108 u109 u110 u111 u112 u113 u114 u115 u116 u117 u118 u119 u120 u121 u122 u123 u124 u125 u126 u127 u128 u129 u130 u131 u132 u133 u134 u135 u136 u137 u138 u139 u140 u141 u142 u143 u144 u145 u146 u147 u148 u149 u150 u151 u152 u153 u154 u155 u156 u157 u158 u159 u160 u161 u162 u163 u164 u165 u166 u167 u168 u169 u170 u171 u172 u173 u174 u175 u176 u177 u178 u179 u180 u181 u182 u183 u184 u185 u186 u187 u188 u189 u190 u191 u192 u193 u194 u195 u196 u197 u198 u199 u200 u201 u202 u203 u204 u205 u206 u207 u208 u209 u210 u211 u212 u213 u214 u215 u216 u217 u218 u219 u220 u221 u222 u223 u224 u225 u226 u227 u228 u229 u230 u231 u232 u233 u234 u235 u236 u237 u238 u239 u240 u241 u242 u243 u244 u245 u246 u247 u248 u249 u250 u251 u252 u253 u254 u255 u256 u257 u258 u259 u260 u261 u262 u263 u264 u265 u266 u267 u268 u269 u270 u271 u272 u273 u274 u275 u276 u277 u278 u279 u280 u281 u282 u283 : Value}
    (HR : Hid (RowAt w co 1 m (by8 bs))) (HM : Hid (m ≤ 9223372036854775807)) (HBS : Hid (∀ k, bs k < 256)) (HX0 : Hid (Ext w wc)) (HPW : Hid (Pow w)) (HEV : Hid (ErrS w)) (HML : Hid (MaxL w)) :
    Code.wp Tryz.prog (dropS 2 (Tryz.f3.body.getD .skip)) (bodyPost Tryz.prog Tryz.f3 fun e w' => e = .returned (.bool true) ∧ Ext w w') ⟨#[.slice co m cc, u1, u2, u3, u4, u5, u6, u7, u8, u9, u10, u11, u12, u13, u14, u15, u16, u17, u18, u19, u20, u21, u22, u23, u24, u25, u26, u27, u28, u29, u30, u31, u32, u33, u34, u35, u36, u37, u38, u39, u40, u41, u42, u43, u44, u45, u46, u47, u48, u49, u50, u51, u52, u53, u54, u55, u56, u57, u58, u59, u60, u61, u62, u63, u64, u65, u66, u67, u68, u69, u70, u71, u72, u73, u74, u75, u76, u77, u78, u79, u80, u81, u82, u83, u84, u85, u86, u87, u88, u89, u90, u91, u92, u93, u94, u95, u96, u97, u98, u99, u100, u101, u102, u103, u104, u105, u106, u107, u108, u109, u110, u111, u112, u113, u114, u115, u116, u117, u118, u119, u120, u121, u122, u123, u124, u125, u126, u127, u128, u129, u130, u131, u132, u133, u134, u135, u136, u137, u138, u139, u140, u141, u142, u143, u144, u145, u146, u147, u148, u149, u150, u151, u152, u153, u154, u155, u156, u157, u158, u159, u160, u161, u162, u163, u164, u165, u166, u167, u168, u169, u170, u171, u172, u173, u174, u175, u176, u177, u178, u179, u180, u181, u182, u183, u184, u185, u186, u187, u188, u189, u190, u191, u192, u193, u194, u195, u196, u197, u198, u199, u200, u201, u202, u203, u204, u205, u206, u207, u208, u209, u210, u211, u212, u213, u214, u215, u216, u217, u218, u219, u220, u221, u222, u223, u224, u225, u226, u227, u228, u229, u230, u231, u232, u233, u234, u235, u236, u237, u238, u239, u240, u241, u242, u243, u244, u245, u246, u247, u248, u249, u250, u251, u252, u253, u254, u255, u256, u257, u258, u259, u260, u261, u262, u263, u264, u265, u266, u267, u268, u269, u270, u271, u272, u273, u274, u275, u276, u277, u278, u279, u280, u281, u282, u283], []⟩ wc := by
  conv => arg 2; whnf
  have HD := Lib.hid (draw_found (cc := cc) (HR.out.ext HX0.out) HBS.out HM.out)
  go_wp2_with fail
  refine HD.out.mono ?_; rintro e v1 ⟨c, b, off, gc, cs, ao, cap, rfl, hD, hI, hx⟩
  have HX1 := Lib.hid (HX0.out.trans hx)
  have HRC := Lib.hid hD.2.2.2.2.row
  have HRI := Lib.hid hI.2.2.2.row
  have hl12 := hD.1
  have hl14 := hI.1
  have hcap : c.ps.length ≤ gc ∧ gc ≤ 9223372036854775807 := ⟨hD.2.2.1, hD.2.2.2.1⟩
  have hbb : ∃ b' off', (some ⟨b, off, none⟩ : Option Addr) = some ⟨b', off', none⟩ := ⟨_, _, rfl⟩
  have HFI := fun y (hy : Ext v1 y) => impl_FoundAt (w := y) (c := c) (cap := gc) (bcap := cap) (HRC.out.ext hy) hcap (HRI.out.ext hy) (by omega)
  have HFS := fun y (hy : Ext v1 y) => spec_FoundAt (w := y) (c := c) (cap := gc) (bcap := cap) (HRC.out.ext hy) hcap (HRI.out.ext hy) (by omega)
  have HMI := fun y (hy : Ext v1 y) => impl_MissingCodes (w := y) (c := c) (cap := gc) (bcap := cap) (HRC.out.ext hy) hcap (HRI.out.ext hy) (by omega)
  have HMS := fun y (hy : Ext v1 y) => spec_MissingCodes (w := y) (c := c) (cap := gc) (bcap := cap) (HRC.out.ext hy) hcap (HRI.out.ext hy) (by omega)
  have HEI := fun y (hy : Ext v1 y) => impl_ExtraPunches (w := y) (c := c) (cap := gc) (bcap := cap) (HRC.out.ext hy) hcap (HRI.out.ext hy) (by omega)
  have HES := fun y (hy : Ext v1 y) => spec_ExtraPunches (w := y) (c := c) (cap := gc) (bcap := cap) (HRC.out.ext hy) hcap (HRI.out.ext hy) (by omega)
  have HCI := fun y (hy : Ext v1 y) => impl_IsCard (w := y) (c := c) (cap := gc) (HRC.out.ext hy) (by omega)
  have HCS := fun y (hy : Ext v1 y) => spec_IsCard (w := y) (c := c) (cap := gc) (HRC.out.ext hy) (by omega)
  have HMO := fun y (hy : Ext v1 y) => impl_MostFound (w := y) (c := c) (cap := gc) (bcap := cap) (HRC.out.ext hy) hcap (HRI.out.ext hy) (by omega)
  obtain ⟨r, hr, hr1, hr2⟩ := most_shape c cs
  rw [hr] at HMO
  have hff := fun h => (hr1 h).symm ▸ found_facts (c := c) (cs := cs) h
  have hLl := foL_len c cs
  have hMl := miL_len c cs
  have hEl := exL_len c cs
  clear hr hr1 hD hI hx HD HX0 hbb
  generalize foL c cs = L at *
  generalize miL c cs = M at *
  generalize exL c cs = E at *
  generalize askB c cs = A at *
  generalize cardB c = B at *
  have HFF := Lib.hid hff
  clear hff
  obtain ⟨n0, n1, n2, ps⟩ := c
  unfold CardD.val at HFI HFS HMI HMS HEI HES HCI HCS HMO
  unfold CardD.val
  dsimp only at HFI HFS HMI HMS HEI HES HCI HCS HMO HFF HRC hl12 hcap
  dsimp only
  have HFI := Lib.hid HFI; have HFS := Lib.hid HFS; have HMI := Lib.hid HMI; have HMS := Lib.hid HMS; have HEI := Lib.hid HEI; have HES := Lib.hid HES; have HCI := Lib.hid HCI; have HCS := Lib.hid HCS; have HMO := Lib.hid HMO
  have HXA := Lib.hid ((Ext.refl v1).alloc (.cells #[.int .i64 n0, .int .i64 n1, .int .i64 n2, .slice (some ⟨b, off, none⟩) ps.length gc] 26))
  have hAA : (A != A) = false := by simp
  have hBB : (B != B) = false := by simp
  go_wp2_with fail
  refine (HFI.out _ HXA.out).mono ?_; rintro e w2 ⟨lo, lc, rfl, hx2, hF2⟩
  obtain ⟨q0, q1, q2, q3⟩ := Box4.of hx2
  have HX2 := Lib.hid (HXA.out.trans hx2)
  have HL2 := Lib.hid hF2.row
  clear hx2 HXA HFI hF2
  go_wp2_with fail
  refine (HFS.out _ HX2.out).mono ?_; rintro e w3 ⟨so, sc, rfl, hx3, hF3⟩
  obtain ⟨q0, q1, q2, q3⟩ := Box4.ext ⟨q0, q1, q2, q3⟩ hx3
  have ql := World.block_lt_of_cell? _ _ q0
  have HX3 := Lib.hid (HX2.out.trans hx3)
  have HL3 := Lib.hid (HL2.out.ext hx3)
  have HVI := Lib.hid (fun y (hy : Ext w3 y) => laws_vInts (w := y) (ac := lc) (bc := sc) ((HL2.out.ext hx3).ext hy) (hF3.row.ext hy) (by omega))
  clear hx3 HFS hF3 HL2 HX2
  go_upto_region 6 with fail
  have g0 := Grow.cells q0; have g1 := Grow.cells q1; have g2 := Grow.cells q2; have g3 := Grow.cells q3
  refine wp_region_ext (by kernel_rfl) (by kernel_rfl) ?_
  repeat (go_big_quiet_step ((first | (go_at_call 8; with_reducible exact Calls.ext_of (HVI.out _ (Grow.h _))) | (go_at_call 9; with_reducible exact Calls.ext_of (HCI.out _ (HX3.out.trans (Grow.h _)))) | (go_at_call 10; with_reducible exact Calls.ext_of (HCS.out _ (HX3.out.trans (Grow.h _)))))))
  refine wpQuiet_nil ?_
  rintro _ ⟨⟨w1, hx1⟩, rfl⟩
  clear g0 g1 g2 g3
  rename World => w4
  obtain ⟨q0, q1, q2, q3⟩ := Box4.ext ⟨q0, q1, q2, q3⟩ hx1
  have ql := World.block_lt_of_cell? _ _ q0
  have HX4 := Lib.hid (HX3.out.trans hx1)
  have HL4 := Lib.hid (HL3.out.ext hx1)
  clear hx1 HVI HCI HCS HX3 HL3 hBB
  go_wp2_with fail
  refine (HMI.out _ HX4.out).mono ?_; rintro e w5 ⟨mo, mc, rfl, hx5, hF5⟩
  obtain ⟨q0, q1, q2, q3⟩ := Box4.ext ⟨q0, q1, q2, q3⟩ hx5
  have ql := World.block_lt_of_cell? _ _ q0
  have HX5 := Lib.hid (HX4.out.trans hx5)
  have HL5 := Lib.hid (HL4.out.ext hx5)
  have HM5 := Lib.hid hF5.row
  clear hx5 HMI hF5 HL4 HX4
  go_wp2_with fail
  refine (HMS.out _ HX5.out).mono ?_; rintro e w6 ⟨no, nc, rfl, hx6, hF6⟩
  obtain ⟨q0, q1, q2, q3⟩ := Box4.ext ⟨q0, q1, q2, q3⟩ hx6
  have ql := World.block_lt_of_cell? _ _ q0
  have HX6 := Lib.hid (HX5.out.trans hx6)
  have HL6 := Lib.hid (HL5.out.ext hx6)
  have HM6 := Lib.hid (HM5.out.ext hx6)
  have HVI := Lib.hid (laws_vInts (w := w6) (ac := mc) (bc := nc) (HM5.out.ext hx6) hF6.row (by omega))
  clear hx6 HMS hF6 HL5 HM5 HX5
  go_wp2_with fail
  refine HVI.out.mono ?_; rintro e w7 ⟨rfl, hx7⟩
  obtain ⟨q0, q1, q2, q3⟩ := Box4.ext ⟨q0, q1, q2, q3⟩ hx7
  have ql := World.block_lt_of_cell? _ _ q0
  have HX7 := Lib.hid (HX6.out.trans hx7)
  have HL7 := Lib.hid (HL6.out.ext hx7)
  have HM7 := Lib.hid (HM6.out.ext hx7)
  clear hx7 HVI HL6 HM6 HX6
  go_wp2_with fail
  refine (HEI.out _ HX7.out).mono ?_; rintro e w8 ⟨eo, ec, rfl, hx8, hF8⟩
  obtain ⟨q0, q1, q2, q3⟩ := Box4.ext ⟨q0, q1, q2, q3⟩ hx8
  have ql := World.block_lt_of_cell? _ _ q0
  have HX8 := Lib.hid (HX7.out.trans hx8)
  have HL8 := Lib.hid (HL7.out.ext hx8)
  have HE8 := Lib.hid hF8.row
  clear hx8 HEI hF8 HL7 HM7 HX7
  go_wp2_with fail
  refine (HES.out _ HX8.out).mono ?_; rintro e w9 ⟨fo, fc, rfl, hx9, hF9⟩
  obtain ⟨q0, q1, q2, q3⟩ := Box4.ext ⟨q0, q1, q2, q3⟩ hx9
  have ql := World.block_lt_of_cell? _ _ q0
  have HX9 := Lib.hid (HX8.out.trans hx9)
  have HL9 := Lib.hid (HL8.out.ext hx9)
  have HE9 := Lib.hid (HE8.out.ext hx9)
  have HVI := Lib.hid (laws_vInts (w := w9) (ac := ec) (bc := fc) (HE8.out.ext hx9) hF9.row (by omega))
  clear hx9 HES hF9 HL8 HE8 HX8
  go_wp2_with fail
  refine HVI.out.mono ?_; rintro e w10 ⟨rfl, hx10⟩
  obtain ⟨q0, q1, q2, q3⟩ := Box4.ext ⟨q0, q1, q2, q3⟩ hx10
  have ql := World.block_lt_of_cell? _ _ q0
  have HX10 := Lib.hid (HX9.out.trans hx10)
  have HLL := Lib.hid (HL9.out.ext hx10)
  have HEE := Lib.hid (HE9.out.ext hx10)
  clear hx10 HVI HL9 HE9 HX9 hAA
  go_upto_if 123 with fail
  go_cut [] (fun wc => Ext w wc)
  case first =>
    cases A
    · go_wp2_with fail
      go_meet
      exact HX1.out.trans HX10.out
    · have hf := HFF.out rfl
      have HLN := Lib.hid hf.len
      have hmi := hf.mi
      have hex := hf.ex
      have hge := hf.ge
      have HLE := Lib.hid hf.le
      have HAT := Lib.hid hf.at'
      have h0 := hf.l0
      have h00 := hf.n0
      clear hf HFF
      obtain ⟨lf, hlf⟩ : ∃ lf, lf = lastF ⟨n0, n1, n2, ps⟩ cs := ⟨_, rfl⟩
      obtain ⟨nf, hnf⟩ : ∃ nf, nf = cntF ⟨n0, n1, n2, ps⟩ cs := ⟨_, rfl⟩
      rw [← hlf] at HAT h0
      rw [← hnf] at HAT HLE h00 hmi hex hge
      clear hlf hnf
      have H00 := Lib.hid (And.intro h0 h00)
      have HMI := Lib.hid hmi; have HEX := Lib.hid hex; have HGE := Lib.hid hge
      clear h0 h00 hmi hex hge
      go_wp2_with fail
      go_loopw [17, 18, 19] (fun a n i wr => ∃ k : Nat, k ≤ cs.length ∧ i = .int .i64 k ∧ a = .int .i64 (lf k) ∧ n = .int .i64 (nf k) ∧ Ext w10 wr) (fun _ _ i _ => cs.length - (intOf i).toNat)
      case atStart => exact ⟨0, Nat.zero_le _, rfl, by rw [H00.out.1], by rw [H00.out.2]; rfl, Ext.refl _⟩
      case round =>
        obtain ⟨k, hk, rfl, rfl, rfl, hx⟩ := hrel
        have HX := Lib.hid hx
        by_cases hlt : k < cs.length
        · obtain ⟨lb, loff, ee, hce⟩ := (HLL.out.ext hx) (by rw [HLN.out]; omega)
          subst ee
          have hk0 : (0 : Int) ≤ (k : Int) := by omega
          have hk1 : (k : Int) < (L.length : Int) := by rw [HLN.out]; omega
          have x0 := hce k (by rw [HLN.out]; omega) 0 (by decide)
          simp only [ic, Nat.mul_one, Nat.add_zero] at x0
          clear hce
          rcases HAT.out k hlt with ⟨h1, h2, h3⟩ | ⟨q, h1, h2, h3, h4, h5, h6, h7⟩
          · have t0 : decide (nth L k < 0) = true := decide_eq_true h1
            have H23 := Lib.hid (And.intro h2 h3)
            clear h1 h2 h3 hx
            go_wp2_with fail
            go_roundw
            case rel => exact ⟨k + 1, by omega, by go_num, by rw [H23.out.1], by rw [H23.out.2], HX.out⟩
            case measure => simp [intOf] <;> omega
          · obtain ⟨pb, poff, ee, hcp⟩ := ((HRC.out.ext HX10.out).ext hx) (by omega)
            injection ee with ee; injection ee with p1 p2; subst p1 p2
            obtain ⟨cb, coff, ee, hcc⟩ := ((HRI.out.ext HX10.out).ext hx) (by omega)
            subst ee
            rw [h1] at x0
            have y0 := Grow.cells (hcp q h3 0 (by decide))
            have z0 := Grow.cells (hcc k hlt 0 (by decide))
            have x1 := Grow.cells x0
            have g0 := Grow.cells (hx.cells q0); have g1 := Grow.cells (hx.cells q1); have g2 := Grow.cells (hx.cells q2); have g3 := Grow.cells (hx.cells q3)
            simp only [Pch.c, ic, Nat.mul_one, Nat.add_zero] at y0 z0
            rw [h4] at y0
            have hq0 : (0 : Int) ≤ (q : Int) := by omega
            have hq1 : (q : Int) < (ps.length : Int) := by omega
            have hc1 : (k : Int) < (cs.length : Int) := by omega
            have t0 : decide ((q : Int) < 0) = false := by simp
            have t1 : decide ((q : Int) ≤ lf k) = false := by simp; omega
            have t2 : (nth cs k != nth cs k) = false := by simp
            have hn0 := HLE.out k
            have hwr : IntKind.i64.wrap ((nf k : Int) + 1) = (nf k : Int) + 1 := IntWalk.i64_in _ (by omega)
            have HHI := Lib.hid (fun y (hy : Ext wr y) => by have := laws_vHas (w := y) (ao := eo) (cap := ec) (n := E.length) (xs := E) (v := (q : Int)) ((HEE.out.ext hx).ext hy) (by omega); rw [h5] at this; exact this)
            have H67 := Lib.hid (And.intro h6 h7)
            clear h1 h2 h3 h4 h5 h6 h7 hx hcp hcc
            go_wp2_with fail
            refine wp_region_ext (by kernel_rfl) (by kernel_rfl) ?_
            repeat (go_big_quiet_step ((go_at_call 15; with_reducible exact Calls.ext_of (HHI.out _ (Grow.h _)))))
            refine wpQuiet_nil ?_
            rintro _ ⟨⟨w1, hx1⟩, rfl⟩
            clear g0 g1 g2 g3 y0 z0 x1
            have HX5 := Lib.hid (HX.out.trans hx1)
            replace x0 := hx1.cells x0
            clear hx1 HHI
            go_wp2_with fail
            go_roundw
            case rel => exact ⟨k + 1, by omega, by go_num, by rw [H67.out.1], by rw [H67.out.2]; go_num, HX5.out⟩
            case measure => simp [intOf] <;> omega
        · have hkn : ¬ (k : Int) < (L.length : Int) := by rw [HLN.out]; omega
          obtain rfl : k = cs.length := by omega
          have hmi := HMI.out; have hex := HEX.out; have hge := HGE.out
          replace q0 := hx.cells q0; replace q1 := hx.cells q1; replace q2 := hx.cells q2; replace q3 := hx.cells q3
          clear hx
          go_wp2_with fail
          refine (HMO.out _ (HX10.out.trans HX.out)).mono ?_; rintro e w12 ⟨rfl, hx12⟩
          obtain ⟨q0, q1, q2, q3⟩ := Box4.ext ⟨q0, q1, q2, q3⟩ hx12
          have HX12 := Lib.hid (HX1.out.trans ((HX10.out.trans HX.out).trans hx12))
          have e1 : IntKind.i64.wrap ((nf cs.length : Int) + (M.length : Int)) = (cs.length : Int) := by rw [IntWalk.i64_in _ (by omega)]; omega
          have e2 : IntKind.i64.wrap ((nf cs.length : Int) + (E.length : Int)) = (ps.length : Int) := by rw [IntWalk.i64_in _ (by omega)]; omega
          have t1 : ((cs.length : Int) != (cs.length : Int)) = false := by simp
          have t2 : ((ps.length : Int) != (ps.length : Int)) = false := by simp
          have t3 : ¬ (r : Int) < (nf cs.length : Int) := by omega
          have t4 : ¬ (cs.length : Int) < (r : Int) := by omega
          clear hx12 hmi hex hge
          go_wp2_with fail
          go_meet
          exact HX12.out
  case rest =>
    have HXC := Lib.hid hcut
    clear hcut
    exact (‹∀ (a : Act) (w : World), Code.wp Tryz.prog _ _ a w → _›) _ _ (partB HR HM HBS HXC HPW HEV HML)
set_option maxRecDepth 100000 in
set_option maxHeartbeats 8000000 in
theorem walk {co : Option Addr} {cc m : Nat} {bs : Nat → Nat} {w : World} (hr : RowAt w co 1 m (by8 bs)) (hm : m ≤ 9223372036854775807) (hb : ∀ k, bs k < 256) (hp : Pow w) (hv : ErrS w) (hml : MaxL w) :
    Calls Tryz.prog 3 #[.slice co m cc] w fun e w' => e = .returned (.bool true) ∧ Ext w w' := by
  have HPW := Lib.hid hp; have HEV := Lib.hid hv; have HML := Lib.hid hml
  clear hp hv hml
  have HV := Lib.hid (laws_vBig (ao := co) (cap := cc) (w := w) hm)
  have HR := Lib.hid hr; have HM := Lib.hid hm; have HBS := Lib.hid hb
  clear hr hb
  by_cases hbig : 65536 < m
  · have HBIG : Hid (decide (65536 < m) = true) := Lib.hid (by simpa using hbig)
    clear hbig hm
    go_enter Tryz.func3, Tryz.ntmps3
    go_wp2_with fail
    refine HV.out.mono ?_; rintro e w1 ⟨rfl, rfl⟩
    rw [HBIG.out]
    clear HV HBIG
    go_wp2
    go_ret
    exact ⟨rfl, Ext.refl _⟩
  · have HBIG : Hid (decide (65536 < m) = false) := Lib.hid (by simpa using hbig)
    clear hbig hm
    go_enter Tryz.func3, Tryz.ntmps3
    go_upto_region 1 with fail
    go_cut [37] (fun b wc => b = .bool false ∧ Ext w wc)
    case first =>
      go_wp2_with fail
      refine HV.out.mono ?_; rintro e w1 ⟨rfl, rfl⟩
      rw [HBIG.out]
      clear HV HBIG
      go_wp2_with fail
      go_meet
      exact ⟨rfl, Ext.refl _⟩
    case rest =>
      obtain ⟨rfl, hcut⟩ := hcut
      generalize wc = w0 at hcut ⊢
      have HXC := Lib.hid hcut
      clear hcut
      go_upto_if 37 with fail
      go_cut [] (fun wc => Ext w wc)
      case first =>
        go_wp2_with fail
        go_meet
        exact HXC.out
      case rest =>
        have HXC := Lib.hid hcut
        clear hcut
        exact (‹∀ (a : Act) (w : World), Code.wp Tryz.prog _ _ a w → _›) _ _ (partA HR HM HBS HXC HPW HEV HML)

set_option maxRecDepth 100000 in
theorem lifted (os : Os) (started : os.Started) (H : Type) (enc : TypeId × Value → H) :
    ReturnsInHanded {} Tryz.checked os 3 .any (fun w args => (Rows.fnCardsSpec.pre enc Tryz.prog Tryz.f3 Rows.fnCardsRow.domain false w args ∧ laidMetH Tryz.prog Rows.fnCardsRow.laid w) ∧ sizedMet enc Tryz.prog Tryz.f3 (OpenSpec.ofChange Rows.fnCardsSpec) false w args)
      (Rows.fnCardsSpec.post enc Tryz.prog Tryz.f3 false true false false) := by
  refine lift_laid (C := Tryz.checked) (X := fun w => laidMetH Tryz.prog Rows.fnCardsRow.laid w) (fun _ _ hh h => h.of_heap hh) (by kernel_rfl) started (by kernel_rfl) Tryz.func3
    (ChangeSpec.witness_shaped (enc := enc) (C := Tryz.checked) (os := os) (X := fun w _ => laidMetH Tryz.prog Rows.fnCardsRow.laid w) false (World.laidAll Tryz.prog os Rows.fnCardsRow.laid) #[.slice none 0 0] 8 (World.laidAll_os _ _ _)
      (World.shaped_of_ZipB (by kernel_rfl) (by kernel_rfl)) (by kernel_rfl) (by kernel_rfl) (by kernel_rfl)
      (by rw [MakeChecks.laidMetH_plain _ _ _ (by kernel_rfl)]; exact laidMet_laidAll _ (by kernel_rfl) (by kernel_rfl))) ?_
  intro W base args ds gs before hval0 hW hL0 hsh
  have hL : laidMet Tryz.prog Rows.fnCardsRow.laid W := by rw [← MakeChecks.laidMetH_plain _ _ _ (by kernel_rfl)]; exact hL0
  have hval : ∀ (j : Nat) t v, Tryz.f3.params[j]? = some t → args[j]? = some v → Value.okWide Tryz.prog W .any base t v := hval0
  have hW' := hW
  obtain ⟨p, q, hA0, hV, rfl, hfz, hnd⟩ := hW
  have hA : DataW.TrodAll enc Tryz.prog W 0 (fun _ => true) true Tryz.f3.params.toList args.toList ds p := hA0
  rw [Tryz.params3] at hA hval
  obtain ⟨v0, vs0, d0, ds0, p0, q0, hargs, rfl, rfl, h0, r0⟩ := trodAll_cons hA
  obtain ⟨rfl, rfl, rfl⟩ := trodAll_nil r0
  obtain rfl : args = #[v0] := by cases args; simp_all
  obtain ⟨rfl, rfl⟩ := trodVars_none hV
  obtain ⟨ao0, cap0, m0, bs0, rfl, hl0, hr0, hw0⟩ := open_ByteS (hval 0 22 v0 rfl rfl) h0
  have hpow : Pow W := pow_of hL.tail.tail
  have herr : ErrS W := err_of hL.tail.tail.tail.tail.tail
  have hmax : MaxL W := max_of hsh
  refine (walk hr0 hl0 hw0 hpow herr hmax).mono fun e W' ⟨he, hx⟩ => ?_
  subst he
  exact ⟨_, rfl, law_post (by kernel_rfl) (by kernel_rfl) Tryz.underlying4 rfl rfl hW' rfl hx⟩

theorem holds : Rows.FnCardsSaid :=
  OpenClaim.holds_of_wide 3 Tryz.f3 rfl rfl rfl rfl rfl rfl rfl ⟨rfl, rfl, rfl, rfl, rfl⟩ rfl rfl rfl rfl rfl (by kernel_rfl) Tryz.func3 (by kernel_rfl)
    (of_decide_eq_true (by kernel_rfl)) (by unfold Func.isWrapper; first | (rw [if_pos (by decide +kernel)]; kernel_rfl) | (rw [if_neg (by decide +kernel)]; exact ⟨rfl, rfl⟩))
    (fun os started H enc _ => lifted os started H enc)

theorem card_holds : Rows.FnCardsCardSaid :=
  Claim7.holds_tied_plain_at .later [] Rows.fnCardsCard.laidKinds true Rows.fnCardsCard.stood.harness true holds (fun _ h => by cases h) (by kernel_rfl) (fun _ h => by cases h) fnCards_row_tie rfl ⟨rfl, rfl⟩ (by kernel_rfl) rfl
    (fun f fn hf hfn => by
      obtain rfl : f = 3 := (Option.some.inj ((show Tryz.prog.funcNamed Rows.fnCardsRow.func = some 3 by kernel_rfl).symm.trans hf)).symm
      obtain rfl : fn = Tryz.f3 := (Option.some.inj (Tryz.func3.symm.trans hfn)).symm
      exact ⟨by kernel_rfl, fun j t ht => by
        rw [Tryz.params3] at ht
        have hm := Array.mem_of_getElem? ht
        have hall : (Tryz.f3.params.all fun u => !Tryz.prog.wantsStandIn u) = true := by kernel_rfl
        rw [Tryz.params3] at hall
        exact (show Tryz.prog.wantsStandIn t = false by simpa using Array.all_eq_true_iff_forall_mem.1 hall t hm)⟩)
    (by kernel_rfl)

end Go.Proofs.YtckgjpaccgpdpaaGreatDoor.FnCards
