/-
  Proved here: the law FnClocks answers true for every input and leaves its arguments as they were.
  Conditions: none.
-/
import Derived.Test.YtemencnfackplaaClkPl
import Derived.Test.YtemencnfackplaaDrawA
import Derived.Test.YtemencnfackplaaAddM3
import Derived.Test.YtemencnfackplaaVMarks
import Derived.Test.YtemencnfackplaaClocks5
import Derived.Test.YtemencnfackplaaTByteS
import Derived.IntWalk
import Derived.Deep.DrawnRows
import Derived.Deep.DeepCutAuto
namespace Go.Proofs.Ytemencnfackplaa.FnClocks
open Go.ChangeShapes Go.WideShapes Go.ChangeAt Go.RowKit

theorem draw_great {w : World} {co : Option Addr} {m cc : Nat} {bs : Nat → Nat} (hr : RowAt w co 1 m (by8 bs)) (hb : ∀ k, bs k < 256) (hm : m ≤ 9223372036854775807) :
    Calls Try.prog 23 #[.slice co m cc] w fun e w' => ∃ (ao : Option Addr) (cap : Nat) (ms : List Mark), e = .returned (.slice ao ms.length cap) ∧ ms.length ≤ 6 ∧ FreshAt w.heap.size w' ao 2 ms.length (fun k => (nth ms k).c) ∧ Ext w w' := by
  have H := Lib.hid (draw_marks (cc := cc) hr hb hm)
  clear hr hb
  go_enter Try.func23, Try.ntmps23
  go_wp2_with fail
  refine H.out.mono ?_; rintro e w1 ⟨ao, cap, ms, rfl, hl, _, hF, hx⟩
  have HF := Lib.hid hF; have HX := Lib.hid hx
  clear hF hx H
  go_wp2
  go_ret
  exact ⟨ao, cap, ms, rfl, hl, HF.out, HX.out⟩
theorem draw_drift {w : World} {co : Option Addr} {m cc : Nat} {bs : Nat → Nat} (hr : RowAt w co 1 m (by8 bs)) (hb : ∀ k, bs k < 256) (hm : m ≤ 9223372036854775807) :
    Calls Try.prog 26 #[.slice co m cc] w fun e w' => ∃ (ao : Option Addr) (cap : Nat) (ms : List Mark), e = .returned (.slice ao ms.length cap) ∧ ms.length ≤ 6 ∧ FreshAt w.heap.size w' ao 2 ms.length (fun k => (nth ms k).c) ∧ Ext w w' := by
  have H := Lib.hid (draw_marks (cc := cc) hr hb hm)
  clear hr hb
  go_enter Try.func26, Try.ntmps26
  go_wp2_with fail
  refine H.out.mono ?_; rintro e w1 ⟨ao, cap, ms, rfl, hl, _, hF, hx⟩
  have HF := Lib.hid hF; have HX := Lib.hid hx
  clear hF hx H
  go_wp2
  go_ret
  exact ⟨ao, cap, ms, rfl, hl, HF.out, HX.out⟩

/-- the code from region 22 on -/
def dropS : Nat → Code → Code
  | 0, c => c
  | n + 1, .seq _ b => dropS n b
  | _ + 1, c => c
noncomputable def tailC : Code := dropS 8 (Try.f4.body.getD .skip)

set_option maxRecDepth 100000 in
set_option maxHeartbeats 8000000 in
theorem tail {co : Option Addr} {cc m : Nat} {w wc : World} {u1 u2 u3 u4 u5 u6 u7 u8 u9 u10 u11 u12 u13 u14 u15 u16 u17 u18 u19 u20 u21 u22 u23 u24 u25 u26 u27 u28 u29 u30 u31 u32 u33 u34 u35 u36 u37 u38 u39 u40 u41 u42 u43 u44 u45 u46 u47 u48 u49 u50 u51 u52 u53 u54 u55 u56 u57 u58 u59 u60 u61 u62 u63 u64 u65 u66 u67 u68 u69 u70 u71 u72 u73 u74 u75 u76 u77 u78 u79 u80 u81 u82 u83 u84 u85 u86 u87 u88 u89 u90 u91 u92 u93 u94 u95 u96 u97 u98 u99 u100 u101 u102 u103 u104 u105 u106 u107 u108 u109 u110 u111 u112 u113 u114 u115 u116 u117 u118 u119 u120 u121 u122 u123 u124 u125 u126 u127 u128 u129 u130 u131 u132 u133 u134 u135 u136 u137 u138 u139 u140 u141 u142 u143 u144 u145 u146 u147 u148 u149 u150 u151 u152 u153 u154 u155 u156 u157 u158 u159 u160 u161 u162 u163 u164 u165 u166 u167 u168 u169 u170 u171 u172 u173 u174 u175 u176 u177 u178 u179 u180 u181 u182 u183 u184 u185 u186 u187 u188 u189 u190 u191 u192 u193 u194 u195 u196 u197 u198 u199 u200 u201 u202 u203 u204 u205 u206 u207 u208 u209 u210 u211 u212 u213 u214 u215 u216 u217 u218 u219 u220 u221 u222 u223 u224 u225 u226 u227 u228 u229 u230 u231 u232 u233 u234 u235 u236 u237 u238 u239 u240 u241 u242 u243 u244 u245 u246 u247 u248 u249 u250 u251 u252 u253 u254 u255 u256 u257 u258 u259 u260 u261 u262 u263 u264 u265 : Value}
    (HD2 : Hid (∀ x, Ext w x → Calls Try.prog 21 #[.slice co m cc] x fun e w' => ∃ (b off cap : Nat) (ms : List Mark) (s r : Int), e = .returned (.tuple #[.slice (some ⟨b, off, none⟩) ms.length cap, .agg #[.int .i64 s, .int .i64 r]]) ∧ ms.length ≤ 6 ∧ (ms.length ≤ cap ∧ cap ≤ 9223372036854775807) ∧ I64 s ∧ FreshAt x.heap.size w' (some ⟨b, off, none⟩) 2 ms.length (fun k => (nth ms k).c) ∧ Ext x w'))
    (HD3 : Hid (∀ x, Ext w x → Calls Try.prog 23 #[.slice co m cc] x fun e w' => ∃ (ao : Option Addr) (cap : Nat) (ms : List Mark), e = .returned (.slice ao ms.length cap) ∧ ms.length ≤ 6 ∧ FreshAt x.heap.size w' ao 2 ms.length (fun k => (nth ms k).c) ∧ Ext x w'))
    (HD4 : Hid (∀ x, Ext w x → Calls Try.prog 26 #[.slice co m cc] x fun e w' => ∃ (ao : Option Addr) (cap : Nat) (ms : List Mark), e = .returned (.slice ao ms.length cap) ∧ ms.length ≤ 6 ∧ FreshAt x.heap.size w' ao 2 ms.length (fun k => (nth ms k).c) ∧ Ext x w'))
    (HXC : Hid (Ext w wc)) :
    Code.wp Try.prog tailC (bodyPost Try.prog Try.f4 fun e w' => e = .returned (.bool true) ∧ Ext w w') ⟨#[.slice co m cc, u1, u2, u3, u4, u5, u6, u7, u8, u9, u10, u11, u12, u13, u14, u15, u16, u17, u18, u19, u20, u21, u22, u23, u24, u25, u26, u27, u28, u29, u30, u31, u32, u33, u34, u35, u36, u37, u38, u39, u40, u41, u42, u43, u44, u45, u46, u47, u48, u49, u50, u51, u52, u53, u54, u55, u56, u57, u58, u59, u60, u61, u62, u63, u64, u65, u66, u67, u68, u69, u70, u71, u72, u73, u74, u75, u76, u77, u78, u79, u80, u81, u82, u83, u84, u85, u86, u87, u88, u89, u90, u91, u92, u93, u94, u95, u96, u97, u98, u99, u100, u101, u102, u103, u104, u105, u106, u107, u108, u109, u110, u111, u112, u113, u114, u115, u116, u117, u118, u119, u120, u121, u122, u123, u124, u125, u126, u127, u128, u129, u130, u131, u132, u133, u134, u135, u136, u137, u138, u139, u140, u141, u142, u143, u144, u145, u146, u147, u148, u149, u150, u151, u152, u153, u154, u155, u156, u157, u158, u159, u160, u161, u162, u163, u164, u165, u166, u167, u168, u169, u170, u171, u172, u173, u174, u175, u176, u177, u178, u179, u180, u181, u182, u183, u184, u185, u186, u187, u188, u189, u190, u191, u192, u193, u194, u195, u196, u197, u198, u199, u200, u201, u202, u203, u204, u205, u206, u207, u208, u209, u210, u211, u212, u213, u214, u215, u216, u217, u218, u219, u220, u221, u222, u223, u224, u225, u226, u227, u228, u229, u230, u231, u232, u233, u234, u235, u236, u237, u238, u239, u240, u241, u242, u243, u244, u245, u246, u247, u248, u249, u250, u251, u252, u253, u254, u255, u256, u257, u258, u259, u260, u261, u262, u263, u264, u265], []⟩ wc := by
  conv => arg 2; whnf
  go_wp2_with fail
  refine (HD2.out _ HXC.out).mono ?_; rintro e w2 ⟨b, off, acap, xs, s, r, rfl, hxl, hac, hs64, hF, hx2⟩
  have HI := Lib.hid (fun x (hx : Ext w2 x) => impl_AddMark (w := x) (cap := acap) (ms := xs) (s := s) (r := r) (hF.row.ext hx) (by omega))
  have HS := Lib.hid (fun x (hx : Ext w2 x) => spec_AddMark (w := x) (cap := acap) (ms := xs) (s := s) (r := r) (hF.row.ext hx) (by omega) hac)
  have HA2 := Lib.hid ((Ext.refl w2).alloc (.cells #[.int .i64 s, .int .i64 r] 30))
  have HQ0 := Lib.hid (show (w2.alloc (.cells #[.int .i64 s, .int .i64 r] 30)).cell? ⟨w2.heap.size, 0, none⟩ = some (.int .i64 s) by go_simp)
  have HQ1 := Lib.hid (show (w2.alloc (.cells #[.int .i64 s, .int .i64 r] 30)).cell? ⟨w2.heap.size, 1, none⟩ = some (.int .i64 r) by go_simp)
  have hLl := adL_len xs ⟨s, r⟩
  have HY := Lib.hid (@add_yes xs ⟨s, r⟩)
  have HX2 := Lib.hid (HXC.out.trans hx2)
  have HS64 := Lib.hid hs64
  clear hF hac hs64 hx2 HD2 HXC
  generalize adL xs ⟨s, r⟩ = L at HI HS HY hLl
  generalize adB xs ⟨s, r⟩ = B at HI HS HY
  have HL6 := Lib.hid (show L.length ≤ 7 by omega)
  clear hLl
  go_wp2_with fail
  refine (HI.out _ HA2.out).mono ?_; rintro e w3 ⟨go3, g3, rfl, hx3, hF3⟩
  have q0 := hx3.cells HQ0.out
  have q1 := hx3.cells HQ1.out
  have ql := World.block_lt_of_cell? _ _ q0
  have HX3 := Lib.hid (HA2.out.trans hx3)
  have HF3 := Lib.hid hF3.row
  clear hx3 hF3 HI HA2 HQ0 HQ1
  go_wp2_with fail
  refine (HS.out _ HX3.out).mono ?_; rintro e w4 ⟨go4, g4, rfl, hx4, hF4⟩
  have q0 := hx4.cells q0
  have q1 := hx4.cells q1
  have ql := World.block_lt_of_cell? _ _ q0
  have HV4 := Lib.hid (laws_vMarks (ac := g3) (bc := g4) (HF3.out.ext hx4) hF4.row (by have := HL6.out; omega))
  have HX4 := Lib.hid (HX3.out.trans hx4)
  have HF4 := Lib.hid (HF3.out.ext hx4)
  clear hx4 hF4 HS HX3 HF3
  go_wp2_with fail
  refine HV4.out.mono ?_; rintro e w5 ⟨rfl, hx5⟩
  have HT := Lib.hid (impl_TrueTime (w := w5) (ms := L) (t := s) (ao := go3) (cap := g3) (HF4.out.ext hx5) (by have := HL6.out; omega) HS64.out)
  have q0 := hx5.cells q0
  have Q1 := Lib.hid (hx5.cells q1)
  have ql := World.block_lt_of_cell? _ _ q0
  have HX5 := Lib.hid (HX2.out.trans (HX4.out.trans hx5))
  clear hx5 HV4 HX4 HF4 q1
  go_upto_if 176 with fail
  go_cut [] (fun wc => Ext w wc)
  case first =>
    cases B
    · go_wp2_with fail
      go_meet
      exact HX5.out
    · obtain ⟨hl, hg⟩ := HY.out (by trivial)
      have hle : ((L.length : Int) != (xs.length : Int) + 1) = false := by rw [hl]; simp
      rw [hg] at HT
      clear hg HY hl
      go_wp2_with fail
      refine HT.out.mono ?_; rintro e w6 ⟨rfl, hx6⟩
      have q1 := hx6.cells Q1.out
      have ql := World.block_lt_of_cell? _ _ q1
      have HX6 := Lib.hid (HX5.out.trans hx6)
      clear hx6 q0 HT
      go_wp2_with fail
      go_meet
      exact HX6.out
  case rest =>
    have HXD := Lib.hid hcut
    clear hcut HX5 HX2 HT HY q0 Q1 ql HL6 HS64
    go_wp2_with fail
    refine (HD3.out _ HXD.out).mono ?_; rintro e w3 ⟨yo, yc, ys, rfl, hyl, hF, hx3⟩
    obtain ⟨ga, gd, gb, hoff⟩ := off_form ys
    have HGI := Lib.hid (impl_GreatestOffset (cap := yc) hF.row (by omega))
    have HGS := Lib.hid (fun x (hx : Ext w3 x) => spec_GreatestOffset (cap := yc) (hF.row.ext hx) (by omega))
    rw [hoff] at HGI HGS
    have HX3 := Lib.hid (HXD.out.trans hx3)
    clear hF hx3 hoff HD3 HXD
    go_wp2_with fail
    refine HGI.out.mono ?_; rintro e w4 ⟨rfl, hx4⟩
    have HX4 := Lib.hid hx4
    clear hx4 HGI
    go_wp2_with fail
    refine (HGS.out _ HX4.out).mono ?_; rintro e w5 ⟨rfl, hx5⟩
    have HX5 := Lib.hid (HX3.out.trans (HX4.out.trans hx5))
    clear hx5 HGS HX3 HX4
    go_wp2_with fail
    refine (HD4.out _ HX5.out).mono ?_; rintro e w6 ⟨zo, zc, zs, rfl, hzl, hF, hx6⟩
    obtain ⟨dn, dd, db, hdr, hpos⟩ := drift_form zs
    have HGI := Lib.hid (impl_DriftOf (cap := zc) hF.row (by omega))
    have HGS := Lib.hid (fun x (hx : Ext w6 x) => spec_DriftOf (cap := zc) (hF.row.ext hx) (by omega))
    rw [hdr] at HGI HGS
    have HX6 := Lib.hid (HX5.out.trans hx6)
    have HPOS := Lib.hid hpos
    clear hF hx6 hdr HD4 HX5 hpos
    go_wp2_with fail
    refine HGI.out.mono ?_; rintro e w7 ⟨rfl, hx7⟩
    have HX7 := Lib.hid hx7
    clear hx7 HGI
    go_wp2_with fail
    refine (HGS.out _ HX7.out).mono ?_; rintro e w8 ⟨rfl, hx8⟩
    have HX8 := Lib.hid (HX6.out.trans (HX7.out.trans hx8))
    clear hx8 HGS HX6 HX7
    cases db
    · go_wp2
      go_ret
      exact ⟨rfl, HX8.out⟩
    · obtain ⟨hp1, hp2⟩ := HPOS.out (by trivial)
      have hd1 : decide (0 < dn) = true := by simpa using hp1
      have hd2 : decide (0 < dd) = true := by simpa using hp2
      clear HPOS
      go_wp2
      go_ret
      exact ⟨rfl, HX8.out⟩

set_option maxRecDepth 100000 in
set_option maxHeartbeats 8000000 in
theorem walk {co : Option Addr} {cc m : Nat} {bs : Nat → Nat} {w : World} (hr : RowAt w co 1 m (by8 bs)) (hm : m ≤ 9223372036854775807) (hb : ∀ k, bs k < 256) :
    Calls Try.prog 4 #[.slice co m cc] w fun e w' => e = .returned (.bool true) ∧ Ext w w' := by
  by_cases hbig : 65536 < m
  · go_enter Try.func4, Try.ntmps4
    go_wp2_with fail
    refine (laws_vBig hm).mono ?_; rintro e w1 ⟨rfl, rfl⟩
    rw [show decide (65536 < m) = true by simpa using hbig]
    go_wp2
    go_ret
    exact ⟨rfl, (by repeat (first | (with_reducible exact Ext.refl _) | (with_reducible assumption) | with_reducible refine Ext.drew ?_ | with_reducible refine Ext.alloc ?_ _ | with_reducible refine Ext.setCell ?_ (by first | (simp; done) | (simp; omega) | omega) _ | with_reducible refine Ext.trans ?_ (by with_reducible assumption)))⟩
  · have HD1 := Lib.hid (draw_true (cc := cc) hr hb hm)
    have HD2 := Lib.hid (fun x (hx : Ext w x) => draw_add (cc := cc) (hr.ext hx) hb hm)
    have HD3 := Lib.hid (fun x (hx : Ext w x) => draw_great (cc := cc) (hr.ext hx) hb hm)
    have HD4 := Lib.hid (fun x (hx : Ext w x) => draw_drift (cc := cc) (hr.ext hx) hb hm)
    have HV := Lib.hid (laws_vBig (ao := co) (cap := cc) (w := w) hm)
    have HBIG : Hid (decide (65536 < m) = false) := Lib.hid (by simpa using hbig)
    clear hr hb hbig hm
    go_enter Try.func4, Try.ntmps4
    go_wp2_with fail
    refine HV.out.mono ?_; rintro e w1 ⟨rfl, rfl⟩
    rw [HBIG.out]
    go_wp2_with fail
    refine HD1.out.mono ?_; rintro e w1 ⟨mo, mcap, ms, t, rfl, hml, _, ht, hF, hx1⟩
    have ht64 : I64 t := ⟨by omega, by omega⟩
    have HTT := Lib.hid (fun x s (hx : Ext w1 x) hs => impl_TrueTime (w := x) (ms := ms) (t := s) (ao := mo) (cap := mcap) (hF.row.ext hx) (by omega) hs)
    have HTI := Lib.hid (impl_TrueTime (w := w1) (ms := ms) (t := t) (ao := mo) (cap := mcap) hF.row (by omega) ht64)
    have HTS := Lib.hid (fun x (hx : Ext w1 x) => spec_TrueTime (w := x) (ms := ms) (t := t) (ao := mo) (cap := mcap) (hF.row.ext hx) (by omega) ht64)
    have HOI := Lib.hid (fun x (hx : Ext w1 x) => impl_OffsetAt (w := x) (ms := ms) (t := t) (ao := mo) (cap := mcap) (hF.row.ext hx) (by omega) ht64)
    have HOS := Lib.hid (fun x (hx : Ext w1 x) => spec_OffsetAt (w := x) (ms := ms) (t := t) (ao := mo) (cap := mcap) (hF.row.ext hx) (by omega) ht64)
    have HMI := Lib.hid (fun x (hx : Ext w1 x) => impl_AreClockMarks (w := x) (ms := ms) (ao := mo) (cap := mcap) (hF.row.ext hx) (by omega))
    have HMS := Lib.hid (fun x (hx : Ext w1 x) => spec_AreClockMarks (w := x) (ms := ms) (ao := mo) (cap := mcap) (hF.row.ext hx) (by omega))
    have HROW := Lib.hid (fun x (hx : Ext w1 x) => hF.row.ext hx)
    have HX1 := Lib.hid hx1
    have HML := Lib.hid hml
    clear hF hx1 HD1 HV HBIG ht64
    obtain ⟨T, O, B, e1, e2, hB⟩ := clk_form ms t
    rw [e1] at HTI HTS
    rw [e2] at HOI HOS
    have HBF := Lib.hid hB
    clear e1 e2 hB ht hml
    go_wp2_with fail
    refine HTI.out.mono ?_; rintro e w2 ⟨rfl, hx2⟩
    have HX2 := Lib.hid hx2
    clear hx2
    go_wp2_with fail
    refine (HTS.out _ HX2.out).mono ?_; rintro e w3 ⟨rfl, hx3⟩
    have HX3 := Lib.hid (HX2.out.trans hx3)
    clear hx3
    go_wp2_with fail
    refine (HMI.out _ HX3.out).mono ?_; rintro e w4 ⟨rfl, hx4⟩
    have HX4 := Lib.hid (HX3.out.trans hx4)
    clear hx4
    go_wp2_with fail
    refine (HMS.out _ HX4.out).mono ?_; rintro e w5 ⟨rfl, hx5⟩
    have HX5 := Lib.hid (HX4.out.trans hx5)
    clear hx5
    generalize marksB ms = MB
    go_wp2_with fail
    refine (HOI.out _ HX5.out).mono ?_; rintro e w6 ⟨rfl, hx6⟩
    have HX6 := Lib.hid (HX5.out.trans hx6)
    clear hx6
    go_wp2_with fail
    refine (HOS.out _ HX6.out).mono ?_; rintro e w7 ⟨rfl, hx7⟩
    have HX7 := Lib.hid (HX6.out.trans hx7)
    clear hx7 HX2 HX3 HX4 HX5 HX6 HTI HTS HMI HMS HOI HOS
    go_upto_region 10 with fail
    go_cut [108] (fun sl wc => sl = .bool false ∧ Ext w1 wc)
    case first =>
      cases B
      · go_wp2_with fail
        go_meet
        exact ⟨rfl, HX7.out⟩
      · obtain ⟨rfl, ht1, ht2, _⟩ := HBF.out (by trivial)
        go_wp2_with fail
        go_meet
        exact ⟨rfl, HX7.out⟩
    case rest =>
    obtain ⟨rfl, hx7⟩ := hcut
    have HX8 := Lib.hid hx7
    clear hx7 HX7
    go_upto_if 109 with fail
    go_cut [] (fun wc => Ext w1 wc)
    case first =>
      cases B
      · go_wp2_with fail
        go_meet
        exact HX8.out
      · obtain ⟨rfl, ht1, ht2, ht3, ⟨rn, bn, e3, hrn⟩, hat⟩ := HBF.out (by trivial)
        have H3 := Lib.hid (HTT.out · (t + 1) · ht3)
        rw [e3] at H3
        have HAT := Lib.hid hat
        have HRN := Lib.hid hrn
        have hml := HML.out
        clear e3 hat ht3 hrn HBF
        go_wp2_with fail
        refine (H3.out _ HX8.out).mono ?_; rintro e w9 ⟨rfl, hx9⟩
        have HX9 := Lib.hid (HX8.out.trans hx9)
        clear hx9 HX8
        have hd : bn = true → decide (rn < t + O) = false := fun h => by have := HRN.out h; simp; omega
        go_upto_region 14 with fail
        go_cut [122] (fun sl wc => sl = .bool false ∧ Ext w9 wc)
        case first =>
          cases bn
          · clear hd
            go_wp2_with fail
            go_meet
            exact ⟨rfl, Ext.refl _⟩
          · have hd' := hd rfl
            clear hd
            go_wp2_with fail
            go_meet
            exact ⟨rfl, Ext.refl _⟩
        case rest =>
        obtain ⟨rfl, hxc⟩ := hcut
        generalize hwx : wc = wx at hxc ⊢
        clear hwx wc
        have HXX := Lib.hid (HX9.out.trans hxc)
        clear hxc HX9 hd H3 HRN
        go_wp2_with fail
        go_loopw [15] (fun i wr => ∃ k : Nat, k ≤ ms.length ∧ i = .int .i64 k ∧ Ext wx wr) (fun i _ => ms.length - (intOf i).toNat)
        case atStart => exact ⟨0, by omega, rfl, Ext.refl _⟩
        case round =>
          obtain ⟨k, hk, rfl, hx⟩ := hrel
          by_cases hlt : k < ms.length
          · obtain ⟨b, off, rfl, hcell⟩ := HROW.out _ (HXX.out.trans hx) (by omega)
            have d0 : wr.cell? ⟨b, off + k * 2, none⟩ = some (.int .i64 (nth ms k).shown) := hcell k hlt 0 (by decide)
            have d1 : wr.cell? ⟨b, off + k * 2 + 1, none⟩ = some (.int .i64 (nth ms k).real) := hcell k hlt 1 (by decide)
            obtain ⟨h64, hg⟩ := HAT.out k hlt
            have H9 := Lib.hid (HTT.out · (nth ms k).shown · h64)
            rw [hg] at H9
            have hk0 : (0 : Int) ≤ (k : Int) := by omega
            have hk1 : (k : Int) < (ms.length : Int) := by omega
            have HXR := Lib.hid (HXX.out.trans hx)
            have HXW := Lib.hid hx
            clear hcell hg h64 hx
            go_wp2_with fail
            refine (H9.out _ HXR.out).mono ?_; rintro e wa ⟨rfl, hx9⟩
            have d1 := hx9.cells d1
            have HXA := Lib.hid (HXW.out.trans hx9)
            clear hx9 d0
            go_wp2_with fail
            go_roundw
            case rel => exact ⟨k + 1, by omega, by go_num, HXA.out⟩
            case measure => simp [intOf] <;> omega
          · have hnk : ¬ (k : Int) < (ms.length : Int) := by omega
            go_wp2_with fail
            go_meet
            exact HXX.out.trans hx
    case rest =>
      have HXC := Lib.hid (HX1.out.trans hcut)
      clear hcut HX1 HX8 HTT HROW HML HBF
      rename_i hK
      exact hK _ _ (tail HD2 HD3 HD4 HXC)

set_option maxRecDepth 100000 in
theorem lifted (os : Os) (started : os.Started) (H : Type) (enc : TypeId × Value → H) :
    ReturnsInHanded {} Try.checked os 4 .any (Rows.fnClocksSpec.pre6 enc Try.prog Try.f4 Rows.fnClocksRow.domain false) (Rows.fnClocksSpec.post enc Try.prog Try.f4 false true false false) := by
  refine returnsInHanded_of_change (C := Try.checked) (by kernel_rfl) started (by kernel_rfl) Try.func4
    (ChangeSpec.witness6 (enc := enc) (C := Try.checked) false ⟨#[], #[.slice none 0 0], []⟩ 8 (by kernel_rfl) (by kernel_rfl) (by kernel_rfl) (by kernel_rfl)) ?_
  intro W base args ds gs before hval0 hW _ _
  have hval : ∀ (j : Nat) t v, Try.f4.params[j]? = some t → args[j]? = some v → Value.okWide Try.prog W .any base t v := hval0
  have hW' := hW
  obtain ⟨p, q, hA0, hV, rfl, hfz, hnd⟩ := hW
  have hA : DataW.TrodAll enc Try.prog W 0 (fun _ => true) true Try.f4.params.toList args.toList ds p := hA0
  rw [Try.params4] at hA hval
  obtain ⟨v0, vs0, d0, ds0, p0, q0, hargs, rfl, rfl, h0, r0⟩ := trodAll_cons hA
  obtain ⟨rfl, rfl, rfl⟩ := trodAll_nil r0
  obtain rfl : args = #[v0] := by cases args; simp_all
  obtain ⟨rfl, rfl⟩ := trodVars_none hV
  obtain ⟨ao0, cap0, m0, bs0, rfl, hl0, hr0, hw0⟩ := open_ByteS (hval 0 35 v0 rfl rfl) h0
  refine (walk hr0 hl0 hw0).mono fun e W' ⟨he, hx⟩ => ?_
  subst he
  exact ⟨_, rfl, law_post (by kernel_rfl) (by kernel_rfl) Try.underlying4 rfl rfl hW' rfl hx⟩

theorem holds : Rows.FnClocksSaid :=
  OpenClaim.holds_of_wide 4 Try.f4 rfl rfl rfl rfl rfl rfl rfl ⟨rfl, rfl, rfl, rfl, rfl⟩ rfl rfl rfl rfl rfl (by kernel_rfl) Try.func4 (by kernel_rfl)
    (of_decide_eq_true (by kernel_rfl)) (by unfold Func.isWrapper; first | (rw [if_pos (by decide +kernel)]; kernel_rfl) | (rw [if_neg (by decide +kernel)]; exact ⟨rfl, rfl⟩))
    (fun os started H enc _ => lifted os started H enc)

end Go.Proofs.Ytemencnfackplaa.FnClocks
