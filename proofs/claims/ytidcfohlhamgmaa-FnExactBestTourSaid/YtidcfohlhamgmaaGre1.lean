/-
  Proved here: what canReach and the functions in canReach and GreedyTour return.
  Conditions: the map is valid, the cells are cells of the map.
-/
import Derived.Test.YtidcfohlhamgmaaCtlF
import Derived.Test.YtidcfohlhamgmaaQTail
import Derived.Deep.RegionLaw
import Derived.Deep.DeepCutAuto
namespace Go.Proofs.Ytidcfohlhamgmaa
open Go.RowKit

/-- a block that holds a map -/
structure BoxM (w : World) (M : Nat) (m : MapD) (ao : Option Addr) (ac : Nat) (bo : Option Addr) (bc : Nat) : Prop where
  c0 : w.cell? ⟨M, 0, none⟩ = some (.int .i64 m.wid)
  c1 : w.cell? ⟨M, 1, none⟩ = some (.int .i64 m.hei)
  c2 : w.cell? ⟨M, 2, none⟩ = some (.slice ao m.rise.length ac)
  c3 : w.cell? ⟨M, 3, none⟩ = some (.slice bo m.cost.length bc)
theorem BoxM.ext {w w' : World} {M : Nat} {m : MapD} {ao bo : Option Addr} {ac bc : Nat} (h : BoxM w M m ao ac bo bc) (hx : Ext w w') : BoxM w' M m ao ac bo bc := ⟨hx.cells h.c0, hx.cells h.c1, hx.cells h.c2, hx.cells h.c3⟩

set_option maxRecDepth 100000 in
set_option maxHeartbeats 1000000 in
theorem impl_canReach_1 {m : MapD} {ao bo : Option Addr} {ac bc M C c0 q : Nat} {code : Int} {w : World} (hr : RowAt w ao 1 m.rise.length (ic m.rise)) (ht : RowAt w bo 1 m.cost.length (ic m.cost)) (hm : mapB m = true) (hB : BoxM w M m ao ac bo bc) (hC : w.cell? ⟨C, 0, none⟩ = some (.int .i64 (c0 : Nat))) (h0 : c0 < m.cost.length) (hq : q < m.cost.length) :
    Calls Try.prog 108 #[.agg #[.int .i64 code, .int .i64 (q : Nat)], .pointer (some ⟨M, 0, none⟩), .pointer (some ⟨C, 0, none⟩)] w fun e w' => e = .returned (.bool (decide (nth (timL m q) c0 = NT))) ∧ Ext w w' := by
  have HX := Lib.hid ((Ext.refl w).alloc (.cells #[.int .i64 code, .int .i64 (q : Nat)] 75))
  have HT := Lib.hid (impl_leastTime (ac := ac) (bc := bc) (hr.ext HX.out) (ht.ext HX.out) hm h0 hq)
  have HNT := Lib.hid (show NT = 1073741824 from rfl)
  obtain ⟨d0, d1, d2, d3⟩ := hB
  have e1 := World.block_lt_of_cell? _ _ d0
  have e2 := World.block_lt_of_cell? _ _ hC
  generalize nth (timL m q) c0 = tt at *
  unfold MapD.val at *
  clear hr ht hm
  by_cases ht : tt = NT
  all_goals
    have HD := Lib.hid ht
    rw [HNT.out] at ht
    go_enter Try.func108, Try.ntmps108
    go_wp2_with fail
    refine HT.out.mono ?_; rintro e w1 ⟨rfl, hx1⟩
    go_wp2
    go_ret
    exact ⟨ret_b (by rw [HNT.out]; simp [ht]), HX.out.trans hx1⟩

set_option maxHeartbeats 1000000 in
theorem impl_GreedyTour_2 {B : Nat} {a b : Int} {y : Ctl} {w : World} (h : BoxC w B y) :
    Calls Try.prog 73 #[.agg #[.int .i64 a, .int .i64 b], .pointer (some ⟨B, 0, none⟩)] w fun e w' => e = .returned (.bool (decide (a = y.code) && decide (b = y.cell))) ∧ Ext w w' := by
  obtain ⟨d0, d1, _, d2⟩ := h
  obtain ⟨c, d⟩ := y
  dsimp only at *
  by_cases h1 : a = c
  all_goals by_cases h2 : b = d
  all_goals
    go_enter Try.func73, Try.ntmps73
    go_wp2
    go_ret
    exact ⟨ret_b (by simp [h1, h2]), (by repeat (first | (with_reducible exact Ext.refl _) | (with_reducible assumption) | with_reducible refine Ext.drew ?_ | with_reducible refine Ext.alloc ?_ _ | with_reducible refine Ext.setCell ?_ (by first | (simp; done) | (simp; omega) | omega) _ | with_reducible refine Ext.trans ?_ (by with_reducible assumption)))⟩

set_option maxRecDepth 100000 in
set_option maxHeartbeats 2000000 in
theorem impl_GreedyTour_1 {m : MapD} {ao bo : Option Addr} {ac bc M H here q1 q2 : Nat} {a1 a2 : Int} {w : World} (hr : RowAt w ao 1 m.rise.length (ic m.rise)) (ht : RowAt w bo 1 m.cost.length (ic m.cost)) (hm : mapB m = true) (hB : BoxM w M m ao ac bo bc) (hH : w.cell? ⟨H, 0, none⟩ = some (.int .i64 (here : Nat))) (h0 : here < m.cost.length) (hq1 : q1 < m.cost.length) (hq2 : q2 < m.cost.length) :
    Calls Try.prog 67 #[.agg #[.int .i64 a1, .int .i64 (q1 : Nat)], .agg #[.int .i64 a2, .int .i64 (q2 : Nat)], .pointer (some ⟨M, 0, none⟩), .pointer (some ⟨H, 0, none⟩)] w fun e w' => e = .returned (.int .i64 (orI (cmpI (nth (timL m q1) here) (nth (timL m q2) here)) (cmpI a1 a2))) ∧ Ext w w' := by
  have hx : Ext w ((w.alloc (.cells #[.int .i64 a1, .int .i64 (q1 : Nat)] 75)).alloc (.cells #[.int .i64 a2, .int .i64 (q2 : Nat)] 75)) := ((Ext.refl w).alloc _).alloc _
  have f0 : ((w.alloc (.cells #[.int .i64 a1, .int .i64 (q1 : Nat)] 75)).alloc (.cells #[.int .i64 a2, .int .i64 (q2 : Nat)] 75)).cell? ⟨w.heap.size, 0, none⟩ = some (.int .i64 a1) := by go_simp
  have f1 : ((w.alloc (.cells #[.int .i64 a1, .int .i64 (q1 : Nat)] 75)).alloc (.cells #[.int .i64 a2, .int .i64 (q2 : Nat)] 75)).cell? ⟨w.heap.size, 1, none⟩ = some (.int .i64 (q1 : Nat)) := by go_simp
  have g0 : ((w.alloc (.cells #[.int .i64 a1, .int .i64 (q1 : Nat)] 75)).alloc (.cells #[.int .i64 a2, .int .i64 (q2 : Nat)] 75)).cell? ⟨w.heap.size + 1, 0, none⟩ = some (.int .i64 a2) := by go_simp
  have g1 : ((w.alloc (.cells #[.int .i64 a1, .int .i64 (q1 : Nat)] 75)).alloc (.cells #[.int .i64 a2, .int .i64 (q2 : Nat)] 75)).cell? ⟨w.heap.size + 1, 1, none⟩ = some (.int .i64 (q2 : Nat)) := by go_simp
  have hB' := hB.ext hx
  have hH' := hx.cells hH
  have hr' := hr.ext hx
  have ht' := ht.ext hx
  have hz : w.heap.size + 1 < ((w.alloc (.cells #[.int .i64 a1, .int .i64 (q1 : Nat)] 75)).alloc (.cells #[.int .i64 a2, .int .i64 (q2 : Nat)] 75)).heap.size := by simp
  clear hB hH hr ht
  go_enter Try.func67, Try.ntmps67
  go_wp2_with fail
  generalize hW : ((w.alloc (.cells #[.int .i64 a1, .int .i64 (q1 : Nat)] 75)).alloc (.cells #[.int .i64 a2, .int .i64 (q2 : Nat)] 75)) = W at *
  clear hW
  have HX := Lib.hid hx; clear hx
  have HT1 := Lib.hid (fun y (hx : Ext W y) => impl_leastTime (w := y) (ac := ac) (bc := bc) (hr'.ext hx) (ht'.ext hx) hm h0 hq1)
  have HT2 := Lib.hid (fun y (hx : Ext W y) => impl_leastTime (w := y) (ac := ac) (bc := bc) (hr'.ext hx) (ht'.ext hx) hm h0 hq2)
  have HO := Lib.hid (fun x (B : Nat) (a b : Int) (h1 : x.cell? ⟨B, 0, none⟩ = some (.int .i64 a)) (h2 : x.cell? ⟨B, 1, none⟩ = some (.int .i64 b)) => cmp_Or (w := x) (B := B) h1 h2)
  obtain ⟨d0, d1, d2, d3⟩ := hB'
  obtain ⟨t1, ht1⟩ : ∃ t, nth (timL m q1) here = t := ⟨_, rfl⟩
  obtain ⟨t2, ht2⟩ : ∃ t, nth (timL m q2) here = t := ⟨_, rfl⟩
  rw [ht1] at HT1
  rw [ht2] at HT2
  have T1 := Lib.hid ht1; have T2 := Lib.hid ht2
  clear ht1 ht2
  unfold MapD.val at *
  clear hr' ht' hm h0 hq1 hq2
  refine wp_region_ext_tail 16 (by kernel_rfl) (by kernel_rfl) ?_
  simp only [List.take_succ_cons, List.take_zero, List.drop_succ_cons, List.drop_zero]
  have k0 := Grow.cells f0
  have k1 := Grow.cells f1
  have k2 := Grow.cells g0
  have k3 := Grow.cells g1
  have k4 := Grow.cells d0
  have k5 := Grow.cells d1
  have k6 := Grow.cells d2
  have k7 := Grow.cells d3
  have k8 := Grow.cells hH'
  repeat (go_big_quiet_step ((first | (go_at_call 70; with_reducible exact Calls.ext_of (HT1.out _ (Grow.h _))) | (go_at_call 70; with_reducible exact Calls.ext_of (HT2.out _ (Grow.h _))) | (go_at_call 69; with_reducible exact Calls.ext_of_same cmp_Compare))))
  refine wpQuiet_nil ?_
  rintro _ ⟨⟨w1, hx1⟩, rfl⟩
  clear k0 k1 k2 k3 k4 k5 k6 k7 k8 f0 f1 g0 g1 d0 d1 d2 d3 hH'
  have HX1 := Lib.hid (HX.out.trans hx1)
  clear hx1 HX HT1 HT2
  generalize hca : cmpI t1 t2 = ca
  generalize hcb : cmpI a1 a2 = cb
  have CA := Lib.hid hca; have CB := Lib.hid hcb
  clear hca hcb
  go_wp2_with fail
  refine (HO.out _ _ ca cb (by go_simp) (by go_simp)).mono ?_; rintro e w2 ⟨rfl, hx2⟩
  have HX2 := Lib.hid (HX1.out.trans (Ext.trans ((Ext.refl _).alloc _) hx2))
  clear hx2 HO HX1
  go_wp2
  go_ret
  exact ⟨ret_i (by rw [T1.out, T2.out, CA.out, CB.out]), HX2.out⟩

set_option maxRecDepth 100000 in
set_option maxHeartbeats 2000000 in
theorem impl_canReach {m : MapD} {ao bo : Option Addr} {ac bc : Nat} {xs : List Ctl} {co : Option Addr} {cap c0 : Nat} {w : World} (h : Site w m ao bo xs co cap) (hc : ctlsB m xs = true) (hnil : co = none → cap = 0) (h0 : c0 < m.cost.length) :
    Calls Try.prog 65 #[m.val ao ac bo bc, .slice co xs.length cap, .int .i64 c0] w fun e w' => ∃ lo lc, e = .returned (.slice lo (leftL m xs c0 []).length lc) ∧ Ext w w' ∧
      ((lo = none ∧ lc = 0 ∧ (leftL m xs c0 []).length = 0) ∨ ∃ g, lo = some ⟨g, 0, none⟩ ∧ (leftL m xs c0 []).length ≤ lc ∧ lc ≤ 9223372036854775807 ∧ FreshAt w.heap.size w' (some ⟨g, 0, none⟩) 2 (leftL m xs c0 []).length (fun k => (nth (leftL m xs c0 []) k).c)) := by
  have h10 := (ctls_map hc).2
  have hm := (ctls_map hc).1
  have hx0 : Ext w ((w.alloc (.cells #[.int .i64 m.wid, .int .i64 m.hei, .slice ao m.rise.length ac, .slice bo m.cost.length bc] 30)).alloc (.cells #[.int .i64 (c0 : Nat)] 3)) := ((Ext.refl w).alloc _).alloc _
  have hbm : BoxM ((w.alloc (.cells #[.int .i64 m.wid, .int .i64 m.hei, .slice ao m.rise.length ac, .slice bo m.cost.length bc] 30)).alloc (.cells #[.int .i64 (c0 : Nat)] 3)) w.heap.size m ao ac bo bc := ⟨by go_simp, by go_simp, by go_simp, by go_simp⟩
  have hcc : ((w.alloc (.cells #[.int .i64 m.wid, .int .i64 m.hei, .slice ao m.rise.length ac, .slice bo m.cost.length bc] 30)).alloc (.cells #[.int .i64 (c0 : Nat)] 3)).cell? ⟨w.heap.size + 1, 0, none⟩ = some (.int .i64 (c0 : Nat)) := by go_simp
  have hsz : w.heap.size + 1 < ((w.alloc (.cells #[.int .i64 m.wid, .int .i64 m.hei, .slice ao m.rise.length ac, .slice bo m.cost.length bc] 30)).alloc (.cells #[.int .i64 (c0 : Nat)] 3)).heap.size := by simp
  have HL := Lib.hid (left_start hc h0)
  unfold MapD.val at *
  go_enter Try.func65, Try.ntmps65
  go_wp2_with fail
  generalize hW : ((w.alloc (.cells #[.int .i64 m.wid, .int .i64 m.hei, .slice ao m.rise.length ac, .slice bo m.cost.length bc] 30)).alloc (.cells #[.int .i64 (c0 : Nat)] 3)) = W at *
  clear hW
  have HX := Lib.hid hx0; clear hx0
  have HS := Lib.hid h; clear h
  have HBM := Lib.hid hbm; have HCC := Lib.hid hcc; have HSZ := Lib.hid hsz
  clear hbm hcc hsz
  refine (clone_Ctl (HS.out.ctls.ext HX.out) (by omega) hnil).mono ?_; rintro e w2 ⟨v, rfl, hx2, hO⟩
  have HX2 := Lib.hid hx2; clear hx2
  rcases hO.form with ⟨rfl, hms⟩ | ⟨g, cap1, rfl, hlc, hcm, hF⟩
  · have HE : Hid ((leftL m xs c0 []).length = 0) := Lib.hid (by rw [← HL.out, hms]; rfl)
    clear hO hms
    go_wp2_with fail
    refine deleteFunc_nil_Ctl.mono ?_; rintro e w3 ⟨rfl, hx3⟩
    have HX3 := Lib.hid hx3; clear hx3
    go_wp2
    go_ret
    exact ⟨none, 0, by rw [HE.out]; rfl, HX.out.trans (HX2.out.trans HX3.out), .inl ⟨rfl, rfl, HE.out⟩⟩
  · have hb := hF.base _ rfl
    simp only at hb
    have hgw : W.heap.size ≤ g := hb.1
    have hdel := deleteFunc_Ctl (p := fun c => decide (dist m c0 c = NT)) (caps := #[.pointer (some ⟨w.heap.size, 0, none⟩), .pointer (some ⟨w.heap.size + 1, 0, none⟩)]) hF (by omega) hlc hcm (entersF_of Try.func108 (by kernel_rfl) rfl) (fun k hk w' hg => by
      have hE : Ext W w' := grown_ext HX2.out hg (fun k e => by injection e with e; omega)
      have h1 := cellN_lt hc hk
      have e : (nth xs k).val = .agg #[.int .i64 (nth xs k).code, .int .i64 (cellN (nth xs k) : Nat)] := by rw [← h1.1]; rfl
      rw [e]
      exact impl_canReach_1 (HS.out.rise.ext (HX.out.trans hE)) (HS.out.cost.ext (HX.out.trans hE)) hm (HBM.out.ext hE) (hE.cells HCC.out) h0 h1.2)
    rw [HL.out] at hdel
    have HDEL := Lib.hid hdel
    have HLL : Hid ((leftL m xs c0 []).length ≤ xs.length) := Lib.hid left_len
    have HLC := Lib.hid hlc
    clear hO hF hb hdel hlc
    go_wp2_with fail
    refine HDEL.out.mono ?_; rintro e w3 ⟨rfl, hg3, hF3⟩
    have HG3 := Lib.hid hg3; have HF3 := Lib.hid hF3
    clear hg3 hF3
    go_wp2
    go_ret
    exact ⟨some ⟨g, 0, none⟩, cap1, rfl, HX.out.trans (grown_ext HX2.out HG3.out (fun k e => by injection e with e; omega)), .inr ⟨g, rfl, by have := HLL.out; have := HLC.out; omega, hcm, HF3.out.row, fun a e => by have := HF3.out.base a e; have := HX.out.size; omega, HF3.out.free⟩⟩

end Go.Proofs.Ytidcfohlhamgmaa
