/-
  Proved here: what GreedyTour returns.
  Conditions: the lengths fit an int.
-/
import Derived.Test.YtidcfohlhamgmaaGre1
import Derived.Test.YtidcfohlhamgmaaCopyI
import Derived.Test.YtidcfohlhamgmaaTour10
import Derived.Deep.CutBlock
namespace Go.Proofs.Ytidcfohlhamgmaa
open Go.RowKit

noncomputable def grB (m : MapD) (xs : List Ctl) (r : RuleD) (center : Int) : Bool := ruleB m xs r && openB m center
noncomputable def grT (m : MapD) (xs : List Ctl) (r : RuleD) (center : Int) : List Int := if grB m xs r center then grL m xs r.lim center.toNat 8 [] center.toNat else []
/-- what is handed back: ints of the call's own, a bool -/
def ResN (w : World) (L : List Int) (B : Bool) (e : Ending) (w' : World) : Prop := ∃ bo bc, e = .returned (.tuple #[.slice bo L.length bc, .bool B]) ∧ Ext w w' ∧ FreshAt w.heap.size w' bo 1 L.length (ic L)
theorem FreshAt.none1 {B0 : Nat} {w : World} {s : Nat} {c : Nat → Nat → Value} : FreshAt B0 w none s 0 c := ⟨fun h => absurd h (by simp), fun a e => (by cases e), fun b off e => (by cases e)⟩
theorem rule_ctls {m : MapD} {xs : List Ctl} {r : RuleD} (h : ruleB m xs r = true) : ctlsB m xs = true := by
  simp only [ruleB, Bool.and_eq_true] at h
  exact h.1.1.1.1
theorem gr_empty {m : MapD} {xs : List Ctl} {lim : Int} {c0 here f : Nat} {cs : List Int} (h : GInv m xs c0 cs here) (hc : ctlsB m xs = true) (h0 : c0 < m.cost.length) (hl : (leftL m xs c0 cs).length = 0) : grL m xs lim c0 f cs here = cs := by
  cases f with
  | zero => rfl
  | succ f =>
    rcases h.pick hc h0 with ⟨_, e⟩ | ⟨hp, _⟩
    · rw [grL, e, if_pos (by decide)]
    · omega
theorem gr_next {m : MapD} {xs : List Ctl} {lim : Int} {c0 here f k : Nat} {cs : List Int} {d : Int} (e : pkI m xs here cs xs.length = ((k : Int), d)) :
    grL m xs lim c0 (f + 1) cs here = if lim < wayT m c0 (tourW xs c0 (cs ++ [(nth xs k).code])) then cs else grL m xs lim c0 f (cs ++ [(nth xs k).code]) (cellN (nth xs k)) := by
  rw [grL, e, if_neg (by show ¬ (k : Int) < 0; omega)]
  rfl

structure BoxI (w : World) (B : Nat) (n : Nat) : Prop where
  c : w.cell? ⟨B, 0, none⟩ = some (.int .i64 n)
  fr : w.frozen? ⟨B, 0, none⟩ = false
  lt : B < w.heap.size
theorem BoxI.ext {w w' : World} {B n : Nat} (h : BoxI w B n) (hx : Ext w w') : BoxI w' B n := ⟨hx.cells h.c, (hx.frozenr B 0 h.lt).trans h.fr, Nat.lt_of_lt_of_le h.lt hx.size⟩
theorem BoxI.put {w : World} {B n : Nat} (h : BoxI w B n) (k : Nat) : BoxI (w.setCell ⟨B, 0, none⟩ (.int .i64 (k : Nat))) B k :=
  ⟨World.cell?_setCell_same _ _ _ h.c, by rw [World.frozen?_setCell]; exact h.fr, by simpa [World.setCell] using h.lt⟩
theorem BoxI.grow {w w' : World} {B n g : Nat} (h : BoxI w B n) (hg : w.grownBy w' (some g)) (hne : g ≠ B) : BoxI w' B n := by
  have hr : (some g : Option Nat) ≠ some B := fun e => hne (Option.some.inj e)
  exact ⟨(grown_cell hg h.lt hr).trans h.c, (grown_frozen hg h.lt hr).trans h.fr, Nat.lt_of_lt_of_le h.lt (grown_size hg)⟩
theorem BoxC.off {w : World} {B : Nat} {y : Ctl} (h : BoxC w B y) {p : Addr} (hp : B ≠ p.block) (u : Value) : BoxC (w.setCell p u) B y :=
  ⟨(World.cell?_setCell_other _ _ _ _ (fun q => hp (by rw [q]))).trans h.c0, (World.cell?_setCell_other _ _ _ _ (fun q => hp (by rw [q]))).trans h.c1, fun j => by rw [World.frozen?_setCell]; exact h.fr j, by simpa [World.setCell] using h.lt⟩
theorem BoxC.grow {w w' : World} {B g : Nat} {y : Ctl} (h : BoxC w B y) (hg : w.grownBy w' (some g)) (hne : g ≠ B) : BoxC w' B y := by
  have hr : (some g : Option Nat) ≠ some B := fun e => hne (Option.some.inj e)
  exact ⟨(grown_cell hg h.lt hr).trans h.c0, (grown_cell hg h.lt hr).trans h.c1, fun j => (grown_frozen hg h.lt hr).trans (h.fr j), Nat.lt_of_lt_of_le h.lt (grown_size hg)⟩
/-- the controls that are left, in memory of the call's own between a and b, apart from ob -/
def LeftAt (a b : Nat) (wr : World) (lo : Option Addr) (lc : Nat) (L : List Ctl) (ob : Nat) : Prop :=
  L.length = 0 ∨ ∃ g, lo = some ⟨g, 0, none⟩ ∧ a < g ∧ g < b ∧ ob ≠ g ∧ L.length ≤ lc ∧ lc ≤ 9223372036854775807 ∧ FreshAt a wr (some ⟨g, 0, none⟩) 2 L.length (fun k => (nth L k).c)
theorem FreshAt.low {B0 B1 : Nat} {w : World} {ao : Option Addr} {s n : Nat} {c : Nat → Nat → Value} (h : FreshAt B0 w ao s n c) (hb : B1 ≤ B0) : FreshAt B1 w ao s n c := ⟨h.row, fun a e => by have := h.base a e; omega, h.free⟩
theorem FreshAt.setOff {B0 : Nat} {w : World} {ao : Option Addr} {s n : Nat} {c : Nat → Nat → Value} (h : FreshAt B0 w ao s n c) {p : Addr} (hp : ∀ a, ao = some a → a.block ≠ p.block) (u : Value) : FreshAt B0 (w.setCell p u) ao s n c := by
  refine ⟨fun hn => ?_, fun a e => by simpa [World.setCell] using h.base a e, fun b off e j => by rw [World.frozen?_setCell]; exact h.free b off e j⟩
  obtain ⟨b, off, e, H⟩ := h.row hn
  exact ⟨b, off, e, fun k hk j hj => (World.cell?_setCell_other _ _ _ _ (fun q => hp _ e (by rw [q]))).trans (H k hk j hj)⟩
theorem FreshAt.grow {B0 g : Nat} {w w' : World} {b : Nat} {s n : Nat} {c : Nat → Nat → Value} (h : FreshAt B0 w (some ⟨b, 0, none⟩) s n c) (hg : w.grownBy w' (some g)) (hne : g ≠ b) : FreshAt B0 w' (some ⟨b, 0, none⟩) s n c := by
  have hb := h.base _ rfl
  simp only at hb
  have hr : (some g : Option Nat) ≠ some b := fun e => hne (Option.some.inj e)
  refine ⟨fun hn => ?_, fun a e => ?_, fun b' off e j => ?_⟩
  · obtain ⟨b', off, e, H⟩ := h.row hn
    injection e with e; injection e with e1 e2; subst e1 e2
    exact ⟨b, 0, rfl, fun k hk j hj => (grown_cell hg hb.2 hr).trans (H k hk j hj)⟩
  · injection e with e; subst e
    have := grown_size hg
    simp only
    omega
  · injection e with e; injection e with e1 e2; subst e1
    exact (grown_frozen hg hb.2 hr).trans (h.free b 0 rfl j)

set_option maxRecDepth 100000 in
set_option maxHeartbeats 4000000 in
theorem impl_GreedyTour {m : MapD} {ao bo : Option Addr} {ac bc : Nat} {xs : List Ctl} {co : Option Addr} {cap : Nat} {r : RuleD} {po : Option Addr} {pc : Nat} {center : Int} {w : World} (h : Site w m ao bo xs co cap) (hp : RowAt w po 1 r.pts.length (ic r.pts)) (hn : r.pts.length ≤ 9223372036854775807) (hnil : co = none → cap = 0) :
    Calls Try.prog 25 #[m.val ao ac bo bc, .slice co xs.length cap, r.val po pc, .int .i64 center] w (ResN w (grT m xs r center) (grB m xs r center)) := by
  have hx0 : Ext w ((w.alloc (.cells #[.int .i64 m.wid, .int .i64 m.hei, .slice ao m.rise.length ac, .slice bo m.cost.length bc] 30)).alloc (.cells #[.slice po r.pts.length pc, .int .i64 r.lim, .int .i64 r.pen] 43)) := ((Ext.refl w).alloc _).alloc _
  have hbm : BoxM ((w.alloc (.cells #[.int .i64 m.wid, .int .i64 m.hei, .slice ao m.rise.length ac, .slice bo m.cost.length bc] 30)).alloc (.cells #[.slice po r.pts.length pc, .int .i64 r.lim, .int .i64 r.pen] 43)) w.heap.size m ao ac bo bc := ⟨by go_simp, by go_simp, by go_simp, by go_simp⟩
  have r0 : ((w.alloc (.cells #[.int .i64 m.wid, .int .i64 m.hei, .slice ao m.rise.length ac, .slice bo m.cost.length bc] 30)).alloc (.cells #[.slice po r.pts.length pc, .int .i64 r.lim, .int .i64 r.pen] 43)).cell? ⟨w.heap.size + 1, 0, none⟩ = some (.slice po r.pts.length pc) := by go_simp
  have r1 : ((w.alloc (.cells #[.int .i64 m.wid, .int .i64 m.hei, .slice ao m.rise.length ac, .slice bo m.cost.length bc] 30)).alloc (.cells #[.slice po r.pts.length pc, .int .i64 r.lim, .int .i64 r.pen] 43)).cell? ⟨w.heap.size + 1, 1, none⟩ = some (.int .i64 r.lim) := by go_simp
  have r2 : ((w.alloc (.cells #[.int .i64 m.wid, .int .i64 m.hei, .slice ao m.rise.length ac, .slice bo m.cost.length bc] 30)).alloc (.cells #[.slice po r.pts.length pc, .int .i64 r.lim, .int .i64 r.pen] 43)).cell? ⟨w.heap.size + 1, 2, none⟩ = some (.int .i64 r.pen) := by go_simp
  have HA := Lib.hid (fun y (hx : Ext w y) => impl_IsScoreRule (w := y) (ac := ac) (bc := bc) (cap := cap) (pc := pc) (h.ext hx) (hp.ext hx) hn)
  have HO := Lib.hid (fun y (hx : Ext w y) => impl_isOpen (w := y) (ac := ac) (bc := bc) (x := center) (h.rise.ext hx) (h.cost.ext hx) h.n1 h.n2)
  obtain ⟨j0, hj, hy0, hy1, hy2⟩ := info_parts infoInt
  have HJ := Lib.hid hj; have HY0 := Lib.hid hy0; have HY1 := Lib.hid hy1; have HY2 := Lib.hid hy2
  clear hj hy0 hy1 hy2
  have HBF : Hid (grB m xs r center = (ruleB m xs r && openB m center)) := Lib.hid rfl
  have HTF : Hid (grT m xs r center = if grB m xs r center then grL m xs r.lim center.toNat 8 [] center.toNat else []) := Lib.hid rfl
  cases ha : ruleB m xs r
  · have HB : Hid (grB m xs r center = false) := Lib.hid (by rw [HBF.out, ha]; rfl)
    have HT : Hid (grT m xs r center = []) := Lib.hid (by rw [HTF.out, HB.out]; rfl)
    rw [ha] at HA
    unfold MapD.val RuleD.val at *
    clear ha hnil h hp
    go_enter Try.func25, Try.ntmps25
    go_wp2_with fail
    refine (HA.out _ hx0).mono ?_; rintro e w1 ⟨rfl, hx1⟩
    have HX1 := Lib.hid (hx0.trans hx1)
    clear hx1 hx0 HA hbm r0 r1 r2
    go_wp2
    go_ret2
    rw [HT.out, HB.out]
    exact ⟨none, 0, rfl, HX1.out, FreshAt.none1⟩
  · rw [ha] at HA
    cases hb : openB m center
    · have HB : Hid (grB m xs r center = false) := Lib.hid (by rw [HBF.out, hb, Bool.and_false])
      have HT : Hid (grT m xs r center = []) := Lib.hid (by rw [HTF.out, HB.out]; rfl)
      rw [hb] at HO
      unfold MapD.val RuleD.val at *
      clear ha hb hnil h hp
      obtain ⟨d0, d1, d2, d3⟩ := hbm
      go_enter Try.func25, Try.ntmps25
      go_wp2_with fail
      refine (HA.out _ hx0).mono ?_; rintro e w1 ⟨rfl, hx1⟩
      have HX1 := Lib.hid (hx0.trans hx1)
      have d0 := hx1.cells d0
      have d1 := hx1.cells d1
      have d2 := hx1.cells d2
      have d3 := hx1.cells d3
      clear hx1 hx0 HA r0 r1 r2
      go_wp2_with fail
      refine (HO.out _ HX1.out).mono ?_; rintro e w2 ⟨rfl, hx2⟩
      have HX2 := Lib.hid (HX1.out.trans hx2)
      clear hx2 HO d0 d1 d2 d3
      go_wp2
      go_ret2
      rw [HT.out, HB.out]
      exact ⟨none, 0, rfl, HX2.out, FreshAt.none1⟩
    · obtain ⟨c0, ec, hc0⟩ := open_nat hb
      subst ec
      have hc := rule_ctls ha
      have hm := (ctls_map hc).1
      have h10 := (ctls_map hc).2
      have HB : Hid (grB m xs r c0 = true) := Lib.hid (by rw [HBF.out, ha, hb]; rfl)
      have HT : Hid (grT m xs r c0 = grL m xs r.lim c0 8 [] c0) := Lib.hid (by rw [HTF.out, HB.out]; rfl)
      have HCR := Lib.hid (fun y (hx : Ext w y) => impl_canReach (w := y) (ac := ac) (bc := bc) (cap := cap) (h.ext hx) hc hnil hc0)
      have HTT := Lib.hid (fun y (hx : Ext w y) (cs : List Int) (qo : Option Addr) (qc : Nat) (hq : RowAt y qo 1 cs.length (ic cs)) (hl : cs.length ≤ 20) (ho : ofB xs cs = true) => impl_tourTime (w := y) (ac := ac) (bc := bc) (cap := cap) (qc := qc) (h.ext hx) hc hq hl ho hc0)
      have HSITE := Lib.hid h
      rw [hb] at HO
      unfold MapD.val at HA HO HCR HTT ⊢
      unfold RuleD.val at HA ⊢
      clear ha hb h hp hn hnil
      obtain ⟨d0, d1, d2, d3⟩ := hbm
      go_enter Try.func25, Try.ntmps25
      go_wp2_with fail
      refine (HA.out _ hx0).mono ?_; rintro e w1 ⟨rfl, hx1⟩
      have HX1 := Lib.hid (hx0.trans hx1)
      have d0 := hx1.cells d0
      have d1 := hx1.cells d1
      have d2 := hx1.cells d2
      have d3 := hx1.cells d3
      have r1 := hx1.cells r1
      clear hx1 hx0 HA r0 r2
      go_wp2_with fail
      refine (HO.out _ HX1.out).mono ?_; rintro e w2 ⟨rfl, hx2⟩
      have HX2 := Lib.hid (HX1.out.trans hx2)
      have d0 := hx2.cells d0
      have d1 := hx2.cells d1
      have d2 := hx2.cells d2
      have d3 := hx2.cells d3
      have r1 := hx2.cells r1
      have HBM2 : Hid (BoxM w2 w.heap.size m ao ac bo bc) := Lib.hid ⟨d0, d1, d2, d3⟩
      have HR2 := Lib.hid r1
      have hwl := World.block_lt_of_cell? _ _ r1
      simp only at hwl
      have hwl0 : w.heap.size < w2.heap.size := by omega
      clear hx2 HO
      go_wp2_with fail
      refine (HCR.out _ (HX2.out.alloc _)).mono ?_; rintro e w3 ⟨lo, lc, rfl, hx3, hL⟩
      have HX3 := Lib.hid ((HX2.out.alloc (.cells #[] 3)).trans hx3)
      have HEX3 := Lib.hid (Ext.trans ((Ext.refl w2).alloc (.cells #[] 3)) hx3)
      have HSZ3 := Lib.hid hx3.size
      have HF0 : Hid (w3.frozen? ⟨w2.heap.size, 0, none⟩ = false ∧ ∀ j, w3.frozen? ⟨w2.heap.size, j, none⟩ = false) := Lib.hid ⟨(hx3.frozenr _ _ (by simp)).trans (by go_simp), fun j => (hx3.frozenr _ _ (by simp)).trans (by go_simp)⟩
      have HL := Lib.hid hL
      have hw23 : w2.heap.size < w3.heap.size := by have := HSZ3.out; simp at this; omega
      have hw3 := HX3.out.size
      have hw2 := HX2.out.size
      clear hx3 d0 d1 d2 d3 r1 hL HCR
      go_wp2
      go_loopw [10, 12] (fun o l wr => ∃ (cs : List Int) (here f ob oc : Nat) (lo' : Option Addr) (lc' : Nat), o = .slice (some ⟨ob, 0, none⟩) cs.length oc ∧ l = .slice lo' (leftL m xs c0 cs).length lc' ∧ f + cs.length = 8 ∧ grL m xs r.lim c0 f cs here = grL m xs r.lim c0 8 [] c0 ∧ GInv m xs c0 cs here ∧ Ext w2 wr ∧ FreshAt w2.heap.size wr (some ⟨ob, 0, none⟩) 1 cs.length (ic cs) ∧ ob ≠ w3.heap.size ∧ BoxI wr w3.heap.size here ∧ LeftAt w2.heap.size w3.heap.size wr lo' lc' (leftL m xs c0 cs) ob) (fun o _ _ => 8 - (match o with | .slice _ n _ => n | _ => 0))
      case atStart =>
        have hxs : Ext w3 (w3.alloc (.cells #[.int .i64 (c0 : Nat)] 3)) := (Ext.refl w3).alloc _
        refine ⟨[], c0, 8, w2.heap.size, 0, lo, lc, rfl, rfl, rfl, rfl, GInv.start hc0, HEX3.out.trans hxs, ⟨fun h => absurd h (by simp), fun a e => ?_, fun b off e => ?_⟩, by omega, ⟨by go_simp, by go_simp, by simp⟩, ?_⟩
        · injection e with e; subst e
          have := hxs.size
          simp only
          omega
        · injection e with e; injection e with e1 e2; subst e1
          exact fun j => (hxs.frozenr _ _ hw23).trans (HF0.out.2 j)
        · rcases HL.out with ⟨_, _, e⟩ | ⟨g, e1, e2, e3, hF⟩
          · exact .inl e
          · have hb := hF.base _ rfl
            simp only [World.size_alloc] at hb
            have hF' := hF.ext hxs
            exact .inr ⟨g, e1, by omega, hb.2, by omega, e2, e3, hF'.row, fun a e => ⟨by have := (hF'.base a e).1; simp only [World.size_alloc] at this; omega, (hF'.base a e).2⟩, hF'.free⟩
      case round =>
        obtain ⟨cs, here, f, ob, oc, lo', lc', rfl, rfl, hf, hgr, hinv, hx, hFO, hoH, hbI, hleft⟩ := hrel
        have HGR := Lib.hid hgr
        have HX := Lib.hid hx
        have HINV := Lib.hid hinv
        have HFO := Lib.hid hFO
        have HBI := Lib.hid hbI
        rcases hinv.pick hc hc0 with ⟨hl0, _⟩ | ⟨hlp, k, hk, hfr, hpk, hmin⟩
        · have HE := Lib.hid (HT.out.trans (HGR.out.symm.trans (gr_empty hinv hc hc0 hl0)))
          have hl1 : ¬ (0 : Int) < ((leftL m xs c0 cs).length : Int) := by omega
          clear hinv hgr hx hFO hbI hleft hl0
          go_wp2
          go_ret2
          rw [HE.out, HB.out]
          exact ⟨some ⟨ob, 0, none⟩, oc, rfl, HX2.out.trans HX.out, HFO.out.low hw2⟩
        · have hl1 : (0 : Int) < ((leftL m xs c0 cs).length : Int) := by omega
          by_cases h8 : cs.length < 8
          · have h8i : (cs.length : Int) < 8 := by omega
            obtain ⟨f, rfl⟩ : ∃ f', f = f' + 1 := ⟨f - 1, by omega⟩
            rcases hleft with hl0 | ⟨g, rfl, hg1, hg2, hog, hlc, hlm, hF⟩
            · omega
            have hXk := cellN_lt hc hk
            have hEv : ∀ i, i < xs.length → (nth xs i).val = .agg #[.int .i64 (nth xs i).code, .int .i64 (cellN (nth xs i) : Nat)] := fun i hi => by rw [← (cellN_lt hc hi).1]; rfl
            have HMF := Lib.hid (minFunc_Ctl (w := wr) (cap := lc') (xs := leftL m xs c0 cs) (F := 67) (caps := #[.pointer (some ⟨w.heap.size, 0, none⟩), .pointer (some ⟨w3.heap.size, 0, none⟩)]) (o := lexO (dist m here)) (q := lexQ (dist m here)) hF.row (by omega) hlp (entersF_of Try.func67 (by kernel_rfl) rfl) (lexO_less _) (fun x y w' hxy hx' => by
              obtain ⟨i, hi, rfl⟩ := left_mem hxy.1
              obtain ⟨j, hj, rfl⟩ := left_mem hxy.2
              rw [hEv i hi, hEv j hj]
              exact impl_GreedyTour_1 (HSITE.out.rise.ext (HX2.out.trans (hx.trans hx'))) (HSITE.out.cost.ext (HX2.out.trans (hx.trans hx'))) hm (HBM2.out.ext (hx.trans hx')) (hx'.cells hbI.c) hinv.lt (cellN_lt hc hi).2 (cellN_lt hc hj).2))
            rw [hmin, hEv k hk] at HMF
            have HNX := Lib.hid (hinv.step hc hk hfr)
            have HGN := Lib.hid (gr_next (lim := r.lim) (c0 := c0) (f := f) hpk)
            have HLS := Lib.hid (left_step (c0 := c0) (cs := cs) hc hk)
            have HF := Lib.hid hF
            generalize hX : nth xs k = X at *
            have HXV := Lib.hid hX
            clear hinv hfr hgr hx hFO hbI hmin hpk hX hEv hF
            go_wp2_with fail
            refine HMF.out.mono ?_; rintro e w4 ⟨rfl, hx4⟩
            have HX4 := Lib.hid hx4
            clear hx4 HMF
            have hbx : BoxC (w4.alloc (.cells #[.int .i64 X.code, .int .i64 (cellN X : Nat)] 75)) w4.heap.size X := ⟨by go_simp, by rw [hXk.1]; go_simp, fun j => by go_simp, by simp⟩
            have HBX := Lib.hid hbx
            have HW5 := Lib.hid ((Ext.refl w4).alloc (.cells #[.int .i64 X.code, .int .i64 (cellN X : Nat)] 75))
            have hsz4 := HX4.out.size
            have hszr := HBI.out.lt
            have hsz5 : w4.heap.size < (w4.alloc (.cells #[.int .i64 X.code, .int .i64 (cellN X : Nat)] 75)).heap.size := by simp
            have hszx := HX.out.size
            clear hbx
            go_upto_region 6 with fail
            generalize (w4.alloc (.cells #[.int .i64 X.code, .int .i64 (cellN X : Nat)] 75)) = W5 at HBX HW5 hsz5 ⊢
            have HYY := Lib.hid (HX4.out.trans HW5.out)
            have e0 := HBX.out.c0
            have HROW := Lib.hid (HFO.out.row.ext HYY.out)
            obtain ⟨N, hN⟩ : ∃ N, N = cs ++ [X.code] := ⟨_, rfl⟩
            rw [← hN] at HNX HGN HLS
            have HNL := Lib.hid hN; clear hN
            go_cut [14] (fun v wc => ∃ mb mc, v = .slice (some ⟨mb, 0, none⟩) N.length mc ∧ Ext W5 wc ∧ FreshAt W5.heap.size wc (some ⟨mb, 0, none⟩) 1 N.length (ic N))
            case first =>
              have HCP := Lib.hid (fun x (hx2 : Ext W5 x) => impl_copyInts (w := x) (cap := oc) (HROW.out.ext hx2) (by omega))
              generalize X.code = cd at *
              clear hXk
              go_region_law (first
                | (go_simp; go_at_call 71; (with_reducible refine Calls.mono (HCP.out _ (by repeat (first | (with_reducible exact Ext.refl _) | (with_reducible assumption) | with_reducible refine Ext.drew ?_ | with_reducible refine Ext.alloc ?_ _ | with_reducible refine Ext.setCell ?_ (by first | (simp; done) | (simp; omega) | omega) _ | with_reducible refine Ext.trans ?_ (by with_reducible assumption)))) ?_); rintro e w6 ⟨g1, c1, rfl, hx6, ho6⟩; (have e0 := hx6.cells (show World.cell? _ ⟨w4.heap.size, 0, none⟩ = some (.int .i64 cd) by go_simp)); (have HO6 := Lib.hid ho6; have HX6 := Lib.hid (show Ext W5 w6 from (by repeat (first | (with_reducible exact Ext.refl _) | (with_reducible assumption) | with_reducible refine Ext.drew ?_ | with_reducible refine Ext.alloc ?_ _ | with_reducible refine Ext.setCell ?_ (by first | (simp; done) | (simp; omega) | omega) _ | with_reducible refine Ext.trans ?_ (by with_reducible assumption)))); have HRL := Lib.hid (show RowAt (w6.alloc (.cells #[.int .i64 cd] 3)) (some ⟨w6.heap.size, 0, none⟩) 1 [cd].length (fun j => icc (nth [cd] j)) from row_lit (w := w6) (cs := #[.int .i64 cd]) (T := 3) (s := 1) (cc := icc) (x := cd) (by intro j hj; obtain rfl : j = 0 := (by omega); rfl))); have hz6 := hx6.size)
                | (refine step_append_bf (o := ⟨some 48, _, _, _, _, _⟩) rfl _ _ 22 rfl 3 j0 _ 1 8 Try.underlying22 HJ.out HY0.out HY1.out HY2.out rfl (by decide) icc icc_one W5.heap.size ?_ (.slice (some g1) cs.length c1) cs [cd] N HNL rfl ((HO6.out.down (by first | exact Nat.le_refl _ | simp)).ext' ((Ext.refl _).alloc _)) ⟨w6.heap.size, 0, none⟩ 1 1 rfl rfl HRL.out (by simp; omega) (by simp; omega) ?_; (have := HX6.out.size; simp; omega); intro go7 gc7 w7 ho7 hb7 hg7 hv7; have HX7 := Lib.hid (HX6.out.alloc (.cells #[.int .i64 cd] 3)))
                | (refine step_append_bf (o := ⟨some 48, _, _, _, _, _⟩) rfl _ _ 22 rfl 3 j0 _ 1 8 Try.underlying22 HJ.out HY0.out HY1.out HY2.out rfl (by decide) icc icc_one W5.heap.size ?_ (.slice (some g1) cs.length c1) cs [cd] N HNL rfl (HO6.out.down (by simp)) ⟨W5.heap.size, 0, none⟩ 1 1 rfl rfl (fun _ => ⟨W5.heap.size, 0, rfl, fun k hk j hj => by
                    obtain rfl : k = 0 := by simpa using hk
                    obtain rfl : j = 0 := by omega
                    exact hx6.cells (by go_simp; rfl)⟩) (by simp; omega) (by simp; omega) ?_; (have := HX6.out.size; omega); intro go7 gc7 w7 ho7 hb7 hg7 hv7; have HX7 := Lib.hid HX6.out))
              all_goals
                have HXD := Lib.hid (Ext.below HX7.out hb7 (Nat.le_refl _))
                have hfm := ho7.form
                rcases hfm with ⟨_, q⟩ | ⟨mb, mc, q, _, _, hF7⟩
                · exact absurd (HNL.out.symm.trans q) (by simp)
                injection q with q1 q2 q3
                subst q1 q3
                have HF7 := Lib.hid hF7
                clear ho7 hb7 hg7 hv7 hF7 q2
                go_wp2_with fail
                go_meet
                exact ⟨mb, gc7, rfl, HXD.out, HF7.out⟩
            case rest =>
              obtain ⟨mb, mc, rfl, hx6, hF6⟩ := hcut
              have HX6 := Lib.hid hx6; have HF6 := Lib.hid hF6
              have hmb := hF6.base _ rfl
              simp only at hmb
              have hlc8 : N.length = cs.length + 1 := by rw [HNL.out, List.length_append]; rfl
              have HL8 := Lib.hid hlc8
              have HTC := Lib.hid (fun y (hy : Ext wc y) => HTT.out y (HX2.out.trans (HX.out.trans (HYY.out.trans (HX6.out.trans hy)))) N (some ⟨mb, 0, none⟩) mc (HF6.out.row.ext hy) (by omega) HNX.out.codes)
              have HXC := Lib.hid (HX.out.trans (HYY.out.trans HX6.out))
              obtain ⟨d0, d1, d2, d3⟩ := HBM2.out.ext HXC.out
              have r1 := HXC.out.cells HR2.out
              have k0 := Grow.cells d0
              have k1 := Grow.cells d1
              have k2 := Grow.cells d2
              have k3 := Grow.cells d3
              have k4 := Grow.cells r1
              obtain ⟨T, hT⟩ : ∃ T, T = wayT m c0 (tourW xs c0 N) := ⟨_, rfl⟩
              rw [← hT] at HTC HGN
              clear hx6 hF6 e0 HROW hlc8 hT
              by_cases hlt : r.lim < T
              · have HE := Lib.hid (HT.out.trans (HGR.out.symm.trans (HGN.out.trans (if_pos hlt))))
                have hld : decide (r.lim < T) = true := by simpa using hlt
                go_wp2
                refine wp_region_ext (by kernel_rfl) (by kernel_rfl) ?_
                repeat (go_big_quiet_step ((first | (go_at_call 56; with_reducible exact Calls.ext_of (HTC.out _ (Grow.h _))))))
                refine wpQuiet_nil ?_
                rintro _ ⟨⟨w1, hx1⟩, rfl⟩
                clear k0 k1 k2 k3 k4
                have HX7 := Lib.hid (HXC.out.trans hx1)
                have HFO7 := Lib.hid (HFO.out.ext (HYY.out.trans (HX6.out.trans hx1)))
                clear hx1 d0 d1 d2 d3 r1
                go_wp2
                go_ret2
                rw [HE.out, HB.out]
                exact ⟨some ⟨ob, 0, none⟩, oc, rfl, HX2.out.trans HX7.out, HFO7.out.low hw2⟩
              · have HGE := Lib.hid ((HGR.out.symm.trans (HGN.out.trans (if_neg hlt))).symm)
                have hld : decide (r.lim < T) = false := by simpa using hlt
                go_wp2
                refine wp_region_ext (by kernel_rfl) (by kernel_rfl) ?_
                repeat (go_big_quiet_step ((first | (go_at_call 56; with_reducible exact Calls.ext_of (HTC.out _ (Grow.h _))))))
                refine wpQuiet_nil ?_
                rintro _ ⟨⟨w1, hx1⟩, rfl⟩
                clear k0 k1 k2 k3 k4
                rename_i wd
                clear d0 d1 d2 d3 r1
                have HX7 := Lib.hid hx1
                have hz7 := hx1.size
                have HB7 := Lib.hid (HBX.out.ext (HX6.out.trans hx1))
                have HI7 := Lib.hid (HBI.out.ext (HYY.out.trans (HX6.out.trans hx1)))
                have e1 := HB7.out.c1
                have i0 := HI7.out.c
                have i1 := HI7.out.fr
                rw [hXk.1] at e1
                clear hx1
                go_wp2
                go_region
                go_wp2_with fail
                have HSX := Lib.hid (((HXC.out.trans HX7.out).setCell (p := ⟨w3.heap.size, 0, none⟩) (Nat.le_of_lt hw23) (.int .i64 (cellN X : Nat))).drew)
                have HSB := Lib.hid ((HB7.out.off (p := ⟨w3.heap.size, 0, none⟩) (by show w4.heap.size ≠ w3.heap.size; omega) (.int .i64 (cellN X : Nat))).ext ((Ext.refl _).drew))
                have HSI := Lib.hid ((HI7.out.put (cellN X)).ext ((Ext.refl _).drew))
                have HSF := Lib.hid (((HF.out.ext (HYY.out.trans (HX6.out.trans HX7.out))).setOff (p := ⟨w3.heap.size, 0, none⟩) (fun a e => by injection e with e; subst e; show g ≠ w3.heap.size; omega) (.int .i64 (cellN X : Nat))).ext ((Ext.refl _).drew))
                have HSN := Lib.hid (((HF6.out.ext HX7.out).setOff (p := ⟨w3.heap.size, 0, none⟩) (fun a e => by injection e with e; subst e; show mb ≠ w3.heap.size; omega) (.int .i64 (cellN X : Nat))).ext ((Ext.refl _).drew))
                generalize (wd.setCell ⟨w3.heap.size, 0, none⟩ (.int .i64 (cellN X : Nat))).drew = W9 at *
                have hll : (leftL m xs c0 cs).length ≤ xs.length := left_len
                have hdel := deleteFunc_Ctl (w := W9) (cap := lc') (p := fun c => decide (c.code = X.code) && decide (c.cell = X.cell)) (F := 73) (caps := #[.pointer (some ⟨w4.heap.size, 0, none⟩)]) HSF.out (by omega) hlc hlm (entersF_of Try.func73 (by kernel_rfl) rfl) (fun k hk w' hg => impl_GreedyTour_2 (HSB.out.grow hg (by omega)))
                rw [HLS.out] at hdel
                have HDEL := Lib.hid hdel
                have hl2 : (leftL m xs c0 N).length ≤ (leftL m xs c0 cs).length := by rw [← HLS.out]; exact List.length_filter_le _ _
                clear hdel
                refine HDEL.out.mono ?_; rintro e wf ⟨rfl, hg, hF9⟩
                have HG9 := Lib.hid hg; have HF9 := Lib.hid hF9
                clear hg hF9 HDEL
                go_wp2
                go_roundw
                case rel => exact ⟨N, cellN X, f, mb, mc, some ⟨g, 0, none⟩, lc', rfl, rfl, by have := HL8.out; omega, HGE.out, HNX.out, grown_ext HSX.out HG9.out (fun k e => by injection e with e; omega), (HSN.out.grow HG9.out (by omega)).low (by omega), by omega, HSI.out.grow HG9.out (by omega), .inr ⟨g, rfl, hg1, hg2, by omega, by omega, hlm, HF9.out⟩⟩
                case measure => have := HL8.out; show 8 - N.length < 8 - cs.length; omega
          · have h8i : ¬ (cs.length : Int) < 8 := by omega
            obtain rfl : f = 0 := by omega
            have HE := Lib.hid (HT.out.trans HGR.out.symm)
            clear hinv hfr hgr hx hFO hbI hleft hmin hpk
            go_wp2
            go_ret2
            rw [HE.out, HB.out]
            exact ⟨some ⟨ob, 0, none⟩, oc, rfl, HX2.out.trans HX.out, HFO.out.low hw2⟩

end Go.Proofs.Ytidcfohlhamgmaa
