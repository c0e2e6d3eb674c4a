/-
  Proved here: what l12Own, l13Card and l13Correct return.
  Conditions: the lengths fit.
-/
import Derived.Test.YtfbmablfolknpaaCorr1
import Derived.Test.YtfbmablfolknpaaForm
import Derived.Deep.RegionHeld3
import Derived.Deep.RegionWith
import Derived.Deep.DeepCutAuto
import Derived.Deep.DrawnRows
namespace Go.Proofs.Ytfbmablfolknpaa
open Go.RowKit

attribute [local go_sem ↓] Go.wp_at_zero Go.wp_at_succ

set_option maxRecDepth 100000 in
set_option maxHeartbeats 2000000 in
theorem spec_l12Own {c : CardD} {ad : Addr} {cap : Nat} {w : World} (h : RowAt w (some ad) 2 c.ps.length (fun k => (nth c.ps k).c)) (hn : c.ps.length ≤ 1048576) :
    Calls Try.prog 88 #[c.val (some ad) cap] w fun e w' => ∃ go gc, e = .returned (c.val go gc) ∧ Ext w w' ∧ FreshAt w.heap.size w' go 2 c.ps.length (fun k => (nth c.ps k).c) := by
  obtain ⟨i0, hi, hz0, hz1, hz2⟩ := info_parts infoPch
  have hL : c.ps = [] ++ c.ps := rfl
  have HL := Lib.hid hL; clear hL
  have hown0 := fun x : World => Owns.start' (α := Pch) (w := x) (base := x.heap.size) (e := 69) (s := 2) (cc := Pch.c) (Nat.le_refl _)
  have hown1 := hown0 ((w.alloc (Obj.cells #[.int .i64 c.number, .int .i64 c.start, .int .i64 c.finish, .slice (some ad) c.ps.length cap] 41)).alloc (Obj.cells #[.int .i64 0, .int .i64 0, .int .i64 0, .slice none 0 0] 41))
  simp only [World.size_alloc] at hown1
  clear hown0
  have hrow := (((h.ext ((Ext.refl w).alloc (Obj.cells #[.int .i64 c.number, .int .i64 c.start, .int .i64 c.finish, .slice (some ad) c.ps.length cap] 41))).ext ((Ext.refl _).alloc (Obj.cells #[.int .i64 0, .int .i64 0, .int .i64 0, .slice none 0 0] 41))).ext ((Ext.refl _).alloc (.cells #[] 69))).ext (Ext.refl _).drew
  clear h
  unfold CardD.val
  go_enter Try.func88, Try.ntmps88
  go_wp2_with fail
  go_region_held3 (fun w' => w'.cell? ⟨w.heap.size, 0, none⟩ = some (.int .i64 c.number) ∧ w'.cell? ⟨w.heap.size, 1, none⟩ = some (.int .i64 c.start) ∧ w'.cell? ⟨w.heap.size, 2, none⟩ = some (.int .i64 c.finish) ∧ w'.cell? ⟨w.heap.size, 3, none⟩ = some (.slice (some ad) c.ps.length cap)) (first | exact ⟨e0, e1, e2, e3⟩ | go_keep)
    ((refine step_append_bf (o := ⟨some 12, _, _, _, _, _⟩) (by rfl) _ _ 39 (by rfl) 69 i0 _ 2 16 Try.underlying39 hi hz0 hz1 hz2 rfl (by decide) Pch.c pch_one (w.heap.size + 1 + 1) (by simp) (.slice (some ⟨w.heap.size + 1 + 1, 0, none⟩) 0 0) [] c.ps c.ps HL (by rfl) (hown1.ext' (Ext.refl _).drew) ad c.ps.length cap (by rfl) rfl hrow (by simp; omega) (by simp; omega) ?_; intro go1 gc1 w3 ho1 hb3 hg3 hv3; have c0 := (hb3.cell (p := ⟨w.heap.size + 1, 0, none⟩) (by simp)).trans (show _ = some (Value.int .i64 0) by go_simp); have c1 := (hb3.cell (p := ⟨w.heap.size + 1, 1, none⟩) (by simp)).trans (show _ = some (Value.int .i64 0) by go_simp); have c2 := (hb3.cell (p := ⟨w.heap.size + 1, 2, none⟩) (by simp)).trans (show _ = some (Value.int .i64 0) by go_simp); have c3 := (hb3.cell (p := ⟨w.heap.size + 1, 3, none⟩) (by simp)).trans (show _ = some (Value.slice none 0 0) by go_simp); have z0 := (hb3.frozen (p := ⟨w.heap.size + 1, 0, none⟩) (by simp)).trans (show _ = false by go_simp); have z1 := (hb3.frozen (p := ⟨w.heap.size + 1, 1, none⟩) (by simp)).trans (show _ = false by go_simp); have z2 := (hb3.frozen (p := ⟨w.heap.size + 1, 2, none⟩) (by simp)).trans (show _ = false by go_simp); have z3 := (hb3.frozen (p := ⟨w.heap.size + 1, 3, none⟩) (by simp)).trans (show _ = false by go_simp); have e0 := (hb3.cell (p := ⟨w.heap.size, 0, none⟩) (by simp; omega)).trans (show _ = some (Value.int .i64 c.number) by go_simp); have e1 := (hb3.cell (p := ⟨w.heap.size, 1, none⟩) (by simp; omega)).trans (show _ = some (Value.int .i64 c.start) by go_simp); have e2 := (hb3.cell (p := ⟨w.heap.size, 2, none⟩) (by simp; omega)).trans (show _ = some (Value.int .i64 c.finish) by go_simp); have e3 := (hb3.cell (p := ⟨w.heap.size, 3, none⟩) (by simp; omega)).trans (show _ = some (Value.slice (some ad) c.ps.length cap) by go_simp); have l3 : w.heap.size + 1 < w3.heap.size := World.block_lt_of_cell? _ _ c0; have hxw : Ext w w3 := Ext.below (w := ((((w.alloc (Obj.cells #[.int .i64 c.number, .int .i64 c.start, .int .i64 c.finish, .slice (some ad) c.ps.length cap] 41)).alloc (Obj.cells #[.int .i64 0, .int .i64 0, .int .i64 0, .slice none 0 0] 41)).alloc (.cells #[] 69)).drew)) (by repeat (first | (with_reducible exact Ext.refl _) | (with_reducible assumption) | with_reducible refine Ext.drew ?_ | with_reducible refine Ext.alloc ?_ _ | with_reducible refine Ext.setCell ?_ (by first | (simp; done) | (simp; omega) | omega) _ | with_reducible refine Ext.trans ?_ (by with_reducible assumption))) hb3 (by omega); clear hg3 hv3 hb3))
  all_goals
    obtain ⟨go', gc', hv, hFo, _, _, _⟩ := ho1.fresh
    injection hv with e1 _ e3
    subst e1 e3
    go_wp2
    refine bodyPost_ret (v := .agg #[.int .i64 c.number, .int .i64 c.start, .int .i64 c.finish, .slice go1 c.ps.length gc1]) ?_ rfl ?_
    · simp [results, Try.results88, go_sem, cell_put, c0, c1, c2, c3]
    · have hF' := (((hFo.setCell (p := ⟨w.heap.size + 1, 0, none⟩) (by simp) (.int .i64 c.number)).setCell (p := ⟨w.heap.size + 1, 1, none⟩) (by simp) (.int .i64 c.start)).setCell (p := ⟨w.heap.size + 1, 2, none⟩) (by simp) (.int .i64 c.finish)).setCell (p := ⟨w.heap.size + 1, 3, none⟩) (by simp) (.slice go1 c.ps.length gc1)
      have hE : Ext w ((((w3.setCell ⟨w.heap.size + 1, 0, none⟩ (.int .i64 c.number)).setCell ⟨w.heap.size + 1, 1, none⟩ (.int .i64 c.start)).setCell ⟨w.heap.size + 1, 2, none⟩ (.int .i64 c.finish)).setCell ⟨w.heap.size + 1, 3, none⟩ (.slice go1 c.ps.length gc1)) := Ext.setCell (Ext.setCell (Ext.setCell (Ext.setCell hxw (by simp) _) (by simp) _) (by simp) _) (by simp) _
      first
        | exact ⟨go1, gc1, rfl, hE, hF'.mono (by omega)⟩
        | exact ⟨go1, ⟨gc1, rfl⟩, hE, hF'.mono (by omega)⟩

theorem FreshAt.congr {B0 : Nat} {w : World} {ao : Option Addr} {s n : Nat} {c c' : Nat → Nat → Value} (h : FreshAt B0 w ao s n c) (hc : ∀ k, k < n → ∀ j, j < s → c k j = c' k j) : FreshAt B0 w ao s n c' where
  row := fun hn => by
    obtain ⟨b, off, e, H⟩ := h.row hn
    exact ⟨b, off, e, fun k hk j hj => by rw [← hc k hk j hj]; exact H k hk j hj⟩
  base := h.base
  free := h.free

def corA (c : CardD) (code : Int) (ms : List Mark) : Bool := cardB c && inB code 31 99 && marksB ms

theorem spec_l13Card {c : CardD} {ad : Addr} {cap : Nat} {code : Int} {ms : List Mark} {mo : Option Addr} {mcap : Nat} {w : World} (h : RowAt w (some ad) 2 c.ps.length (fun k => (nth c.ps k).c)) (hn : c.ps.length ≤ 9223372036854775807)
    (h' : RowAt w mo 2 ms.length (fun k => (nth ms k).c)) (hn' : ms.length ≤ 9223372036854775807) :
    Calls Try.prog 55 #[c.val (some ad) cap, .int .i64 code, .slice mo ms.length mcap] w fun e w' => e = .returned (.bool (corA c code ms)) ∧ Ext w w' := by
  have H := fun x hx => spec_l12Card (w := x) (ao := some ad) (cap := cap) (h.ext hx) hn
  have HM := fun x hx => spec_l13Marks (w := x) (cap := mcap) (h'.ext hx) hn'
  unfold corA
  cases hb : cardB c
  · rw [hb] at H
    clear hb
    unfold CardD.val at H ⊢
    go_enter Try.func55, Try.ntmps55
    go_wp2_with fail
    refine (H _ (by repeat (first | (with_reducible exact Ext.refl _) | (with_reducible assumption) | with_reducible refine Ext.drew ?_ | with_reducible refine Ext.alloc ?_ _ | with_reducible refine Ext.setCell ?_ (by first | (simp; done) | (simp; omega) | omega) _ | with_reducible refine Ext.trans ?_ (by with_reducible assumption)))).mono ?_; rintro e w1 ⟨rfl, hx1⟩
    go_wp2
    go_ret
    exact ⟨rfl, (by repeat (first | (with_reducible exact Ext.refl _) | (with_reducible assumption) | with_reducible refine Ext.drew ?_ | with_reducible refine Ext.alloc ?_ _ | with_reducible refine Ext.setCell ?_ (by first | (simp; done) | (simp; omega) | omega) _ | with_reducible refine Ext.trans ?_ (by with_reducible assumption)))⟩
  · rw [hb] at H
    clear hb
    cases hcd : inB code 31 99
    · unfold CardD.val at H ⊢
      go_enter Try.func55, Try.ntmps55
      go_wp2_with fail
      refine (H _ (by repeat (first | (with_reducible exact Ext.refl _) | (with_reducible assumption) | with_reducible refine Ext.drew ?_ | with_reducible refine Ext.alloc ?_ _ | with_reducible refine Ext.setCell ?_ (by first | (simp; done) | (simp; omega) | omega) _ | with_reducible refine Ext.trans ?_ (by with_reducible assumption)))).mono ?_; rintro e w1 ⟨rfl, hx1⟩
      go_wp2_with fail
      refine spec_l6Code.mono ?_; rintro e w2 ⟨rfl, rfl⟩
      rw [hcd]
      go_wp2
      go_ret
      exact ⟨rfl, (by repeat (first | (with_reducible exact Ext.refl _) | (with_reducible assumption) | with_reducible refine Ext.drew ?_ | with_reducible refine Ext.alloc ?_ _ | with_reducible refine Ext.setCell ?_ (by first | (simp; done) | (simp; omega) | omega) _ | with_reducible refine Ext.trans ?_ (by with_reducible assumption)))⟩
    · unfold CardD.val at H ⊢
      go_enter Try.func55, Try.ntmps55
      go_wp2_with fail
      refine (H _ (by repeat (first | (with_reducible exact Ext.refl _) | (with_reducible assumption) | with_reducible refine Ext.drew ?_ | with_reducible refine Ext.alloc ?_ _ | with_reducible refine Ext.setCell ?_ (by first | (simp; done) | (simp; omega) | omega) _ | with_reducible refine Ext.trans ?_ (by with_reducible assumption)))).mono ?_; rintro e w1 ⟨rfl, hx1⟩
      go_wp2_with fail
      refine spec_l6Code.mono ?_; rintro e w2 ⟨rfl, rfl⟩
      rw [hcd]
      go_wp2_with fail
      refine (HM _ (by repeat (first | (with_reducible exact Ext.refl _) | (with_reducible assumption) | with_reducible refine Ext.drew ?_ | with_reducible refine Ext.alloc ?_ _ | with_reducible refine Ext.setCell ?_ (by first | (simp; done) | (simp; omega) | omega) _ | with_reducible refine Ext.trans ?_ (by with_reducible assumption)))).mono ?_; rintro e w3 ⟨rfl, hx3⟩
      go_wp2
      go_ret
      exact ⟨by simp, (by repeat (first | (with_reducible exact Ext.refl _) | (with_reducible assumption) | with_reducible refine Ext.drew ?_ | with_reducible refine Ext.alloc ?_ _ | with_reducible refine Ext.setCell ?_ (by first | (simp; done) | (simp; omega) | omega) _ | with_reducible refine Ext.trans ?_ (by with_reducible assumption)))⟩

/-- the punches while they are being corrected -/
def corM (c : CardD) (code : Int) (ms : List Mark) (k j : Nat) : Pch := if j < k then corP ms code (nth c.ps j) else nth c.ps j
theorem row_put2 {w : World} {g off n k : Nat} {f f' : Nat → Pch} (h : RowAt w (some ⟨g, off, none⟩) 2 n (fun j => (f j).c)) (hk : k < n) (hne : ∀ j, j ≠ k → f' j = f j) :
    RowAt ((w.setCell ⟨g, off + k * 2, none⟩ (.int .i64 (f' k).code)).setCell ⟨g, off + k * 2 + 1, none⟩ (.int .i64 (f' k).time)) (some ⟨g, off, none⟩) 2 n (fun j => (f' j).c) := fun hn => by
  obtain ⟨b, o, e, H⟩ := h hn
  injection e with e
  injection e with e1 e2
  subst e1 e2
  refine ⟨g, off, rfl, fun q hq j hj => ?_⟩
  have a0 : w.cell? ⟨g, off + k * 2, none⟩ = some ((f k).c 0) := H k hk 0 (by decide)
  have a1 : w.cell? ⟨g, off + k * 2 + 1, none⟩ = some ((f k).c 1) := H k hk 1 (by decide)
  by_cases e : q = k
  · subst e
    match j, hj with
    | 0, _ =>
      show _ = some (Value.int .i64 (f' q).code)
      rw [Nat.add_zero, World.cell?_setCell_other _ _ _ _ (fun e => by injection e with _ e; omega)]
      exact World.cell?_setCell_same _ _ _ a0
    | 1, _ =>
      show _ = some (Value.int .i64 (f' q).time)
      refine World.cell?_setCell_same _ _ _ (u := (f q).c 1) ?_
      rw [World.cell?_setCell_other _ _ _ _ (fun e => by injection e with _ e; omega)]
      exact a1
  · have hq' := H q hq j hj
    show _ = some ((f' q).c j)
    rw [hne q e]
    rw [World.cell?_setCell_other _ _ _ _ (fun e' => by injection e' with _ e'; omega), World.cell?_setCell_other _ _ _ _ (fun e' => by injection e' with _ e'; omega)]
    exact hq'
theorem fresh_put2 {B0 : Nat} {w : World} {g off n k : Nat} {f f' : Nat → Pch} (h : FreshAt B0 w (some ⟨g, off, none⟩) 2 n (fun j => (f j).c)) (hk : k < n) (hne : ∀ j, j ≠ k → f' j = f j) :
    FreshAt B0 ((w.setCell ⟨g, off + k * 2, none⟩ (.int .i64 (f' k).code)).setCell ⟨g, off + k * 2 + 1, none⟩ (.int .i64 (f' k).time)) (some ⟨g, off, none⟩) 2 n (fun j => (f' j).c) where
  row := row_put2 h.row hk hne
  base := fun a e => by simpa [World.setCell] using h.base a e
  free := fun b off e j => by rw [World.frozen?_setCell, World.frozen?_setCell]; exact h.free b off e j
theorem corM_skip {c : CardD} {code : Int} {ms : List Mark} {k : Nat} (h : ¬ (nth c.ps k).code = code) : corM c code ms (k + 1) = corM c code ms k := by
  funext j
  unfold corM
  by_cases e : j = k
  · subst e; simp [corP, h]
  · by_cases hl : j < k
    · rw [if_pos (by omega), if_pos hl]
    · rw [if_neg (by omega), if_neg hl]
theorem corM_step {c : CardD} {code : Int} {ms : List Mark} {k j : Nat} (h : j ≠ k) : corM c code ms (k + 1) j = corM c code ms k j := by
  unfold corM
  by_cases hl : j < k
  · rw [if_pos (by omega), if_pos hl]
  · rw [if_neg (by omega), if_neg hl]
theorem corM_at {c : CardD} {code : Int} {ms : List Mark} {k : Nat} (h : (nth c.ps k).code = code) : corM c code ms (k + 1) k = ⟨code, trueT ms (nth c.ps k).time⟩ := by
  rw [corM, if_pos (by omega), corP, if_pos h, h]
theorem corM_now (c : CardD) (code : Int) (ms : List Mark) (k : Nat) : corM c code ms k k = nth c.ps k := by rw [corM, if_neg (by omega)]
theorem corM_zero (c : CardD) (code : Int) (ms : List Mark) (k : Nat) : corM c code ms 0 k = nth c.ps k := by rw [corM, if_neg (by omega)]
theorem corM_all {c : CardD} {code : Int} {ms : List Mark} {j : Nat} (hj : j < c.ps.length) : corM c code ms c.ps.length j = nth (corL c code ms c.ps.length) j := by
  rw [corL_nth c code ms hj, corM, if_pos hj]

set_option maxRecDepth 100000 in
set_option maxHeartbeats 4000000 in
theorem spec_l13Correct {c : CardD} {ad : Addr} {cap : Nat} {code : Int} {ms : List Mark} {mo : Option Addr} {mcap : Nat} {w : World} (h : RowAt w (some ad) 2 c.ps.length (fun k => (nth c.ps k).c)) (hc : cardB c = true) (_hcap : c.ps.length ≤ cap)
    (h' : RowAt w mo 2 ms.length (fun k => (nth ms k).c)) (hm : marksB ms = true) :
    Calls Try.prog 57 #[c.val (some ad) cap, .int .i64 code, .slice mo ms.length mcap] w fun e w' => ∃ go gc, e = .returned (.agg #[.int .i64 c.number, .int .i64 c.start, .int .i64 c.finish, .slice go (corL c code ms c.ps.length).length gc]) ∧ Ext w w' ∧ FreshAt w.heap.size w' go 2 (corL c code ms c.ps.length).length (fun k => (nth (corL c code ms c.ps.length) k).c) := by
  have hlen12 := card_len hc
  have HO := fun x hx => spec_l12Own (w := x) (cap := cap) (h.ext hx) (by omega)
  have htms := fun k hk => card_punch hc (q := k) hk
  have HTM := Lib.hid htms; clear htms
  rw [corL_len]
  unfold CardD.val at HO ⊢
  go_enter Try.func57, Try.ntmps57
  go_wp2_with fail
  refine (HO _ (by repeat (first | (with_reducible exact Ext.refl _) | (with_reducible assumption) | with_reducible refine Ext.drew ?_ | with_reducible refine Ext.alloc ?_ _ | with_reducible refine Ext.setCell ?_ (by first | (simp; done) | (simp; omega) | omega) _ | with_reducible refine Ext.trans ?_ (by with_reducible assumption)))).mono ?_; rintro e wb ⟨go, gc, rfl, hxa, hF⟩
  have hres : Res4 wb (w.heap.size + 1) := by
    have := Res4.of hxa
    rwa [World.size_alloc] at this
  have hx0 : Ext w wb := (by repeat (first | (with_reducible exact Ext.refl _) | (with_reducible assumption) | with_reducible refine Ext.drew ?_ | with_reducible refine Ext.alloc ?_ _ | with_reducible refine Ext.setCell ?_ (by first | (simp; done) | (simp; omega) | omega) _ | with_reducible refine Ext.trans ?_ (by with_reducible assumption)))
  have hbox0 := Box4.of (Ext.refl (wb.alloc (Obj.cells #[.int .i64 c.number, .int .i64 c.start, .int .i64 c.finish, .slice go c.ps.length gc] 41)))
  have hFb := fun a e => (hF.base a e).2
  have hF2 := hF.ext ((Ext.refl wb).alloc (Obj.cells #[.int .i64 c.number, .int .i64 c.start, .int .i64 c.finish, .slice go c.ps.length gc] 41))
  simp only [World.size_alloc] at hF2
  rw [show (fun k => (nth c.ps k).c) = (fun k => (corM c code ms 0 k).c) by funext k; rw [corM_zero]] at hF2
  have hres2 := hres.ext ((Ext.refl wb).alloc (Obj.cells #[.int .i64 c.number, .int .i64 c.start, .int .i64 c.finish, .slice go c.ps.length gc] 41))
  have hrl := hres.lt
  clear hF hxa HO hres h
  go_wp2
  go_loopw [8] (fun i wr => ∃ k : Nat, k ≤ c.ps.length ∧ i = .int .i64 k ∧ Ext w wr ∧ Res4 wr (w.heap.size + 1) ∧ Box4 wr wb.heap.size (.int .i64 c.number) (.int .i64 c.start) (.int .i64 c.finish) (.slice go c.ps.length gc) ∧ FreshAt (w.heap.size + 1 + 1) wr go 2 c.ps.length (fun j => (corM c code ms k j).c)) (fun i _ => c.ps.length - (intOf i).toNat)
  case atStart => exact ⟨0, by omega, rfl, (by repeat (first | (with_reducible exact Ext.refl _) | (with_reducible assumption) | with_reducible refine Ext.drew ?_ | with_reducible refine Ext.alloc ?_ _ | with_reducible refine Ext.setCell ?_ (by first | (simp; done) | (simp; omega) | omega) _ | with_reducible refine Ext.trans ?_ (by with_reducible assumption))), hres2, hbox0, hF2⟩
  case round =>
    clear hF2 hres2 hbox0
    obtain ⟨k, hk, rfl, hx, hres, hbx, hF⟩ := hrel
    have g3 := hbx.c3
    have gl := hbx.lt
    by_cases hlt : k < c.ps.length
    · have htm := HTM.out k hlt
      obtain ⟨b, off, rfl, hcell⟩ := hF.row (by omega)
      have d0 := hcell k hlt 0 (by decide)
      have d1 := hcell k hlt 1 (by decide)
      simp only [corM_now, Pch.c0, Pch.c1, Nat.add_zero] at d0 d1
      have hbb := hFb _ rfl
      have hb0 := (hF.base _ rfl).1
      simp only at hbb hb0
      have HT := fun x hx => spec_l13True (w := x) (cap := mcap) (h'.ext hx) hm htm
      clear hcell h'
      by_cases hcd : (nth c.ps k).code = code
      · have hcd' : ((nth c.ps k).code == code) = true := by simpa using hcd
        have hput := fun x (hX : Ext wr x) => fresh_put2 (f' := corM c code ms (k + 1)) (hF.ext hX) hlt (fun j hj => corM_step hj)
        rw [corM_at hcd] at hput
        have HP := Lib.hid hput; clear hput hcd
        have fz := hF.free b off rfl
        have f0 := fz (off + k * 2)
        have f1 := fz (off + k * 2 + 1)
        clear fz
        have hki0 : (0 : Int) ≤ (k : Int) := by omega
        have hki1 : (k : Int) < (c.ps.length : Int) := by omega
        have hbl : b < wr.heap.size := by omega
        obtain ⟨wp, hwp⟩ : ∃ wp, wp = wr.alloc (Obj.cells #[.int .i64 (nth c.ps k).code, .int .i64 (nth c.ps k).time] 69) := ⟨_, rfl⟩
        have hxp : Ext wr wp := by rw [hwp]; exact (Ext.refl _).alloc _
        have p1 : wp.cell? ⟨wr.heap.size, 1, none⟩ = some (.int .i64 (nth c.ps k).time) := by rw [hwp]; go_simp
        have G3 := hxp.cells g3
        have D0 := hxp.cells d0
        have D1 := hxp.cells d1
        have F0 := (hxp.frozenr b (off + k * 2) hbl).trans f0
        have F1 := (hxp.frozenr b (off + k * 2 + 1) hbl).trans f1
        have hna : (⟨b, off + k * 2, none⟩ : Addr) ≠ ⟨wb.heap.size, 3, none⟩ := fun e => by injection e with e; omega
        have hnb : (⟨b, off + k * 2 + 1, none⟩ : Addr) ≠ ⟨wb.heap.size, 3, none⟩ := fun e => by injection e with e; omega
        have hnc : (⟨b, off + k * 2, none⟩ : Addr) ≠ ⟨wr.heap.size, 1, none⟩ := fun e => by injection e with e; omega
        have hnd : (⟨b, off + k * 2 + 1, none⟩ : Addr) ≠ ⟨wr.heap.size, 1, none⟩ := fun e => by injection e with e; omega
        go_wp2
        rw [← hwp]
        clear hwp
        go_region_held3 (fun w' => w'.cell? ⟨wb.heap.size, 3, none⟩ = some (.slice (some ⟨b, off, none⟩) c.ps.length gc) ∧ w'.cell? ⟨wr.heap.size, 1, none⟩ = some (.int .i64 (nth c.ps k).time)) (first | exact ⟨G3, p1⟩ | exact ⟨S3, S1⟩ | exact ⟨(World.cell?_setCell_other _ _ _ _ hnb).trans ((World.cell?_setCell_other _ _ _ _ hna).trans S3), (World.cell?_setCell_other _ _ _ _ hnd).trans ((World.cell?_setCell_other _ _ _ _ hnc).trans S1)⟩ | go_keep)
          ((go_at_call 69; refine (HT _ (hx.trans hxp).drew).mono ?_; rintro e w2 ⟨rfl, hx2⟩; have hX2 : Ext wp w2 := Ext.trans (Ext.drew (Ext.refl wp)) hx2; have S3 := hX2.cells G3; have S1 := hX2.cells p1; have d0 := hX2.cells D0; have d1 := hX2.cells D1; have f0 := (hX2.frozenr b (off + k * 2) (Nat.lt_of_lt_of_le hbl hxp.size)).trans F0; have f1 := (hX2.frozenr b (off + k * 2 + 1) (Nat.lt_of_lt_of_le hbl hxp.size)).trans F1; have hbl2 : b < w2.heap.size := World.block_lt_of_cell? _ _ d0))
        all_goals
          go_wp2
          have hX := hxp.trans hX2
          have hFn := HP.out _ hX
          go_roundw
          case rel => exact ⟨k + 1, by omega, by go_num, (by repeat (first | (with_reducible exact Ext.refl _) | (with_reducible assumption) | with_reducible refine Ext.drew ?_ | with_reducible refine Ext.alloc ?_ _ | with_reducible refine Ext.setCell ?_ (by first | (simp; done) | (simp; omega) | omega) _ | with_reducible refine Ext.trans ?_ (by with_reducible assumption))), ((hres.ext hX).put (by simp only; omega) _).put (by simp only; omega) _, ((hbx.ext hX).put (by simp only; omega) _).put (by simp only; omega) _, hFn⟩
          case measure => simp [intOf]; omega
      · have hcd' : ((nth c.ps k).code == code) = false := by simpa using hcd
        have hsk := corM_skip (ms := ms) hcd
        have HS := Lib.hid hsk; clear hsk hcd
        go_wp2
        go_roundw
        case rel => exact ⟨k + 1, by omega, by go_num, (by repeat (first | (with_reducible exact Ext.refl _) | (with_reducible assumption) | with_reducible refine Ext.drew ?_ | with_reducible refine Ext.alloc ?_ _ | with_reducible refine Ext.setCell ?_ (by first | (simp; done) | (simp; omega) | omega) _ | with_reducible refine Ext.trans ?_ (by with_reducible assumption))), hres.ext (by repeat (first | (with_reducible exact Ext.refl _) | (with_reducible assumption) | with_reducible refine Ext.drew ?_ | with_reducible refine Ext.alloc ?_ _ | with_reducible refine Ext.setCell ?_ (by first | (simp; done) | (simp; omega) | omega) _ | with_reducible refine Ext.trans ?_ (by with_reducible assumption))), hbx.ext (by repeat (first | (with_reducible exact Ext.refl _) | (with_reducible assumption) | with_reducible refine Ext.drew ?_ | with_reducible refine Ext.alloc ?_ _ | with_reducible refine Ext.setCell ?_ (by first | (simp; done) | (simp; omega) | omega) _ | with_reducible refine Ext.trans ?_ (by with_reducible assumption))), by rw [HS.out]; exact hF.ext (by repeat (first | (with_reducible exact Ext.refl _) | (with_reducible assumption) | with_reducible refine Ext.drew ?_ | with_reducible refine Ext.alloc ?_ _ | with_reducible refine Ext.setCell ?_ (by first | (simp; done) | (simp; omega) | omega) _ | with_reducible refine Ext.trans ?_ (by with_reducible assumption)))⟩
        case measure => simp [intOf]; omega
    · have hkn : k = c.ps.length := by omega
      obtain ⟨b0, b1, b2, b3⟩ := hbx
      obtain ⟨r0, r1, r2, r3, rz⟩ := hres
      have f0 := rz 0
      have f1 := rz 1
      have f2 := rz 2
      have f3 := rz 3
      have rl : w.heap.size + 1 < wr.heap.size := World.block_lt_of_cell? _ _ r0
      have HK := Lib.hid hkn; clear hkn rz
      go_wp2
      refine bodyPost_ret (v := .agg #[.int .i64 c.number, .int .i64 c.start, .int .i64 c.finish, .slice go c.ps.length gc]) ?_ rfl ?_
      · simp [results, Try.results57, go_sem, cell_put, r0, r1, r2, r3]
      · have hE : Ext w ((((wr.setCell ⟨w.heap.size + 1, 0, none⟩ (.int .i64 c.number)).setCell ⟨w.heap.size + 1, 1, none⟩ (.int .i64 c.start)).setCell ⟨w.heap.size + 1, 2, none⟩ (.int .i64 c.finish)).setCell ⟨w.heap.size + 1, 3, none⟩ (.slice go c.ps.length gc)) := Ext.setCell (Ext.setCell (Ext.setCell (Ext.setCell hx (by simp) _) (by simp) _) (by simp) _) (by simp) _
        have hF' := (((hF.setCell (p := ⟨w.heap.size + 1, 0, none⟩) (by simp) (.int .i64 c.number)).setCell (p := ⟨w.heap.size + 1, 1, none⟩) (by simp) (.int .i64 c.start)).setCell (p := ⟨w.heap.size + 1, 2, none⟩) (by simp) (.int .i64 c.finish)).setCell (p := ⟨w.heap.size + 1, 3, none⟩) (by simp) (.slice go c.ps.length gc)
        have hF3 := (hF'.mono (B1 := w.heap.size) (by omega))
        have hF4 := hF3.congr (c' := fun k => (nth (corL c code ms c.ps.length) k).c) (fun q hq j hj => by rw [HK.out]; exact congrFun (congrArg Pch.c (corM_all hq)) j)
        first
          | exact ⟨go, gc, rfl, hE, hF4⟩
          | exact ⟨go, ⟨gc, rfl⟩, hE, hF4⟩

end Go.Proofs.Ytfbmablfolknpaa
