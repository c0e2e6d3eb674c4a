/-
  Proved here: what SplitTimes and its reference return.
  Conditions: the lengths fit.
-/
import Derived.Test.YtbpcejdpgckkoaaCards6
import Derived.Test.YtbpcejdpgckkoaaSearch
import Derived.Deep.RegionHeld3
import Derived.Deep.DrawnRows
namespace Go.Proofs.Ytbpcejdpgckkoaa
open Go.RowKit

/-- the split times of the first -/
def spU (c : CardD) (cs : List Int) : Nat → List Int
  | 0 => []
  | k + 1 => spU c cs k ++ [(nth c.ps (fI c cs k).toNat).time - c.start]
def spB (c : CardD) (cs : List Int) : Bool := askB c cs && !hasI (fL c cs cs.length) cs.length (-1)
def spL (c : CardD) (cs : List Int) : List Int := if spB c cs then spU c cs cs.length else []
theorem spU_len (c : CardD) (cs : List Int) (i : Nat) : (spU c cs i).length = i := by
  induction i with
  | zero => rfl
  | succ i ih => rw [spU]; simp [ih]
theorem spL_len (c : CardD) (cs : List Int) : (spL c cs).length ≤ 12 := by
  unfold spL
  split
  · rename_i h; simp only [spB, Bool.and_eq_true] at h; have := spU_len c cs cs.length; have := (ask_bd h.1).2; omega
  · simp
theorem fI_cases (c : CardD) (cs : List Int) (k : Nat) : fI c cs k = -1 ∨ ∃ q : Nat, q < c.ps.length ∧ fI c cs k = q := by
  unfold fI
  cases h : atU c (nth cs k) (fN c cs k) with
  | none => exact .inl rfl
  | some q => exact .inr ⟨q, (atU_lt h).2, rfl⟩
theorem hasI_out {xs : List Int} {n k : Nat} {v : Int} (h : hasI xs n v = false) (hk : k < n) : nth xs k ≠ v := fun e => by
  have := hasI_yes hk e
  rw [h] at this; cases this
/-- no code is missing: each is found at a punch -/
theorem fI_found {c : CardD} {cs : List Int} (h : hasI (fL c cs cs.length) cs.length (-1) = false) {k : Nat} (hk : k < cs.length) : ∃ q : Nat, q < c.ps.length ∧ fI c cs k = q := by
  have h1 := hasI_out h hk
  rw [fL_nth c cs hk] at h1
  rcases fI_cases c cs k with e | e
  · exact absurd e h1
  · exact e
theorem miU_none {c : CardD} {cs : List Int} {n : Nat} (h : ∀ k, k < n → 0 ≤ fI c cs k) : miU c cs n = [] := by
  induction n with
  | zero => rfl
  | succ n ih =>
    rw [miU, if_neg (by have := h n (by omega); omega)]
    exact ih (fun k hk => h k (by omega))
theorem miU_some {c : CardD} {cs : List Int} {n k : Nat} (hk : k < n) (h : fI c cs k < 0) : 0 < (miU c cs n).length := by
  induction n with
  | zero => omega
  | succ n ih =>
    rw [miU]
    by_cases e : k = n
    · subst e; rw [if_pos h]; simp
    · have := ih (by omega)
      split
      · simp
      · exact this
theorem mi_has {c : CardD} {cs : List Int} : (hasI (fL c cs cs.length) cs.length (-1) = false → (miU c cs cs.length).length = 0) ∧ (hasI (fL c cs cs.length) cs.length (-1) = true → 0 < (miU c cs cs.length).length) := by
  constructor
  · intro h
    rw [miU_none fun k hk => by obtain ⟨q, _, e⟩ := fI_found h hk; omega]; rfl
  · intro h
    refine Classical.byContradiction fun hn => ?_
    have : hasI (fL c cs cs.length) cs.length (-1) = false := hasI_no fun k hk e => by
      rw [fL_nth c cs hk] at e
      exact hn (miU_some hk (by omega))
    rw [h] at this; cases this
theorem card_punch {c : CardD} (h : cardB c = true) {q : Nat} (hq : q < c.ps.length) : 0 ≤ (nth c.ps q).time ∧ (nth c.ps q).time ≤ 36000 := by
  simp only [cardB, Bool.and_eq_true] at h
  have := upto_true.1 h.2 q hq
  simp only [okPunch, Bool.and_eq_true, inB_iff] at this
  exact this.1.1.2
theorem card_start {c : CardD} (h : cardB c = true) : 0 ≤ c.start ∧ c.start ≤ 36000 := by
  simp only [cardB, headB, Bool.and_eq_true, inB_iff] at h
  exact h.1.1.1.2

attribute [local go_sem ↓] Go.wp_at_zero Go.wp_at_succ

set_option maxRecDepth 100000 in
set_option maxHeartbeats 2000000 in
theorem impl_SplitTimes {c : CardD} {b0 off0 cap : Nat} {cs : List Int} {bo : Option Addr} {bcap : Nat} {w : World} (h : RowAt w (some ⟨b0, off0, none⟩) 2 c.ps.length (fun k => (nth c.ps k).c)) (hn : c.ps.length ≤ cap ∧ cap ≤ 9223372036854775807)
    (h' : RowAt w bo 1 cs.length (ic cs)) (hcs : cs.length ≤ 1048576) :
    Calls Try.prog 28 #[c.val (some ⟨b0, off0, none⟩) cap, .slice bo cs.length bcap] w fun e w' => ∃ go gc, e = .returned (.tuple #[.slice go (spL c cs).length gc, .bool (spB c cs)]) ∧ Ext w w' ∧ FreshAt w.heap.size w' go 1 (spL c cs).length (ic (spL c cs)) := by
  obtain ⟨i0, hi, hz0, hz1, hz2⟩ := info_parts infoInt
  have hx0 : Ext w (w.alloc (Obj.cells #[.int .i64 c.number, .int .i64 c.start, .int .i64 c.finish, .slice (some ⟨b0, off0, none⟩) c.ps.length cap] 31)) := (Ext.refl _).alloc _
  have H := fun x hx => impl_FoundAt (w := x) (cap := cap) (bo := bo) (bcap := bcap) (cs := cs) (h.ext hx) hn (h'.ext hx) hcs
  by_cases hB : askB c cs = true
  · have hbd := ask_bd hB
    rw [hB] at H
    have hcB : cardB c = true := by simp only [askB, Bool.and_eq_true] at hB; exact hB.1
    have hst := card_start hcB
    rw [show foL c cs = fL c cs cs.length by simp [foL, hB]] at H
    simp only [fL_len] at H
    cases hm : hasI (fL c cs cs.length) cs.length (-1)
    · have hsB : spB c cs = true := by simp [spB, hB, hm]
      have hL : spL c cs = spU c cs cs.length := by simp [spL, hsB]
      rw [hL, hsB]
      have hfd := fun k hk => fI_found hm (k := k) hk
      have HC := fun x ao cp hx => slices_Contains (w := x) (cap := cp) (v := -1) (xs := fL c cs cs.length) (n := cs.length) (ao := ao) hx (by omega)
      rw [hm] at HC
      clear hL hsB hB hm
      have HFD := Lib.hid hfd; clear hfd
      unfold CardD.val at H ⊢
      go_enter Try.func28, Try.ntmps28
      go_wp2_with fail
      refine (H _ (by repeat (first | (with_reducible exact Ext.refl _) | (with_reducible assumption) | with_reducible refine Ext.drew ?_ | with_reducible refine Ext.alloc ?_ _ | with_reducible refine Ext.setCell ?_ (by first | (simp; done) | (simp; omega) | omega) _ | with_reducible refine Ext.trans ?_ (by with_reducible assumption)))).mono ?_; rintro e w1 ⟨go, gc, rfl, hx1, hF⟩
      obtain ⟨q0, q1, q2, q3⟩ := Box4.of hx1
      have hx01 := hx0.trans hx1
      have hrF := hF.row
      clear hF hx1
      go_wp2_with fail
      refine (HC _ _ _ hrF).mono ?_; rintro e w2 ⟨rfl, hx2⟩
      obtain ⟨q0, q1, q2, q3⟩ := Box4.ext ⟨q0, q1, q2, q3⟩ hx2
      have hrF := hrF.ext hx2
      have hx02 := hx01.trans hx2
      have hwl : w.heap.size < w2.heap.size := World.block_lt_of_cell? _ _ q0
      have hown0 := Owns.start (α := Int) (e := 3) (s := 1) (cc := icc) (Ext.refl w2)
      have hrow := h.ext hx02
      clear hx01 hx2 H HC h h' hx0
      go_wp2
      obtain ⟨wb, hwb⟩ : ∃ wb, wb = w2 := ⟨_, rfl⟩
      rw [← hwb]
      rw [← hwb] at hx02 hrF hown0 hwl q0 q1 q2 q3 hrow
      clear hwb
      go_loopw [8, 26] (fun out i wr => ∃ k : Nat, k ≤ cs.length ∧ i = .int .i64 k ∧ Ext wb wr ∧ Owns wr wb.heap.size 3 1 icc out (spU c cs k)) (fun _ i _ => cs.length - (intOf i).toNat)
      case atStart => exact ⟨0, by omega, rfl, (by repeat (first | (with_reducible exact Ext.refl _) | (with_reducible assumption) | with_reducible refine Ext.drew ?_ | with_reducible refine Ext.alloc ?_ _ | with_reducible refine Ext.setCell ?_ (by first | (simp; done) | (simp; omega) | omega) _ | with_reducible refine Ext.trans ?_ (by with_reducible assumption))), hown0⟩
      case round =>
        clear hown0
        obtain ⟨k, hk, rfl, hx, hown⟩ := hrel
        have hlen := spU_len c cs k
        by_cases hlt : k < cs.length
        · obtain ⟨q, hq, hfq⟩ := HFD.out k hlt
          obtain ⟨b1, off1, rfl, hc1⟩ := intsN (hrF.ext hx) (by omega)
          have d1 := hc1 k hlt
          rw [fL_nth c cs hlt, hfq] at d1
          have HLEN := Lib.hid hlen
          have hlen' : (spU c cs k).length ≤ 12 := by omega
          clear hlen
          have hnx : spU c cs (k + 1) = spU c cs k ++ [(nth c.ps q).time - c.start] := by rw [spU, hfq]; rfl
          clear hfq hc1
          have HN := Lib.hid hnx; clear hnx
          have htm := card_punch hcB hq
          obtain ⟨b2, off2, hb2, hpc⟩ := hrow (by omega)
          injection hb2 with hb2
          injection hb2 with e1 e2
          subst e1 e2
          have pw1 : wb.cell? ⟨b0, off0 + q * 2 + 1, none⟩ = some (.int .i64 (nth c.ps q).time) := hpc q hq 1 (by decide)
          have p1 : wr.cell? ⟨b0, off0 + q * 2 + 1, none⟩ = some (.int .i64 (nth c.ps q).time) := hx.cells (hpc q hq 1 (by decide))
          have g1 := hx.cells q1
          have g3 := hx.cells q3
          have gl := World.block_lt_of_cell? _ _ g1
          have hqi : (q : Int) < (c.ps.length : Int) := by omega
          have hq0 : (0 : Int) ≤ (q : Int) := by omega
          have hwr1 : IntKind.i64.wrap ((nth c.ps q).time - c.start) = (nth c.ps q).time - c.start := IntWalk.i64_in _ (by omega)
          clear hpc
          have hrow2 := fun x => row_lit (w := x) (cs := #[.int .i64 ((nth c.ps q).time - c.start)]) (T := 3) (s := 1) (cc := icc) (x := (nth c.ps q).time - c.start) (by intro j hj; obtain rfl : j = 0 := (by omega); rfl)
          go_wp2_with fail
          go_region_held3 (fun w' => w'.cell? ⟨w.heap.size, 3, none⟩ = some (.slice (some ⟨b0, off0, none⟩) c.ps.length cap) ∧ w'.cell? ⟨w.heap.size, 1, none⟩ = some (.int .i64 c.start) ∧ w'.cell? ⟨b0, off0 + q * 2 + 1, none⟩ = some (.int .i64 (nth c.ps q).time)) (first | go_keep | exact ⟨hx3.cells q3, hx3.cells q1, hx3.cells pw1⟩)
            ((refine step_append_rows (o := ⟨some 41, _, _, _, _, _⟩) (by rfl) _ _ 25 (by rfl) wb 3 i0 _ 1 8 Try.underlying25 hi hz0 hz1 hz2 rfl (by decide) icc icc_one _ (spU c cs k) [(nth c.ps q).time - c.start] (by rfl) ((hown.kept ((Ext.refl _).alloc _)).kept (Ext.refl _).drew) (some ⟨wr.heap.size, 0, none⟩) 1 1 (by rfl) (by rfl) (fun h => by cases h) ((hrow2 wr).ext (Ext.refl _).drew) (by simp; omega) (by simp; omega) (hx.alloc _).drew ?_; intro v1 w3 ho1 hx3 hg3))
          rw [← HN.out] at ho1
          go_wp2
          go_roundw
          case rel => exact ⟨k + 1, by omega, by go_num, (by repeat (first | (with_reducible exact Ext.refl _) | (with_reducible assumption) | with_reducible refine Ext.drew ?_ | with_reducible refine Ext.alloc ?_ _ | with_reducible refine Ext.setCell ?_ (by first | (simp; done) | (simp; omega) | omega) _ | with_reducible refine Ext.trans ?_ (by with_reducible assumption))), ho1⟩
          case measure => simp [intOf]; omega
        · have hkn : k = cs.length := by omega
          subst hkn
          obtain ⟨go', gc', rfl, hFo, _, _, _⟩ := hown.fresh
          go_wp2
          go_ret2
          exact ⟨go', gc', rfl, hx02.trans hx, hFo.mono hx02.size⟩
    · have hsB : spB c cs = false := by simp [spB, hm]
      have hL : spL c cs = [] := by simp [spL, hsB]
      rw [hL, hsB]
      have HC := fun x ao cp hx => slices_Contains (w := x) (cap := cp) (v := -1) (xs := fL c cs cs.length) (n := cs.length) (ao := ao) hx (by omega)
      rw [hm] at HC
      clear hL hsB hB hm
      unfold CardD.val at H ⊢
      go_enter Try.func28, Try.ntmps28
      go_wp2_with fail
      refine (H _ (by repeat (first | (with_reducible exact Ext.refl _) | (with_reducible assumption) | with_reducible refine Ext.drew ?_ | with_reducible refine Ext.alloc ?_ _ | with_reducible refine Ext.setCell ?_ (by first | (simp; done) | (simp; omega) | omega) _ | with_reducible refine Ext.trans ?_ (by with_reducible assumption)))).mono ?_; rintro e w1 ⟨go, gc, rfl, hx1, hF⟩
      go_wp2_with fail
      refine (HC _ _ _ hF.row).mono ?_; rintro e w2 ⟨rfl, hx2⟩
      go_wp2
      go_ret2
      exact ⟨none, 0, rfl, (by repeat (first | (with_reducible exact Ext.refl _) | (with_reducible assumption) | with_reducible refine Ext.drew ?_ | with_reducible refine Ext.alloc ?_ _ | with_reducible refine Ext.setCell ?_ (by first | (simp; done) | (simp; omega) | omega) _ | with_reducible refine Ext.trans ?_ (by with_reducible assumption))), ⟨fun hn => by simp at hn, fun a e => (by cases e), fun b off e => (by cases e)⟩⟩
  · have hB' : askB c cs = false := by simpa using hB
    have hsB : spB c cs = false := by simp [spB, hB']
    have hL : spL c cs = [] := by simp [spL, hsB]
    rw [hL, hsB]
    rw [hB', show foL c cs = [] by simp [foL, hB']] at H
    clear hL hsB hB hB'
    unfold CardD.val at H ⊢
    go_enter Try.func28, Try.ntmps28
    go_wp2_with fail
    refine (H _ (by repeat (first | (with_reducible exact Ext.refl _) | (with_reducible assumption) | with_reducible refine Ext.drew ?_ | with_reducible refine Ext.alloc ?_ _ | with_reducible refine Ext.setCell ?_ (by first | (simp; done) | (simp; omega) | omega) _ | with_reducible refine Ext.trans ?_ (by with_reducible assumption)))).mono ?_; rintro e w1 ⟨go, gc, rfl, hx1, hF⟩
    go_wp2
    go_ret2
    exact ⟨none, 0, rfl, (by repeat (first | (with_reducible exact Ext.refl _) | (with_reducible assumption) | with_reducible refine Ext.drew ?_ | with_reducible refine Ext.alloc ?_ _ | with_reducible refine Ext.setCell ?_ (by first | (simp; done) | (simp; omega) | omega) _ | with_reducible refine Ext.trans ?_ (by with_reducible assumption))), ⟨fun hn => by simp at hn, fun a e => (by cases e), fun b off e => (by cases e)⟩⟩

set_option maxRecDepth 100000 in
set_option maxHeartbeats 2000000 in
theorem spec_SplitTimes {c : CardD} {b0 off0 cap : Nat} {cs : List Int} {bo : Option Addr} {bcap : Nat} {w : World} (h : RowAt w (some ⟨b0, off0, none⟩) 2 c.ps.length (fun k => (nth c.ps k).c)) (hn : c.ps.length ≤ cap ∧ cap ≤ 9223372036854775807)
    (h' : RowAt w bo 1 cs.length (ic cs)) (hcs : cs.length ≤ 1048576) :
    Calls Try.prog 27 #[c.val (some ⟨b0, off0, none⟩) cap, .slice bo cs.length bcap] w fun e w' => ∃ go gc, e = .returned (.tuple #[.slice go (spL c cs).length gc, .bool (spB c cs)]) ∧ Ext w w' ∧ FreshAt w.heap.size w' go 1 (spL c cs).length (ic (spL c cs)) := by
  obtain ⟨i0, hi, hz0, hz1, hz2⟩ := info_parts infoInt
  have hx0 : Ext w (w.alloc (Obj.cells #[.int .i64 c.number, .int .i64 c.start, .int .i64 c.finish, .slice (some ⟨b0, off0, none⟩) c.ps.length cap] 31)) := (Ext.refl _).alloc _
  have H := fun x hx => spec_l12Asked (w := x) (ao := some ⟨b0, off0, none⟩) (cap := cap) (bo := bo) (bcap := bcap) (cs := cs) (h.ext hx) (by omega) (h'.ext hx) hcs
  by_cases hB : askB c cs = true
  · have hbd := ask_bd hB
    rw [hB] at H
    have hcB : cardB c = true := by simp only [askB, Bool.and_eq_true] at hB; exact hB.1
    have hst := card_start hcB
    have HM := fun x hx => spec_l12Missing (w := x) (cap := cap) (bo := bo) (bcap := bcap) (cs := cs) (h.ext hx) hbd.1 hn (h'.ext hx) hbd.2
    have HF := fun x hx => spec_l12Found (w := x) (cap := cap) (bo := bo) (bcap := bcap) (cs := cs) (h.ext hx) hbd.1 hn (h'.ext hx) hbd.2
    simp only [fL_len] at HF
    cases hm : hasI (fL c cs cs.length) cs.length (-1)
    · have hsB : spB c cs = true := by simp [spB, hB, hm]
      have hL : spL c cs = spU c cs cs.length := by simp [spL, hsB]
      rw [hL, hsB]
      have hfd := fun k hk => fI_found hm (k := k) hk
      have hmz := (mi_has (c := c) (cs := cs)).1 hm
      rw [hmz] at HM
      clear hL hsB hB hm hmz
      have HFD := Lib.hid hfd; clear hfd
      unfold CardD.val at H HM HF ⊢
      go_enter Try.func27, Try.ntmps27
      go_wp2_with fail
      refine (H _ (by repeat (first | (with_reducible exact Ext.refl _) | (with_reducible assumption) | with_reducible refine Ext.drew ?_ | with_reducible refine Ext.alloc ?_ _ | with_reducible refine Ext.setCell ?_ (by first | (simp; done) | (simp; omega) | omega) _ | with_reducible refine Ext.trans ?_ (by with_reducible assumption)))).mono ?_; rintro e w0 ⟨rfl, hxa⟩
      have hc := hxa.cellr
      go_wp2_with fail
      refine (HM _ (by repeat (first | (with_reducible exact Ext.refl _) | (with_reducible assumption) | with_reducible refine Ext.drew ?_ | with_reducible refine Ext.alloc ?_ _ | with_reducible refine Ext.setCell ?_ (by first | (simp; done) | (simp; omega) | omega) _ | with_reducible refine Ext.trans ?_ (by with_reducible assumption)))).mono ?_; rintro e wm ⟨mo, mc, rfl, hxm, _⟩
      have hxam := hxa.trans hxm
      clear hc; have hc := hxam.cellr
      go_wp2_with fail
      refine (HF _ (by repeat (first | (with_reducible exact Ext.refl _) | (with_reducible assumption) | with_reducible refine Ext.drew ?_ | with_reducible refine Ext.alloc ?_ _ | with_reducible refine Ext.setCell ?_ (by first | (simp; done) | (simp; omega) | omega) _ | with_reducible refine Ext.trans ?_ (by with_reducible assumption)))).mono ?_; rintro e w1 ⟨go, gc, rfl, hxc, hF⟩
      clear hc
      have hx1 := hxam.trans hxc
      have hxb : Ext (w.alloc (Obj.cells #[.int .i64 c.number, .int .i64 c.start, .int .i64 c.finish, .slice (some ⟨b0, off0, none⟩) c.ps.length cap] 31)) w1 := (by repeat (first | (with_reducible exact Ext.refl _) | (with_reducible assumption) | with_reducible refine Ext.drew ?_ | with_reducible refine Ext.alloc ?_ _ | with_reducible refine Ext.setCell ?_ (by first | (simp; done) | (simp; omega) | omega) _ | with_reducible refine Ext.trans ?_ (by with_reducible assumption)))
      have hown0 := Owns.early (α := Int) (s := 1) (cc := icc) (Ext.refl (w.alloc (Obj.cells #[.int .i64 c.number, .int .i64 c.start, .int .i64 c.finish, .slice (some ⟨b0, off0, none⟩) c.ps.length cap] 31))) hx1
      have hwa := hxam.size
      rw [World.size_alloc, World.size_alloc] at hwa
      have hF' := hF.mono hwa
      have hap0 := Apart.new hF' (v := .slice (some ⟨w.heap.size + 1, 0, none⟩) 0 0) (by simpa using early_block)
      have hrF := hF.row
      have hlt0 := hx0.size
      rw [World.size_alloc] at hown0
      have hwl2 : (w.alloc (Obj.cells #[.int .i64 c.number, .int .i64 c.start, .int .i64 c.finish, .slice (some ⟨b0, off0, none⟩) c.ps.length cap] 31)).heap.size = w.heap.size + 1 := by simp
      have f1b : (w.alloc (Obj.cells #[.int .i64 c.number, .int .i64 c.start, .int .i64 c.finish, .slice (some ⟨b0, off0, none⟩) c.ps.length cap] 31)).cell? ⟨w.heap.size, 1, none⟩ = some (.int .i64 c.start) := by go_simp
      have f3b : (w.alloc (Obj.cells #[.int .i64 c.number, .int .i64 c.start, .int .i64 c.finish, .slice (some ⟨b0, off0, none⟩) c.ps.length cap] 31)).cell? ⟨w.heap.size, 3, none⟩ = some (.slice (some ⟨b0, off0, none⟩) c.ps.length cap) := by go_simp
      obtain ⟨wb, hwb⟩ : ∃ wb, wb = (w.alloc (Obj.cells #[.int .i64 c.number, .int .i64 c.start, .int .i64 c.finish, .slice (some ⟨b0, off0, none⟩) c.ps.length cap] 31)) := ⟨_, rfl⟩
      rw [← hwb] at hx0 hxb hwl2 hlt0 f3b f1b
      rw [← hwl2] at hown0 hap0
      have hrow := h.ext hx0
      clear hF hF' HF HM H hx1 hwb h hxa hxc hxam hxm hwa
      have hwb2 : w.heap.size < wb.heap.size := by omega
      go_wp2
      rw [← hwl2]
      clear hwl2
      go_loopw [6, 8] (fun out i wr => ∃ k : Nat, k ≤ cs.length ∧ i = .int .i64 k ∧ Ext wb wr ∧ Owns wr wb.heap.size 3 1 icc out (spU c cs k) ∧ RowAt wr go 1 cs.length (ic (fL c cs cs.length)) ∧ Apart wr go out) (fun _ i _ => cs.length - (intOf i).toNat)
      case atStart => exact ⟨0, by omega, rfl, hxb, hown0, hrF, hap0⟩
      case round =>
        clear hown0 hap0 hrF hxb
        obtain ⟨k, hk, rfl, hx, hown, hrF, hap⟩ := hrel
        have hlen := spU_len c cs k
        by_cases hlt : k < cs.length
        · obtain ⟨q, hq, hfq⟩ := HFD.out k hlt
          obtain ⟨b1, off1, rfl, hc1⟩ := intsN hrF (by omega)
          have d1 := hc1 k hlt
          rw [fL_nth c cs hlt, hfq] at d1
          have hlen' : (spU c cs k).length ≤ 12 := by omega
          clear hlen
          have hnx : spU c cs (k + 1) = spU c cs k ++ [(nth c.ps q).time - c.start] := by rw [spU, hfq]; rfl
          clear hfq hc1
          have HN := Lib.hid hnx; clear hnx
          have htm := card_punch hcB hq
          obtain ⟨b2, off2, hb2, hpc⟩ := hrow (by omega)
          injection hb2 with hb2
          injection hb2 with e1 e2
          subst e1 e2
          have pw1 : wb.cell? ⟨b0, off0 + q * 2 + 1, none⟩ = some (.int .i64 (nth c.ps q).time) := hpc q hq 1 (by decide)
          have p1 : wr.cell? ⟨b0, off0 + q * 2 + 1, none⟩ = some (.int .i64 (nth c.ps q).time) := hx.cells (hpc q hq 1 (by decide))
          have g1 := hx.cells f1b
          have g3 := hx.cells f3b
          have gl := World.block_lt_of_cell? _ _ g1
          have hqi : (q : Int) < (c.ps.length : Int) := by omega
          have hq0 : (0 : Int) ≤ (q : Int) := by omega
          have hki : (k : Int) < (cs.length : Int) := by omega
          have hk0 : (0 : Int) ≤ (k : Int) := by omega
          have hwr1 : IntKind.i64.wrap ((nth c.ps q).time - c.start) = (nth c.ps q).time - c.start := IntWalk.i64_in _ (by omega)
          clear hpc
          have hrow2 := fun x => row_lit (w := x) (cs := #[.int .i64 ((nth c.ps q).time - c.start)]) (T := 3) (s := 1) (cc := icc) (x := (nth c.ps q).time - c.start) (by intro j hj; obtain rfl : j = 0 := (by omega); rfl)
          have hap2 := fun o => (hap.ext ((Ext.refl wr).alloc o)).ext (Ext.refl _).drew
          have hrF2 := fun o => (hrF.ext ((Ext.refl wr).alloc o)).ext (Ext.refl _).drew
          have hbl1 := World.block_lt_of_cell? _ _ d1
          have hl3 : b1 < ((wr.alloc (Obj.cells #[.int .i64 ((nth c.ps q).time - c.start)] 3)).drew).heap.size := Nat.lt_of_lt_of_le (show b1 < wr.heap.size from hbl1) (by simp)
          have d1x : ((wr.alloc (Obj.cells #[.int .i64 ((nth c.ps q).time - c.start)] 3)).drew).cell? ⟨b1, off1 + k, none⟩ = some (.int .i64 (q : Int)) := ((Ext.refl wr).alloc _).drew.cells d1
          have hn3 := (hap _ rfl).2
          go_wp2_with fail
          go_region_held3 (fun w' => w'.cell? ⟨w.heap.size, 3, none⟩ = some (.slice (some ⟨b0, off0, none⟩) c.ps.length cap) ∧ w'.cell? ⟨w.heap.size, 1, none⟩ = some (.int .i64 c.start) ∧ w'.cell? ⟨b0, off0 + q * 2 + 1, none⟩ = some (.int .i64 (nth c.ps q).time) ∧ w'.cell? ⟨b1, off1 + k, none⟩ = some (.int .i64 (q : Int))) (first | go_keep | exact ⟨hx3.cells f3b, hx3.cells f1b, hx3.cells pw1, (grown_cell hg3 hl3 hn3).trans d1x⟩)
            ((refine step_append_apart (o := ⟨some 45, _, _, _, _, _⟩) (by rfl) _ _ 25 (by rfl) wb 3 i0 _ 1 8 Try.underlying25 hi hz0 hz1 hz2 rfl (by decide) icc icc_one _ (spU c cs k) [(nth c.ps q).time - c.start] (by rfl) ((hown.kept ((Ext.refl _).alloc _)).kept (Ext.refl _).drew) ⟨wr.heap.size, 0, none⟩ 1 1 (by rfl) (by rfl) ((hrow2 wr).ext (Ext.refl _).drew) (by simp; omega) (by simp; omega) (hx.alloc _).drew ?_; intro v1 w3 ho1 hx3 hg3 hv3))
          rw [← HN.out] at ho1
          have hap3 := (hap2 _).append hg3 hv3
          have hrF3 := (hap2 _).row (by decide) (hrF2 _) hg3
          clear hg3 hv3
          go_wp2
          go_roundw
          case rel => exact ⟨k + 1, by omega, by go_num, (by repeat (first | (with_reducible exact Ext.refl _) | (with_reducible assumption) | with_reducible refine Ext.drew ?_ | with_reducible refine Ext.alloc ?_ _ | with_reducible refine Ext.setCell ?_ (by first | (simp; done) | (simp; omega) | omega) _ | with_reducible refine Ext.trans ?_ (by with_reducible assumption))), ho1, hrF3, hap3⟩
          case measure => simp [intOf]; omega
        · have hkn : k = cs.length := by omega
          subst hkn
          obtain ⟨go', gc', rfl, hFo, _, _, _⟩ := hown.fresh
          go_wp2
          go_ret2
          exact ⟨go', gc', rfl, hx0.trans hx, hFo.mono hlt0⟩
    · have hsB : spB c cs = false := by simp [spB, hm]
      have hL : spL c cs = [] := by simp [spL, hsB]
      rw [hL, hsB]
      have hmz := (mi_has (c := c) (cs := cs)).2 hm
      clear hL hsB hB hm
      unfold CardD.val at H HM ⊢
      go_enter Try.func27, Try.ntmps27
      go_wp2_with fail
      refine (H _ (by repeat (first | (with_reducible exact Ext.refl _) | (with_reducible assumption) | with_reducible refine Ext.drew ?_ | with_reducible refine Ext.alloc ?_ _ | with_reducible refine Ext.setCell ?_ (by first | (simp; done) | (simp; omega) | omega) _ | with_reducible refine Ext.trans ?_ (by with_reducible assumption)))).mono ?_; rintro e w0 ⟨rfl, hxa⟩
      have hc := hxa.cellr
      go_wp2_with fail
      refine (HM _ (by repeat (first | (with_reducible exact Ext.refl _) | (with_reducible assumption) | with_reducible refine Ext.drew ?_ | with_reducible refine Ext.alloc ?_ _ | with_reducible refine Ext.setCell ?_ (by first | (simp; done) | (simp; omega) | omega) _ | with_reducible refine Ext.trans ?_ (by with_reducible assumption)))).mono ?_; rintro e wm ⟨mo, mc, rfl, hxm, _⟩
      have hx1 := hxa.trans hxm
      clear hc
      go_wp2
      go_ret2
      have ho := Owns.early (α := Int) (s := 1) (cc := icc) (Ext.refl (w.alloc (Obj.cells #[.int .i64 c.number, .int .i64 c.start, .int .i64 c.finish, .slice (some ⟨b0, off0, none⟩) c.ps.length cap] 31))) hx1
      rw [World.size_alloc] at ho
      exact ⟨_, _, rfl, (by repeat (first | (with_reducible exact Ext.refl _) | (with_reducible assumption) | with_reducible refine Ext.drew ?_ | with_reducible refine Ext.alloc ?_ _ | with_reducible refine Ext.setCell ?_ (by first | (simp; done) | (simp; omega) | omega) _ | with_reducible refine Ext.trans ?_ (by with_reducible assumption))), ho.fresh0.mono (by omega)⟩
  · have hB' : askB c cs = false := by simpa using hB
    have hsB : spB c cs = false := by simp [spB, hB']
    have hL : spL c cs = [] := by simp [spL, hsB]
    rw [hL, hsB]
    rw [hB'] at H
    clear hL hsB hB hB'
    unfold CardD.val at H ⊢
    go_enter Try.func27, Try.ntmps27
    go_wp2_with fail
    refine (H _ (by repeat (first | (with_reducible exact Ext.refl _) | (with_reducible assumption) | with_reducible refine Ext.drew ?_ | with_reducible refine Ext.alloc ?_ _ | with_reducible refine Ext.setCell ?_ (by first | (simp; done) | (simp; omega) | omega) _ | with_reducible refine Ext.trans ?_ (by with_reducible assumption)))).mono ?_; rintro e w1 ⟨rfl, hx1⟩
    go_wp2
    go_ret2
    have ho := Owns.early (α := Int) (s := 1) (cc := icc) (Ext.refl (w.alloc (Obj.cells #[.int .i64 c.number, .int .i64 c.start, .int .i64 c.finish, .slice (some ⟨b0, off0, none⟩) c.ps.length cap] 31))) hx1
    rw [World.size_alloc] at ho
    exact ⟨_, _, rfl, (by repeat (first | (with_reducible exact Ext.refl _) | (with_reducible assumption) | with_reducible refine Ext.drew ?_ | with_reducible refine Ext.alloc ?_ _ | with_reducible refine Ext.setCell ?_ (by first | (simp; done) | (simp; omega) | omega) _ | with_reducible refine Ext.trans ?_ (by with_reducible assumption))), ho.fresh0.mono (by omega)⟩

end Go.Proofs.Ytbpcejdpgckkoaa
