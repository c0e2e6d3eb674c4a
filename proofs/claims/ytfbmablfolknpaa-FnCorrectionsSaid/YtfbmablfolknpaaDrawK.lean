/-
  Proved here: what DrawCorrectCard and DrawNeedlessMarks hand back.
  Conditions: the bytes' length fits an int.
-/
import Derived.Test.YtfbmablfolknpaaDrawC
import Derived.Test.YtfbmablfolknpaaCur4
import Derived.Test.YtfbmablfolknpaaCur5
import Derived.Deep.RegionWith
import Derived.Deep.DeepCutAuto
namespace Go.Proofs.Ytfbmablfolknpaa
open Go.RowKit

/-- drawn marks, in new memory -/
def DrawnMarks (B0 : Nat) (w' : World) (ms : List Mark) (mo : Option Addr) (mcap : Nat) : Prop := ms.length ≤ 6 ∧ ms.length ≤ mcap ∧ mcap ≤ 9223372036854775807 ∧ FreshAt B0 w' mo 2 ms.length (fun k => (nth ms k).c)
theorem DrawnMarks.put4 {B0 B : Nat} {w : World} {ms : List Mark} {mo : Option Addr} {mcap : Nat} (h : DrawnMarks B0 w ms mo mcap) (hB : B < B0) (u0 u1 u2 u3 : Value) : DrawnMarks B0 (put4 w B u0 u1 u2 u3) ms mo mcap := ⟨h.1, h.2.1, h.2.2.1, h.2.2.2.put4 hB u0 u1 u2 u3⟩
theorem DrawnMarks.mono {B0 B1 : Nat} {w : World} {ms : List Mark} {mo : Option Addr} {mcap : Nat} (h : DrawnMarks B0 w ms mo mcap) (hB : B1 ≤ B0) : DrawnMarks B1 w ms mo mcap := ⟨h.1, h.2.1, h.2.2.1, h.2.2.2.mono hB⟩

/-- four cells in the call's own memory, above the cursor -/
theorem Box4.curs {w w' : World} {B K : Nat} {a b c d : Value} (h : Box4 w K a b c d) (ht : Touch w w' (Span B (B + 1))) (hK : B < K) : Box4 w' K a b c d := by
  have k : ∀ o, w'.cell? ⟨K, o, none⟩ = w.cell? ⟨K, o, none⟩ := fun o => ht.cell h.lt (fun hs => by have := hs.2; omega)
  exact ⟨(k 0).trans h.c0, (k 1).trans h.c1, (k 2).trans h.c2, (k 3).trans h.c3⟩
theorem DrawnCard.curs {B0 B : Nat} {w w' : World} {c : CardD} {b off gc : Nat} (h : DrawnCard B0 w c b off gc) (ht : Touch w w' (Span B (B + 1))) (hB : B < B0) : DrawnCard B0 w' c b off gc := ⟨h.1, h.2.1, h.2.2.1, h.2.2.2.1, h.2.2.2.2.curs ht hB⟩
theorem DrawnInts.curs {B0 B : Nat} {w w' : World} {cs : List Int} {ao : Option Addr} {gc : Nat} (h : DrawnInts B0 w cs ao gc) (ht : Touch w w' (Span B (B + 1))) (hB : B < B0) : DrawnInts B0 w' cs ao gc := ⟨h.1, h.2.1, h.2.2.1, h.2.2.2.curs ht hB⟩

theorem put4_cell {w : World} {B : Nat} {u0 u1 u2 u3 v : Value} {p : Addr} (h : w.cell? p = some v) (hp : p.block ≠ B) : (put4 w B u0 u1 u2 u3).cell? p = some v := by
  unfold put4
  rw [World.cell?_setCell_other _ _ _ _ (fun e => hp (by rw [← e])), World.cell?_setCell_other _ _ _ _ (fun e => hp (by rw [← e])), World.cell?_setCell_other _ _ _ _ (fun e => hp (by rw [← e])), World.cell?_setCell_other _ _ _ _ (fun e => hp (by rw [← e]))]
  exact h

/-- what has been drawn so far: a card in its box, codes, the cursor -/
structure StK (w wr : World) (n K B1 : Nat) (c : CardD) (b off gc : Nat) (xs : List Int) (ao : Option Addr) (cap : Nat) : Prop where
  res : Res4 wr w.heap.size
  card : DrawnCard B1 wr c b off gc
  ints : DrawnInts (w.heap.size + 1 + 1) wr xs ao cap
  box : Box4 wr K (.int .i64 c.number) (.int .i64 c.start) (.int .i64 c.finish) (.slice (some ⟨b, off, none⟩) c.ps.length gc)
  cur : Cu wr (w.heap.size + 1) n
  lo : w.heap.size + 1 + 1 ≤ B1
  hi : B1 ≤ K
  touch : Touch w wr (Span (w.heap.size + 1) (w.heap.size + 1 + 1))
theorem StK.curs {w wr w' : World} {n n' K B1 : Nat} {c : CardD} {b off gc : Nat} {xs : List Int} {ao : Option Addr} {cap : Nat} (h : StK w wr n K B1 c b off gc xs ao cap) (hc : Cu w' (w.heap.size + 1) n') (ht : Touch wr w' (Span (w.heap.size + 1) (w.heap.size + 1 + 1))) : StK w w' n' K B1 c b off gc xs ao cap :=
  ⟨h.res.curs ht (by omega), h.card.curs ht (by have := h.lo; omega), h.ints.curs ht (by omega), h.box.curs ht (by have := h.lo; have := h.hi; omega), hc, h.lo, h.hi, h.touch.trans ht⟩
theorem StK.ext {w wr w' : World} {n K B1 : Nat} {c : CardD} {b off gc : Nat} {xs : List Int} {ao : Option Addr} {cap : Nat} (h : StK w wr n K B1 c b off gc xs ao cap) (hx : Ext wr w') : StK w w' n K B1 c b off gc xs ao cap :=
  ⟨h.res.ext hx, h.card.ext hx, h.ints.ext hx, h.box.ext hx, h.cur.ext hx, h.lo, h.hi, h.touch.trans (Touch.of_ext hx)⟩

set_option maxRecDepth 100000 in
set_option maxHeartbeats 4000000 in
theorem draw_corr {w : World} {co : Option Addr} {m cc : Nat} {bs : Nat → Nat} (hr : RowAt w co 1 m (by8 bs)) (hb : ∀ k, bs k < 256) (hm : m ≤ 9223372036854775807) :
    Calls Try.prog 44 #[.slice co m cc] w fun e w' => ∃ (c : CardD) (b off gc : Nat) (code : Int) (ms : List Mark) (mo : Option Addr) (mcap : Nat), e = .returned (.tuple #[c.val (some ⟨b, off, none⟩) gc, .int .i64 code, .slice mo ms.length mcap]) ∧ DrawnCard w.heap.size w' c b off gc ∧ DrawnMarks w.heap.size w' ms mo mcap ∧ Ext w w' := by
  have hx0 := ((Ext.refl w).alloc (.cells #[.int .i64 0, .int .i64 0, .int .i64 0, .slice none 0 0] 41))
  have hres := Res4.of (w := w) (T := 41) (Ext.refl _)
  have H0 := fun T => cu_box (cc := cc) (T := T) (hr.ext hx0) hb hm
  simp only [World.size_alloc] at H0
  have H := Lib.hid (fun T => cu_codes12 (H0 T) (by omega))
  have HX0 := Lib.hid hx0
  have HRES := Lib.hid (fun o => hres.ext ((Ext.refl _).alloc o))
  clear hr hb H0 hx0 hres
  go_enter Try.func44, Try.ntmps44
  go_wp2_with fail
  refine (H.out _).mono ?_; rintro e w1 ⟨ao, cap, xs, rfl, hxl, hF, hcap, hc, ht⟩
  simp only [World.size_alloc] at hF
  have HR1 := Lib.hid ((HRES.out _).curs ht (by omega))
  have hlow := ht.size
  simp only [World.size_alloc] at hlow
  have HT1 := Lib.hid ht
  have H2 := Lib.hid (cu_card (cap := cap) hc (by omega) hF.row hxl (fun a e => by have := (hF.base a e).1; omega))
  have HI1 : Hid (DrawnInts (w.heap.size + 1 + 1) w1 xs ao cap) := Lib.hid ⟨hxl, hcap.1, hcap.2, hF⟩
  clear hF hcap hc ht HRES H
  go_wp2_with fail
  refine H2.out.mono ?_; rintro e w2 ⟨c, b, off, gc, rfl, hp, hok, hg1, hg2, hF, hc, ht⟩
  have hxb := (Ext.refl w2).alloc (.cells #[.int .i64 c.number, .int .i64 c.start, .int .i64 c.finish, .slice (some ⟨b, off, none⟩) c.ps.length gc] 41)
  have HS2 : Hid (StK w (w2.alloc (.cells #[.int .i64 c.number, .int .i64 c.start, .int .i64 c.finish, .slice (some ⟨b, off, none⟩) c.ps.length gc] 41)) (0 + 40 + 60) w2.heap.size w1.heap.size c b off gc xs ao cap) :=
    Lib.hid ⟨(HR1.out.curs ht (by omega)).ext hxb, DrawnCard.ext ⟨hp, hok, hg1, hg2, hF⟩ hxb, (HI1.out.curs ht (by omega)).ext hxb, Box4.of (Ext.refl _), hc.ext hxb, hlow, ht.size, ((Touch.of_ext (HX0.out.alloc _)).trans (HT1.out.trans ht)).trans (Touch.of_ext hxb)⟩
  have hb1 : w1.heap.size ≤ w2.heap.size := ht.size
  clear hp hok hg1 hg2 hF hc ht HR1 HT1 H2 HI1 hxb
  unfold CardD.val
  go_upto_region 4 with fail
  go_cut [23] (fun s wc => ∃ (y : Bool) (n : Nat), s = .bool y ∧ n ≤ 200 ∧ (y = true → 0 < xs.length) ∧ StK w wc n w2.heap.size w1.heap.size c b off gc xs ao cap)
  case first =>
    by_cases hx0 : 0 < xs.length
    · have hxi : (0 : Int) < (xs.length : Int) := by omega
      have HO := Lib.hid (cu_one (N := 6) HS2.out.cur (by omega) (by decide) (by decide))
      go_wp2_with fail
      refine HO.out.mono ?_; rintro e w3 ⟨y, rfl, hc, ht⟩
      have HS3 := Lib.hid (HS2.out.curs hc ht)
      clear hc ht HS2 HO
      go_wp2_with fail
      go_meet
      exact ⟨_, _, rfl, by omega, fun _ => hx0, HS3.out⟩
    · have hxi : ¬ (0 : Int) < (xs.length : Int) := by omega
      go_wp2_with fail
      go_meet
      exact ⟨false, _, rfl, by omega, (fun h => by cases h), HS2.out⟩
  case rest =>
    obtain ⟨y, n, rfl, hn, hy, hS⟩ := hcut
    have HS3 := Lib.hid hS; clear hS HS2
    obtain ⟨q0, q1, q2, q3⟩ := HS3.out.box
    have ql := HS3.out.box.lt
    cases y
    · have HC6 := Lib.hid (fun x (hx : Ext wc x) => cu_code6 ((HS3.out.ext hx).cur) (by omega))
      go_wp2
      go_region_with (first
        | (go_at_call 81; refine (HC6.out _ (Ext.refl _).drew).mono ?_; rintro e w4 ⟨v, rfl, _, hc, ht⟩; have hS4 := (HS3.out.ext (Ext.refl _).drew).curs hc ht; have q0 := hS4.box.c0; have q1 := hS4.box.c1; have q2 := hS4.box.c2; have q3 := hS4.box.c3; have ql := hS4.box.lt; have HS4 := Lib.hid hS4; clear hS4 hc ht)
        | (go_at_call 64; refine (cu_marks HS4.out.cur (by omega)).mono ?_; rintro e w5 ⟨mo, mcap, ms, rfl, hml, _, hF5, hcap5, hc5, ht5⟩; have hS5 := HS4.out.curs hc5 ht5; have HM5 : Hid (DrawnMarks w4.heap.size w5 ms mo mcap) := Lib.hid ⟨hml, hcap5.1, hcap5.2, hF5⟩; have hs45 := ht5.size; have q0 := hS5.box.c0; have q1 := hS5.box.c1; have q2 := hS5.box.c2; have q3 := hS5.box.c3; have ql := hS5.box.lt; have r0 := hS5.res.c0; have r1 := hS5.res.c1; have r2 := hS5.res.c2; have r3 := hS5.res.c3; have rl := hS5.res.lt; have rf0 := hS5.res.fz 0; have rf1 := hS5.res.fz 1; have rf2 := hS5.res.fz 2; have rf3 := hS5.res.fz 3;  have HS5 := Lib.hid hS5; clear hS5 hF5 hcap5 hc5 ht5))
      all_goals
        go_wp2
        have hE := Touch.spanExt (Ext.refl w) HS5.out.touch (Nat.le_succ _)
        have hlo5 := HS4.out.res.lt
        refine bodyPost_ret (v := .tuple #[.agg #[.int .i64 c.number, .int .i64 c.start, .int .i64 c.finish, .slice (some ⟨b, off, none⟩) c.ps.length gc], .int .i64 (v), .slice mo ms.length mcap]) ?_ rfl ?_
        · simp [results, Try.results44, go_sem, cell_put, r0, r1, r2, r3]
        · exact ⟨c, b, off, gc, v, ms, mo, mcap, rfl, (HS5.out.card.put4 (by omega) _ _ _ _).mono (by omega), (HM5.out.put4 (by omega) _ _ _ _).mono (by omega), hE.put4 (Nat.le_refl _) _ _ _ _⟩
    · have hpos := hy rfl
      obtain ⟨cb, coff, rfl, hcell⟩ := ints_at' HS3.out.ints.2.2.2.row hpos
      clear hcell
      have hbase := (HS3.out.ints.2.2.2.base _ rfl).1
      have hcl : ∀ (x : World) (n' : Nat), StK w x n' w2.heap.size w1.heap.size c b off gc xs (some ⟨cb, coff, none⟩) cap → ∀ i : Nat, i < xs.length → x.cell? ⟨cb, coff + i, none⟩ = some (.int .i64 (nth xs i)) := fun x n' hx i hi => by
        obtain ⟨cb', coff', e, H⟩ := ints_at' hx.ints.2.2.2.row hpos
        injection e with e; injection e with e1 e2; subst e1 e2
        exact H i hi
      have HCL := Lib.hid hcl; clear hcl
      have HP := Lib.hid (fun x (hx : Ext wc x) => cu_pick (N := xs.length) ((HS3.out.ext hx).cur) (by omega) (by omega) (by have := HS3.out.ints.1; omega))
      go_wp2
      go_region_with (first
        | (go_at_call 80; refine (HP.out _ (Ext.refl _).drew).mono ?_; rintro e w4 ⟨v, rfl, hv, hc, ht⟩; have hS4 := (HS3.out.ext (Ext.refl _).drew).curs hc ht; have q0 := hS4.box.c0; have q1 := hS4.box.c1; have q2 := hS4.box.c2; have q3 := hS4.box.c3; have ql := hS4.box.lt; obtain ⟨vi, rfl⟩ := Int.eq_ofNat_of_zero_le hv.1; have hv0 : (0 : Int) ≤ (vi : Int) := hv.1; have hv1 : (vi : Int) < (xs.length : Int) := hv.2; have d4 := HCL.out _ _ hS4 vi (by omega); have HS4 := Lib.hid hS4; clear hS4 hc ht hv)
        | (go_at_call 64; refine (cu_marks HS4.out.cur (by omega)).mono ?_; rintro e w5 ⟨mo, mcap, ms, rfl, hml, _, hF5, hcap5, hc5, ht5⟩; have hS5 := HS4.out.curs hc5 ht5; have HM5 : Hid (DrawnMarks w4.heap.size w5 ms mo mcap) := Lib.hid ⟨hml, hcap5.1, hcap5.2, hF5⟩; have hs45 := ht5.size; have q0 := hS5.box.c0; have q1 := hS5.box.c1; have q2 := hS5.box.c2; have q3 := hS5.box.c3; have ql := hS5.box.lt; have r0 := hS5.res.c0; have r1 := hS5.res.c1; have r2 := hS5.res.c2; have r3 := hS5.res.c3; have rl := hS5.res.lt; have rf0 := hS5.res.fz 0; have rf1 := hS5.res.fz 1; have rf2 := hS5.res.fz 2; have rf3 := hS5.res.fz 3; have d5 := HCL.out _ _ hS5 vi (by omega); have d6 := put4_cell (B := w.heap.size) (u0 := .int .i64 c.number) (u1 := .int .i64 c.start) (u2 := .int .i64 c.finish) (u3 := .slice (some ⟨b, off, none⟩) c.ps.length gc) d5 (by simp only at hbase ⊢; omega); have HS5 := Lib.hid hS5; clear hS5 hF5 hcap5 hc5 ht5))
      all_goals
        go_wp2
        have hE := Touch.spanExt (Ext.refl w) HS5.out.touch (Nat.le_succ _)
        have hlo5 := HS4.out.res.lt
        refine bodyPost_ret (v := .tuple #[.agg #[.int .i64 c.number, .int .i64 c.start, .int .i64 c.finish, .slice (some ⟨b, off, none⟩) c.ps.length gc], .int .i64 (nth xs vi), .slice mo ms.length mcap]) ?_ rfl ?_
        · simp [results, Try.results44, go_sem, cell_put, r0, r1, r2, r3]
        · exact ⟨c, b, off, gc, nth xs vi, ms, mo, mcap, rfl, (HS5.out.card.put4 (by omega) _ _ _ _).mono (by omega), (HM5.out.put4 (by omega) _ _ _ _).mono (by omega), hE.put4 (Nat.le_refl _) _ _ _ _⟩

theorem lit_marks3 {w : World} {T : TypeId} {a0 a1 x y b0 b1 : Int} {n : Nat} (hn : w.heap.size = n) : FreshAt n (w.alloc (.cells #[.int .i64 a0, .int .i64 a1, .int .i64 x, .int .i64 y, .int .i64 b0, .int .i64 b1] T)) (some ⟨n, 0, none⟩) 2 3 (fun k => (nth [(⟨a0, a1⟩ : Mark), ⟨x, y⟩, ⟨b0, b1⟩] k).c) where
  row := fun _ => ⟨_, _, rfl, fun k hk j hj => by
    subst hn
    rw [World.cell?_alloc_new]
    match k, hk, j, hj with
    | 0, _, 0, _ => rfl
    | 0, _, 1, _ => rfl
    | 1, _, 0, _ => rfl
    | 1, _, 1, _ => rfl
    | 2, _, 0, _ => rfl
    | 2, _, 1, _ => rfl⟩
  base := fun a e => by injection e with e; subst hn; subst e; exact ⟨Nat.le_refl _, by simp⟩
  free := fun b off e j => by injection e with e; subst hn; have h1 : w.heap.size = b := congrArg Addr.block e; rw [← h1]; go_simp

set_option maxRecDepth 100000 in
set_option maxHeartbeats 4000000 in
theorem draw_needless {w : World} {co : Option Addr} {m cc : Nat} {bs : Nat → Nat} (hr : RowAt w co 1 m (by8 bs)) (hb : ∀ k, bs k < 256) (hm : m ≤ 9223372036854775807) :
    Calls Try.prog 48 #[.slice co m cc] w fun e w' => ∃ (ms : List Mark) (mo : Option Addr) (mcap : Nat), e = .returned (.slice mo ms.length mcap) ∧ DrawnMarks w.heap.size w' ms mo mcap ∧ Ext w w' := by
  have H := Lib.hid (fun T => cu_marks (cu_box (cc := cc) (T := T) hr hb hm) (by omega))
  clear hr hb
  go_enter Try.func48, Try.ntmps48
  go_wp2_with fail
  refine (H.out _).mono ?_; rintro e w1 ⟨ao, cap, ms, rfl, hl, hok, hF, hcap, hc, ht⟩
  have HE := Lib.hid (Touch.spanExt ((Ext.refl w).alloc _) ht (Nat.le_refl _))
  have HM1 : Hid (DrawnMarks (w.heap.size + 1) w1 ms ao cap) := Lib.hid ⟨hl, hcap.1, hcap.2, by simpa using hF⟩
  have HK := Lib.hid hok
  have HO := Lib.hid (cu_one (N := 2) hc (by omega) (by decide) (by decide))
  clear hF hcap hc ht hok H
  by_cases h3 : 2 < ms.length
  · have hi3 : (2 : Int) < (ms.length : Int) := by omega
    go_wp2_with fail
    refine HO.out.mono ?_; rintro e w2 ⟨y, rfl, _, ht⟩
    have HE2 := Lib.hid (Touch.spanExt (HE.out) ht (by omega))
    have hM2 : DrawnMarks (w.heap.size + 1) w2 ms ao cap := ⟨hl, HM1.out.2.1, HM1.out.2.2.1, HM1.out.2.2.2.curs ht (by omega)⟩
    have HM2 := Lib.hid hM2
    cases y
    · clear hM2
      go_wp2
      go_ret
      exact ⟨ms, ao, cap, rfl, HM2.out.mono (by omega), HE2.out⟩
    · obtain ⟨b, off, rfl, hcell⟩ := hM2.2.2.2.row (by omega)
      have d0 : w2.cell? ⟨b, off, none⟩ = some (.int .i64 (nth ms 0).shown) := by simpa [Mark.c] using hcell 0 (by omega) 0 (by decide)
      have d1 : w2.cell? ⟨b, off + 1, none⟩ = some (.int .i64 (nth ms 0).real) := by simpa [Mark.c] using hcell 0 (by omega) 1 (by decide)
      have d2 : w2.cell? ⟨b, off + (ms.length - 1) * 2, none⟩ = some (.int .i64 (nth ms (ms.length - 1)).shown) := by simpa [Mark.c] using hcell (ms.length - 1) (by omega) 0 (by decide)
      have d3 : w2.cell? ⟨b, off + (ms.length - 1) * 2 + 1, none⟩ = some (.int .i64 (nth ms (ms.length - 1)).real) := by simpa [Mark.c] using hcell (ms.length - 1) (by omega) 1 (by decide)
      have dl := World.block_lt_of_cell? _ _ d0
      have hi1 : (0 : Int) < (ms.length : Int) := by omega
      have hi2 : (0 : Int) ≤ (ms.length : Int) - 1 := by omega
      have hi4 : (ms.length : Int) - 1 < (ms.length : Int) := by omega
      have hi5 : ((ms.length : Int) - 1).toNat = ms.length - 1 := by omega
      have k0 := HK.out 0 (by omega)
      have k1 := HK.out (ms.length - 1) (by omega)
      have k00 := k0.1.1; have k01 := k0.1.2; have k02 := k0.2.1; have k03 := k0.2.2
      have k10 := k1.1.1; have k11 := k1.1.2; have k12 := k1.2.1; have k13 := k1.2.2
      clear hcell hM2 ht k0 k1 HO HM1 HE HK
      generalize (nth ms 0).shown = a0 at *
      generalize (nth ms 0).real = a1 at *
      generalize (nth ms (ms.length - 1)).shown = b0 at *
      generalize (nth ms (ms.length - 1)).real = b1 at *
      have d0a : ∀ o, (w2.alloc o).cell? ⟨b, off, none⟩ = some (.int .i64 a0) := fun o => ((Ext.refl w2).alloc o).cells d0
      go_wp2
      go_region
      all_goals
        go_wp2
        go_ret
        have hs2 := HE2.out.size
        refine ⟨[⟨a0, a1⟩, ⟨(a0 + b0).tdiv 2, (a1 + b1).tdiv 2⟩, ⟨b0, b1⟩], some ⟨w2.heap.size + 1 + 1, 0, none⟩, 3, rfl, ⟨by simp, by simp, by simp, FreshAt.mono (B1 := w.heap.size) (FreshAt.ext (lit_marks3 (n := w2.heap.size + 1 + 1) (by simp)) (Ext.refl _).drew) (by omega)⟩, ?_⟩
        exact ((((HE2.out.alloc _).alloc _).alloc _)).drew
  · have hi3 : ¬ (2 : Int) < (ms.length : Int) := by omega
    go_wp2
    go_ret
    exact ⟨ms, ao, cap, rfl, HM1.out.mono (by omega), HE.out⟩

end Go.Proofs.Ytfbmablfolknpaa
