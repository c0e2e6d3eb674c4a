/-
  Proved here: what the draws of cards and codes hand back.
  Conditions: the bytes' length fits an int.
-/
import Derived.Test.YtckgjpaccgpdpaaGreatDoorCur6
namespace Go.Proofs.YtckgjpaccgpdpaaGreatDoor
open Go.RowKit

/-- four cells of a block, stored -/
abbrev put4 (w : World) (B : Nat) (u0 u1 u2 u3 : Value) : World := (((w.setCell ⟨B, 0, none⟩ u0).setCell ⟨B, 1, none⟩ u1).setCell ⟨B, 2, none⟩ u2).setCell ⟨B, 3, none⟩ u3
theorem Ext.put4 {a w : World} (h : Ext a w) {B : Nat} (hB : a.heap.size ≤ B) (u0 u1 u2 u3 : Value) : Ext a (put4 w B u0 u1 u2 u3) :=
  Ext.setCell (p := ⟨B, 3, none⟩) (Ext.setCell (p := ⟨B, 2, none⟩) (Ext.setCell (p := ⟨B, 1, none⟩) (Ext.setCell (p := ⟨B, 0, none⟩) h hB u0) hB u1) hB u2) hB u3
theorem FreshAt.put4 {B0 B : Nat} {w : World} {ao : Option Addr} {s n : Nat} {c : Nat → Nat → Value} (h : FreshAt B0 w ao s n c) (hB : B < B0) (u0 u1 u2 u3 : Value) : FreshAt B0 (put4 w B u0 u1 u2 u3) ao s n c :=
  (((h.setCell (p := ⟨B, 0, none⟩) hB u0).setCell (p := ⟨B, 1, none⟩) hB u1).setCell (p := ⟨B, 2, none⟩) hB u2).setCell (p := ⟨B, 3, none⟩) hB u3

/-- a drawn card, in new memory -/
def DrawnCard (B0 : Nat) (w' : World) (c : CardD) (b off gc : Nat) : Prop := c.ps.length ≤ 12 ∧ crdOk c ∧ c.ps.length ≤ gc ∧ gc ≤ 9223372036854775807 ∧ FreshAt B0 w' (some ⟨b, off, none⟩) 2 c.ps.length (fun k => (nth c.ps k).c)
theorem DrawnCard.ext {B0 : Nat} {w' w'' : World} {c : CardD} {b off gc : Nat} (h : DrawnCard B0 w' c b off gc) (hx : Ext w' w'') : DrawnCard B0 w'' c b off gc := ⟨h.1, h.2.1, h.2.2.1, h.2.2.2.1, h.2.2.2.2.ext hx⟩
theorem DrawnCard.put4 {B0 B : Nat} {w : World} {c : CardD} {b off gc : Nat} (h : DrawnCard B0 w c b off gc) (hB : B < B0) (u0 u1 u2 u3 : Value) : DrawnCard B0 (put4 w B u0 u1 u2 u3) c b off gc := ⟨h.1, h.2.1, h.2.2.1, h.2.2.2.1, h.2.2.2.2.put4 hB u0 u1 u2 u3⟩
theorem DrawnCard.mono {B0 B1 : Nat} {w : World} {c : CardD} {b off gc : Nat} (h : DrawnCard B0 w c b off gc) (hB : B1 ≤ B0) : DrawnCard B1 w c b off gc := ⟨h.1, h.2.1, h.2.2.1, h.2.2.2.1, h.2.2.2.2.mono hB⟩
/-- drawn codes, in new memory -/
def DrawnInts (B0 : Nat) (w' : World) (cs : List Int) (ao : Option Addr) (gc : Nat) : Prop := cs.length ≤ 14 ∧ cs.length ≤ gc ∧ gc ≤ 9223372036854775807 ∧ FreshAt B0 w' ao 1 cs.length (ic cs)
theorem DrawnInts.ext {B0 : Nat} {w' w'' : World} {cs : List Int} {ao : Option Addr} {gc : Nat} (h : DrawnInts B0 w' cs ao gc) (hx : Ext w' w'') : DrawnInts B0 w'' cs ao gc := ⟨h.1, h.2.1, h.2.2.1, h.2.2.2.ext hx⟩
theorem DrawnInts.put4 {B0 B : Nat} {w : World} {cs : List Int} {ao : Option Addr} {gc : Nat} (h : DrawnInts B0 w cs ao gc) (hB : B < B0) (u0 u1 u2 u3 : Value) : DrawnInts B0 (put4 w B u0 u1 u2 u3) cs ao gc := ⟨h.1, h.2.1, h.2.2.1, h.2.2.2.put4 hB u0 u1 u2 u3⟩
theorem DrawnInts.mono {B0 B1 : Nat} {w : World} {cs : List Int} {ao : Option Addr} {gc : Nat} (h : DrawnInts B0 w cs ao gc) (hB : B1 ≤ B0) : DrawnInts B1 w cs ao gc := ⟨h.1, h.2.1, h.2.2.1, h.2.2.2.mono hB⟩
/-- the cursor's calls leave newer and older rows as they were -/
theorem FreshAt.curs {B0 B : Nat} {w w' : World} {ao : Option Addr} {s n : Nat} {c : Nat → Nat → Value} (h : FreshAt B0 w ao s n c) (ht : Touch w w' (Span B (B + 1))) (hB : B < B0) : FreshAt B0 w' ao s n c :=
  h.touch ht (fun a e hs => by have h1 := (h.base a e).1; have h2 := hs.2; omega)
theorem Res4.curs {w w' : World} {B R : Nat} (h : Res4 w R) (ht : Touch w w' (Span B (B + 1))) (hB : R < B) : Res4 w' R :=
  h.of_cells (fun o => ht.cell h.lt (fun hs => by have := hs.1; omega)) (fun o => ht.frozen h.lt (fun hs => by have := hs.1; omega))

set_option maxRecDepth 100000 in
theorem draw_card {w : World} {co : Option Addr} {m cc : Nat} {bs : Nat → Nat} (hr : RowAt w co 1 m (by8 bs)) (hb : ∀ k, bs k < 256) (hm : m ≤ 9223372036854775807) :
    Calls Tryz.prog 39 #[.slice co m cc] w fun e w' => ∃ (c : CardD) (b off gc : Nat), e = .returned (c.val (some ⟨b, off, none⟩) gc) ∧ DrawnCard w.heap.size w' c b off gc ∧ Ext w w' := by
  have hx0 := ((Ext.refl w).alloc (.cells #[.int .i64 0, .int .i64 0, .int .i64 0, .slice none 0 0] 26))
  have hres := Res4.of (w := w) (T := 26) (Ext.refl _)
  have H0 := fun T => cu_box (cc := cc) (T := T) (hr.ext hx0) hb hm
  simp only [World.size_alloc] at H0
  have H := Lib.hid (fun T => cu_codes12 (H0 T) (by omega))
  have HX0 := Lib.hid hx0
  have HRES := Lib.hid (fun o => hres.ext ((Ext.refl _).alloc o))
  clear hr hb H0 hx0 hres
  go_enter Tryz.func39, Tryz.ntmps39
  go_wp2_with fail
  refine (H.out _).mono ?_; rintro e w1 ⟨ao, cap, xs, rfl, hxl, hF, hcap, hc, ht⟩
  simp only [World.size_alloc] at hF
  have HR1 := Lib.hid ((HRES.out _).curs ht (by omega))
  have hlow := ht.size
  simp only [World.size_alloc] at hlow
  have HT1 := Lib.hid ht
  have H2 := Lib.hid (cu_card (cap := cap) hc (by omega) hF.row hxl (fun a e => by have := (hF.base a e).1; omega))
  clear hF hcap hc ht HRES H
  go_wp2_with fail
  refine H2.out.mono ?_; rintro e w2 ⟨c, b, off, gc, rfl, hp, hok, hg1, hg2, hF, hc, ht⟩
  have hrr := HR1.out.curs ht (by omega)
  have HD : Hid (DrawnCard w1.heap.size w2 c b off gc) := Lib.hid ⟨hp, hok, hg1, hg2, hF⟩
  have hT2 := HT1.out.trans ht
  have r0 := hrr.c0
  have r1 := hrr.c1
  have r2 := hrr.c2
  have r3 := hrr.c3
  have rl := hrr.lt
  have rf0 := hrr.fz 0
  have rf1 := hrr.fz 1
  have rf2 := hrr.fz 2
  have rf3 := hrr.fz 3
  have HE : Hid (Ext w w2) := Touch.spanExt ((HX0.out).alloc _) hT2 (by omega)
  clear hrr hp hok hg1 hg2 hF hc ht hT2 HR1 HT1 H2 HX0
  unfold CardD.val
  go_wp2
  refine bodyPost_ret (v := .agg #[.int .i64 c.number, .int .i64 c.start, .int .i64 c.finish, .slice (some ⟨b, off, none⟩) c.ps.length gc]) ?_ rfl ?_
  · simp [results, Tryz.results39, go_sem, cell_put, r0, r1, r2, r3]
  · exact ⟨c, b, off, gc, rfl, (HD.out.put4 (by omega) _ _ _ _).mono (by omega), HE.out.put4 (Nat.le_refl _) _ _ _ _⟩

set_option maxRecDepth 100000 in
theorem draw_found {w : World} {co : Option Addr} {m cc : Nat} {bs : Nat → Nat} (hr : RowAt w co 1 m (by8 bs)) (hb : ∀ k, bs k < 256) (hm : m ≤ 9223372036854775807) :
    Calls Tryz.prog 5 #[.slice co m cc] w fun e w' => ∃ (c : CardD) (b off gc : Nat) (cs : List Int) (ao : Option Addr) (cap : Nat), e = .returned (.tuple #[c.val (some ⟨b, off, none⟩) gc, .slice ao cs.length cap]) ∧ DrawnCard w.heap.size w' c b off gc ∧ DrawnInts w.heap.size w' cs ao cap ∧ Ext w w' := by
  have hx0 := ((Ext.refl w).alloc (.cells #[.int .i64 0, .int .i64 0, .int .i64 0, .slice none 0 0] 26))
  have hres := Res4.of (w := w) (T := 26) (Ext.refl _)
  have H0 := fun T => cu_box (cc := cc) (T := T) (hr.ext hx0) hb hm
  simp only [World.size_alloc] at H0
  have H := Lib.hid (fun T => cu_codes12 (H0 T) (by omega))
  have HX0 := Lib.hid hx0
  have HRES := Lib.hid (fun o => hres.ext ((Ext.refl _).alloc o))
  clear hr hb H0 hx0 hres
  go_enter Tryz.func5, Tryz.ntmps5
  go_wp2_with fail
  refine (H.out _).mono ?_; rintro e w1 ⟨ao, cap, xs, rfl, hxl, hF, hcap, hc, ht⟩
  simp only [World.size_alloc] at hF
  have HR1 := Lib.hid ((HRES.out _).curs ht (by omega))
  have hlow := ht.size
  simp only [World.size_alloc] at hlow
  have HT1 := Lib.hid ht
  have H2 := Lib.hid (cu_card (cap := cap) hc (by omega) hF.row hxl (fun a e => by have := (hF.base a e).1; omega))
  have HI1 : Hid (DrawnInts (w.heap.size + 1 + 1) w1 xs ao cap) := Lib.hid ⟨hxl, hcap.1, hcap.2, hF⟩
  clear hF hcap hc ht HRES H
  go_wp2_with fail
  refine H2.out.mono ?_; rintro e w2 ⟨c, b, off, gc, rfl, hp, hok, hg1, hg2, hF, hc, ht⟩
  have HR2 := Lib.hid (HR1.out.curs ht (by omega))
  have HD2 : Hid (DrawnCard w1.heap.size w2 c b off gc) := Lib.hid ⟨hp, hok, hg1, hg2, hF⟩
  have HI2 : Hid (DrawnInts (w.heap.size + 1 + 1) w2 xs ao cap) := Lib.hid ⟨hxl, HI1.out.2.1, HI1.out.2.2.1, HI1.out.2.2.2.curs ht (by omega)⟩
  have HT2 := Lib.hid (HT1.out.trans ht)
  have hlow2 := ht.size
  have hxb := (Ext.refl w2).alloc (.cells #[.int .i64 c.number, .int .i64 c.start, .int .i64 c.finish, .slice (some ⟨b, off, none⟩) c.ps.length gc] 26)
  have HO := Lib.hid (fun x (hx : Ext w2 x) => cu_one (N := 6) (hc.ext hx) (by omega) (by decide) (by decide))
  have HXB := Lib.hid hxb
  clear hp hok hg1 hg2 hF hc ht HR1 HT1 H2 HI1 hxb
  unfold CardD.val
  go_wp2_with fail
  refine (HO.out _ HXB.out).mono ?_; rintro e w3 ⟨y, rfl, hc, ht⟩
  have HB3 : Hid (Box4 w3 w2.heap.size (.int .i64 c.number) (.int .i64 c.start) (.int .i64 c.finish) (.slice (some ⟨b, off, none⟩) c.ps.length gc)) := by
    have hne : ¬ Span (w.heap.size + 1) (w.heap.size + 1 + 1) w2.heap.size := fun hs => by have := hs.2; omega
    have k : ∀ o, w3.cell? ⟨w2.heap.size, o, none⟩ = (w2.alloc (.cells #[.int .i64 c.number, .int .i64 c.start, .int .i64 c.finish, .slice (some ⟨b, off, none⟩) c.ps.length gc] 26)).cell? ⟨w2.heap.size, o, none⟩ := fun o => ht.cell (by simp) hne
    exact ⟨(k 0).trans (by go_simp), (k 1).trans (by go_simp), (k 2).trans (by go_simp), (k 3).trans (by go_simp)⟩
  have HR3 := Lib.hid ((HR2.out.ext HXB.out).curs ht (by omega))
  have HD3 : Hid (DrawnCard w1.heap.size w3 c b off gc) := Lib.hid ⟨HD2.out.1, HD2.out.2.1, HD2.out.2.2.1, HD2.out.2.2.2.1, (HD2.out.2.2.2.2.ext HXB.out).curs ht (by omega)⟩
  have HI3 : Hid (DrawnInts (w.heap.size + 1 + 1) w3 xs ao cap) := Lib.hid ⟨hxl, HI2.out.2.1, HI2.out.2.2.1, (HI2.out.2.2.2.ext HXB.out).curs ht (by omega)⟩
  have hT3 := (HT2.out.trans (Touch.of_ext HXB.out)).trans ht
  have HE3 : Hid (Ext w w3) := Touch.spanExt ((HX0.out).alloc _) hT3 (by omega)
  have HT3 := Lib.hid hT3
  have hlow3 := ht.size
  simp only [World.size_alloc] at hlow3
  have HCD := Lib.hid (cu_codes12 hc (by omega))
  clear hc ht HR2 HD2 HI2 HT2 HO hT3 HXB
  cases y
  · have q0 := HB3.out.c0
    have q1 := HB3.out.c1
    have q2 := HB3.out.c2
    have q3 := HB3.out.c3
    have ql := HB3.out.lt
    have r0 := HR3.out.c0
    have r1 := HR3.out.c1
    have r2 := HR3.out.c2
    have r3 := HR3.out.c3
    have rl := HR3.out.lt
    have rf0 := HR3.out.fz 0
    have rf1 := HR3.out.fz 1
    have rf2 := HR3.out.fz 2
    have rf3 := HR3.out.fz 3
    go_wp2
    refine bodyPost_ret (v := .tuple #[.agg #[.int .i64 c.number, .int .i64 c.start, .int .i64 c.finish, .slice (some ⟨b, off, none⟩) c.ps.length gc], .slice ao xs.length cap]) ?_ rfl ?_
    · simp [results, Tryz.results5, go_sem, cell_put, r0, r1, r2, r3]
    · exact ⟨c, b, off, gc, xs, ao, cap, rfl, (HD3.out.put4 (by omega) _ _ _ _).mono (by omega), (HI3.out.put4 (by omega) _ _ _ _).mono (by omega), HE3.out.put4 (Nat.le_refl _) _ _ _ _⟩
  · go_wp2_with fail
    refine HCD.out.mono ?_; rintro e w4 ⟨ao4, cap4, ys, rfl, hyl, hF4, hcap4, hc, ht⟩
    have hne : ¬ Span (w.heap.size + 1) (w.heap.size + 1 + 1) w2.heap.size := fun hs => by have := hs.2; omega
    have k := fun o => ht.cell (o := o) HB3.out.lt hne
    have q0 := (k 0).trans HB3.out.c0
    have q1 := (k 1).trans HB3.out.c1
    have q2 := (k 2).trans HB3.out.c2
    have q3 := (k 3).trans HB3.out.c3
    have ql : w2.heap.size < w4.heap.size := World.block_lt_of_cell? _ _ q0
    have HR4 := Lib.hid (HR3.out.curs ht (by omega))
    have HD4 : Hid (DrawnCard w1.heap.size w4 c b off gc) := Lib.hid ⟨HD3.out.1, HD3.out.2.1, HD3.out.2.2.1, HD3.out.2.2.2.1, HD3.out.2.2.2.2.curs ht (by omega)⟩
    have HI4 : Hid (DrawnInts w3.heap.size w4 ys ao4 cap4) := Lib.hid ⟨hyl, hcap4.1, hcap4.2, hF4⟩
    have HE4 : Hid (Ext w w4) := Touch.spanExt ((HX0.out).alloc _) (HT3.out.trans ht) (by omega)
    clear hF4 hcap4 hc ht hne k HCD HB3 HR3 HD3 HI3 HT3 HE3
    have r0 := HR4.out.c0
    have r1 := HR4.out.c1
    have r2 := HR4.out.c2
    have r3 := HR4.out.c3
    have rl := HR4.out.lt
    have rf0 := HR4.out.fz 0
    have rf1 := HR4.out.fz 1
    have rf2 := HR4.out.fz 2
    have rf3 := HR4.out.fz 3
    go_wp2
    refine bodyPost_ret (v := .tuple #[.agg #[.int .i64 c.number, .int .i64 c.start, .int .i64 c.finish, .slice (some ⟨b, off, none⟩) c.ps.length gc], .slice ao4 ys.length cap4]) ?_ rfl ?_
    · simp [results, Tryz.results5, go_sem, cell_put, r0, r1, r2, r3]
    · exact ⟨c, b, off, gc, ys, ao4, cap4, rfl, (HD4.out.put4 (by omega) _ _ _ _).mono (by omega), (HI4.out.put4 (by omega) _ _ _ _).mono (by omega), HE4.out.put4 (Nat.le_refl _) _ _ _ _⟩

set_option maxRecDepth 100000 in
theorem draw_text {w : World} {co : Option Addr} {m cc : Nat} {bs : Nat → Nat} (hr : RowAt w co 1 m (by8 bs)) (hb : ∀ k, bs k < 256) (hm : m ≤ 9223372036854775807) :
    Calls Tryz.prog 17 #[.slice co m cc] w fun e w' => ∃ (c : CardD) (b off gc : Nat), e = .returned (c.val (some ⟨b, off, none⟩) gc) ∧ DrawnCard w.heap.size w' c b off gc ∧ Ext w w' := by
  have hx0 := ((Ext.refl w).alloc (.cells #[.int .i64 0, .int .i64 0, .int .i64 0, .slice none 0 0] 26))
  have H := Lib.hid (draw_card (cc := cc) (hr.ext hx0) hb hm)
  have HX0 := Lib.hid hx0
  clear hr hb hx0
  go_enter Tryz.func17, Tryz.ntmps17
  go_wp2_with fail
  refine H.out.mono ?_; rintro e w1 ⟨c, b, off, gc, rfl, hD, hx⟩
  simp only [World.size_alloc] at hD
  have hrr := Res4.of hx
  have HE := Lib.hid (HX0.out.trans hx)
  have HD := Lib.hid hD
  have r0 := hrr.c0
  have r1 := hrr.c1
  have r2 := hrr.c2
  have r3 := hrr.c3
  have rl := hrr.lt
  have rf0 := hrr.fz 0
  have rf1 := hrr.fz 1
  have rf2 := hrr.fz 2
  have rf3 := hrr.fz 3
  clear hrr hx hD H HX0
  unfold CardD.val
  go_wp2
  refine bodyPost_ret (v := .agg #[.int .i64 c.number, .int .i64 c.start, .int .i64 c.finish, .slice (some ⟨b, off, none⟩) c.ps.length gc]) ?_ rfl ?_
  · simp [results, Tryz.results17, go_sem, cell_put, r0, r1, r2, r3]
  · exact ⟨c, b, off, gc, rfl, (HD.out.put4 (by omega) _ _ _ _).mono (by omega), HE.out.put4 (Nat.le_refl _) _ _ _ _⟩

end Go.Proofs.YtckgjpaccgpdpaaGreatDoor
