/-
  Proved here: what DrawOpenSums, DrawDueFor and DrawClubBill hand back; what DrawClubBill and DrawDueFor hand back; what DrawDueFor hands back.
  Conditions: those in each statement.
-/
import Derived.Test.YtkejhhflpnfepaaCurF
import Derived.Test.YtkejhhflpnfepaaCurO
import Derived.Test.YtkejhhflpnfepaaDrawE
namespace Go.Proofs.Ytkejhhflpnfepaa
open Go.RowKit

set_option maxRecDepth 100000 in
set_option maxHeartbeats 4000000 in
theorem draw_open {w : World} {co : Option Addr} {m cc : Nat} {bs : Nat → Nat} (hr : RowAt w co 1 m (by8 bs)) (hb : ∀ k, bs k < 256) (hm : m ≤ 9223372036854775807) :
    Calls Try.prog 27 #[.slice co m cc] w fun e w' => ∃ (f : Fee) (rb ro rc : Nat) (rs : List Rnr) (b off cap : Nat) (xs : List Ent), e = .returned (.tuple #[f.val, .slice (some ⟨rb, ro, none⟩) rs.length rc, .slice (some ⟨b, off, none⟩) xs.length cap]) ∧ feIn f ∧ DrawnR (w.heap.size + 1) w' rs rb ro rc ∧ DrawnE (w.heap.size + 1) w' xs b off cap ∧ Ext w w' := by
  have hx0 := (Ext.refl w).alloc (.cells #[.int .i64 0, .int .i64 0, .int .i64 0, .int .i64 0] 50)
  have h0 := fun T => cu_fees (cu_box (w := w.alloc (.cells #[.int .i64 0, .int .i64 0, .int .i64 0, .int .i64 0] 50)) (cc := cc) (T := T) (hr.ext hx0) hb hm) (by omega)
  simp only [World.size_alloc] at h0
  have H := Lib.hid h0
  have HX0 := Lib.hid hx0
  have HZ := Lib.hid (Bx.of (w := w) (cs := #[.int .i64 0, .int .i64 0, .int .i64 0, .int .i64 0]) (T := 50))
  clear hr hb hx0 h0
  go_enter Try.func27, Try.ntmps27
  go_wp2_with fail
  refine (H.out _).mono ?_; rintro e w1 ⟨x, rfl, hp, hc, ht⟩
  have HFE := Lib.hid hp
  have hBl : w.heap.size + 1 < w1.heap.size := hc.lt
  have HZ1 := Lib.hid ((HZ.out.ext ((Ext.refl _).alloc _)).curs ht (by omega))
  have HT1 := Lib.hid ht
  obtain ⟨a0, a1, a2, a3⟩ := x
  have hxa := (Ext.refl w1).alloc (.cells #[.int .i64 a0, .int .i64 a1, .int .i64 a2, .int .i64 a3] 50)
  have HRN := Lib.hid (cu_runners (hc.ext hxa) (by omega))
  have HXA := Lib.hid hxa
  have HBX := Lib.hid (Bx.of (w := w1) (cs := #[.int .i64 a0, .int .i64 a1, .int .i64 a2, .int .i64 a3]) (T := 50))
  clear hc ht H HZ hp hxa
  dsimp only [Fee.val]
  go_wp2_with fail
  refine HRN.out.mono ?_; rintro e w2 ⟨rb, ro, rc, rs, rfl, hD, hc, ht⟩
  have HT2 := Lib.hid ((HT1.out.trans (Touch.of_ext HXA.out)).trans ht)
  have HP2 := Lib.hid (HBX.out.curs ht (by omega))
  have HZ2 := Lib.hid ((HZ1.out.ext HXA.out).curs ht (by omega))
  have hD : DrawnR (w1.heap.size + 1) w2 rs rb ro rc := by simpa using hD
  have HD2 := Lib.hid hD
  have HE := Lib.hid (fun y (hy : Ext w2 y) => cu_entries (hc.ext hy) (by omega) (hD.ext hy) (by omega))
  clear hc ht hD HRN HBX HZ1 HT1 HXA
  have p0 := HP2.out.c 0 _ rfl; have p1 := HP2.out.c 1 _ rfl; have p2 := HP2.out.c 2 _ rfl; have p3 := HP2.out.c 3 _ rfl
  have hw2 : w1.heap.size < w2.heap.size := HP2.out.lt
  go_wp2_with fail
  go_region_with (go_at_call 38; (with_reducible refine Calls.mono (HE.out _ (Ext.drew (Ext.refl _))) ?_); rintro e w4 ⟨b, off, cap, xs, rfl, hDE, hc, ht⟩; have ht2 := (Touch.of_ext (S := Span (w.heap.size + 1) (w.heap.size + 1 + 1)) (Ext.refl w2).drew).trans ht; have hz4 := HZ2.out.curs ht2 (by omega); have hp4 := HP2.out.curs ht2 (by omega); have q0 := hp4.c 0 _ rfl; have q1 := hp4.c 1 _ rfl; have q2 := hp4.c 2 _ rfl; have q3 := hp4.c 3 _ rfl; have r0 := hz4.c 0 _ rfl; have r1 := hz4.c 1 _ rfl; have r2 := hz4.c 2 _ rfl; have r3 := hz4.c 3 _ rfl; have f0 := hz4.fr 0; have f1 := hz4.fr 1; have f2 := hz4.fr 2; have f3 := hz4.fr 3; have HT4 := Lib.hid (HT2.out.trans ht2); have HDR4 := Lib.hid (HD2.out.curs ht2 (by omega)); have HDE4 := Lib.hid hDE; clear hDE hc ht ht2 hz4 hp4)
  all_goals
    go_wp2
    refine bodyPost_ret (v := .tuple #[.agg #[.int .i64 a0, .int .i64 a1, .int .i64 a2, .int .i64 a3], .slice (some ⟨rb, ro, none⟩) rs.length rc, .slice (some ⟨b, off, none⟩) xs.length cap]) ?_ rfl ?_
    · simp [results, Try.results27, go_sem, cell_put, r0, r1, r2, r3]
    · have q4 := HDR4.out.fresh
      have q5 := HDE4.out.fresh
      refine ⟨⟨a0, a1, a2, a3⟩, rb, ro, rc, rs, b, off, cap, xs, rfl, HFE.out, ⟨HDR4.out.len, HDR4.out.ok, HDR4.out.caps, ?_⟩, ⟨HDE4.out.len, HDE4.out.ok, HDE4.out.caps, ?_⟩, ?_⟩
      · exact ((((q4.setCell (by simp; omega) _).setCell (by simp; omega) _).setCell (by simp; omega) _).setCell (by simp; omega) _).mono (by omega)
      · exact ((((q5.setCell (by simp; omega) _).setCell (by simp; omega) _).setCell (by simp; omega) _).setCell (by simp; omega) _).mono (by simp; omega)
      · exact ((((Touch.spanExt (HX0.out.alloc _) HT4.out (by omega)).setCell (by exact Nat.le_refl _) _).setCell (by exact Nat.le_refl _) _).setCell (by exact Nat.le_refl _) _).setCell (by exact Nat.le_refl _) _


theorem cu_litsx {B n : Nat} {w x : World} {cs : Array Value} {T : TypeId} (xs : List ByteArray) (h : Cu w B n) (hn : n ≤ 1000000) (hcs : cs.toList = xs.map Value.string) (hb : ∀ i, i < xs.length → (nth xs i).size ≤ 11) (h1 : 1 ≤ xs.length) (h2 : xs.length ≤ 200) (hx : Ext (w.alloc (.cells cs T)) x) :
    Calls Try.prog 71 #[.pointer (some ⟨B, 0, none⟩), .slice (some ⟨w.heap.size, 0, none⟩) xs.length xs.length] x fun e w' => ∃ y : ByteArray, e = .returned (.string y) ∧ y.size ≤ 11 ∧ Cu w' B (n + 1) ∧ Touch w w' (Span B (B + 1)) := by
  refine (cu_of (xs := xs) (h.ext (((Ext.refl w).alloc _).trans hx)) hn ((lit_strs xs hcs).ext hx) h1 h2 (fun a e => by injection e with e; subst e; exact h.lt)).mono ?_
  rintro e w' ⟨i, hi', rfl, hc, ht⟩
  exact ⟨nth xs i, rfl, hb i hi', hc, (Touch.of_ext (((Ext.refl w).alloc _).trans hx)).trans ht⟩

set_option maxRecDepth 100000 in
set_option maxHeartbeats 4000000 in
theorem draw_club {w : World} {co : Option Addr} {m cc : Nat} {bs : Nat → Nat} (hr : RowAt w co 1 m (by8 bs)) (hb : ∀ k, bs k < 256) (hm : m ≤ 9223372036854775807) :
    Calls Try.prog 36 #[.slice co m cc] w fun e w' => ∃ (f : Fee) (rb ro rc : Nat) (rs : List Rnr) (b off cap : Nat) (xs : List Ent) (s : ByteArray), e = .returned (.tuple #[f.val, .slice (some ⟨rb, ro, none⟩) rs.length rc, .slice (some ⟨b, off, none⟩) xs.length cap, .string s]) ∧ s.size ≤ 11 ∧ feIn f ∧ DrawnR (w.heap.size + 1) w' rs rb ro rc ∧ DrawnE (w.heap.size + 1) w' xs b off cap ∧ Ext w w' := by
  have hx0 := (Ext.refl w).alloc (.cells #[.int .i64 0, .int .i64 0, .int .i64 0, .int .i64 0] 50)
  have h0 := fun T => cu_fees (cu_box (w := w.alloc (.cells #[.int .i64 0, .int .i64 0, .int .i64 0, .int .i64 0] 50)) (cc := cc) (T := T) (hr.ext hx0) hb hm) (by omega)
  simp only [World.size_alloc] at h0
  have H := Lib.hid h0
  have HX0 := Lib.hid hx0
  have HZ := Lib.hid (Bx.of (w := w) (cs := #[.int .i64 0, .int .i64 0, .int .i64 0, .int .i64 0]) (T := 50))
  clear hr hb hx0 h0
  go_enter Try.func36, Try.ntmps36
  go_wp2_with fail
  refine (H.out _).mono ?_; rintro e w1 ⟨x, rfl, hp, hc, ht⟩
  have HFE := Lib.hid hp
  have hBl : w.heap.size + 1 < w1.heap.size := hc.lt
  have HZ1 := Lib.hid ((HZ.out.ext ((Ext.refl _).alloc _)).curs ht (by omega))
  have HT1 := Lib.hid ht
  obtain ⟨a0, a1, a2, a3⟩ := x
  have hxa := (Ext.refl w1).alloc (.cells #[.int .i64 a0, .int .i64 a1, .int .i64 a2, .int .i64 a3] 50)
  have HRN := Lib.hid (cu_runners (hc.ext hxa) (by omega))
  have HXA := Lib.hid hxa
  have HBX := Lib.hid (Bx.of (w := w1) (cs := #[.int .i64 a0, .int .i64 a1, .int .i64 a2, .int .i64 a3]) (T := 50))
  clear hc ht H HZ hp hxa
  dsimp only [Fee.val]
  go_wp2_with fail
  refine HRN.out.mono ?_; rintro e w2 ⟨rb, ro, rc, rs, rfl, hD, hc, ht⟩
  have HT2 := Lib.hid ((HT1.out.trans (Touch.of_ext HXA.out)).trans ht)
  have HP2 := Lib.hid (HBX.out.curs ht (by omega))
  have HZ2 := Lib.hid ((HZ1.out.ext HXA.out).curs ht (by omega))
  have hD : DrawnR (w1.heap.size + 1) w2 rs rb ro rc := by simpa using hD
  have HD2 := Lib.hid hD
  have HE := Lib.hid (cu_entries hc (by omega) hD (by omega))
  clear hc ht hD HRN HBX HZ1 HT1 HXA
  have hw2 : w1.heap.size < w2.heap.size := HP2.out.lt
  go_wp2_with fail
  refine HE.out.mono ?_; rintro e w3 ⟨b, off, cap, xs, rfl, hDE, hc, ht⟩
  have HT3 := Lib.hid (HT2.out.trans ht)
  have HP3 := Lib.hid (HP2.out.curs ht (by omega))
  have HZ3 := Lib.hid (HZ2.out.curs ht (by omega))
  have HD3 := Lib.hid (HD2.out.curs ht (by omega))
  have HDE3 := Lib.hid hDE
  have HA := Lib.hid (fun T y hy => cu_litsx (T := T) (x := y) (cs := #[.string ⟨#[104, 105, 108, 108]⟩, .string ⟨#[102, 101, 110]⟩, .string ⟨#[111, 97, 107]⟩, .string ⟨#[110, 111, 110, 101]⟩]) [⟨#[104, 105, 108, 108]⟩, ⟨#[102, 101, 110]⟩, ⟨#[111, 97, 107]⟩, ⟨#[110, 111, 110, 101]⟩] hc (by omega) rfl (by decide) (by decide) (by decide) hy)
  clear hc ht hDE HE HT2 HP2 HZ2 HD2
  have p0 := HP3.out.c 0 _ rfl; have p1 := HP3.out.c 1 _ rfl; have p2 := HP3.out.c 2 _ rfl; have p3 := HP3.out.c 3 _ rfl
  have pl := HP3.out.lt
  go_wp2_with fail
  go_region_with (go_at_call 71; (with_reducible refine Calls.mono (HA.out _ _ (Ext.drew (Ext.refl _))) ?_); rintro e w4 ⟨s, rfl, hs, hc, ht⟩; have ht2 := ht; have hz4 := HZ3.out.curs ht2 (by omega); have hp4 := HP3.out.curs ht2 (by omega); have q0 := hp4.c 0 _ rfl; have q1 := hp4.c 1 _ rfl; have q2 := hp4.c 2 _ rfl; have q3 := hp4.c 3 _ rfl; have r0 := hz4.c 0 _ rfl; have r1 := hz4.c 1 _ rfl; have r2 := hz4.c 2 _ rfl; have r3 := hz4.c 3 _ rfl; have f0 := hz4.fr 0; have f1 := hz4.fr 1; have f2 := hz4.fr 2; have f3 := hz4.fr 3; have HT4 := Lib.hid (HT3.out.trans ht2); have HDR4 := Lib.hid (HD3.out.curs ht2 (by omega)); have HDE4 := Lib.hid (HDE3.out.curs ht2 (by omega)); have HSS := Lib.hid hs; clear hs hc ht ht2 hz4 hp4)
  all_goals
    go_wp2
    refine bodyPost_ret (v := .tuple #[.agg #[.int .i64 a0, .int .i64 a1, .int .i64 a2, .int .i64 a3], .slice (some ⟨rb, ro, none⟩) rs.length rc, .slice (some ⟨b, off, none⟩) xs.length cap, .string s]) ?_ rfl ?_
    · simp [results, Try.results36, go_sem, cell_put, r0, r1, r2, r3]
    · have q4 := HDR4.out.fresh
      have q5 := HDE4.out.fresh
      refine ⟨⟨a0, a1, a2, a3⟩, rb, ro, rc, rs, b, off, cap, xs, s, rfl, HSS.out, HFE.out, ⟨HDR4.out.len, HDR4.out.ok, HDR4.out.caps, ?_⟩, ⟨HDE4.out.len, HDE4.out.ok, HDE4.out.caps, ?_⟩, ?_⟩
      · exact ((((q4.setCell (by simp; omega) _).setCell (by simp; omega) _).setCell (by simp; omega) _).setCell (by simp; omega) _).mono (by omega)
      · exact ((((q5.setCell (by simp; omega) _).setCell (by simp; omega) _).setCell (by simp; omega) _).setCell (by simp; omega) _).mono (by omega)
      · exact ((((Touch.spanExt (HX0.out.alloc _) HT4.out (by omega)).setCell (by exact Nat.le_refl _) _).setCell (by exact Nat.le_refl _) _).setCell (by exact Nat.le_refl _) _).setCell (by exact Nat.le_refl _) _


theorem DrawnR.id {B0 : Nat} {w : World} {xs : List Rnr} {b off cap i : Nat} (h : DrawnR B0 w xs b off cap) (hi : i < xs.length) : w.cell? ⟨b, off + i * 6, none⟩ = some (.int .i64 (nth xs i).id) := by
  obtain ⟨b', off', e, H⟩ := h.fresh.row (by omega)
  injection e with e; injection e with e1 e2; subst e1 e2
  exact H i hi 0 (by decide)

set_option maxRecDepth 100000 in
set_option maxHeartbeats 8000000 in
theorem draw_due {w : World} {co : Option Addr} {m cc : Nat} {bs : Nat → Nat} (hr : RowAt w co 1 m (by8 bs)) (hb : ∀ k, bs k < 256) (hm : m ≤ 9223372036854775807) :
    Calls Try.prog 33 #[.slice co m cc] w fun e w' => ∃ (f : Fee) (rb ro rc : Nat) (rs : List Rnr) (x : Ent), e = .returned (.tuple #[f.val, .slice (some ⟨rb, ro, none⟩) rs.length rc, x.val]) ∧ feIn f ∧ DrawnR (w.heap.size + 2) w' rs rb ro rc ∧ entIn x ∧ Ext w w' := by
  have hx0 := ((Ext.refl w).alloc (.cells #[.int .i64 0, .int .i64 0, .int .i64 0, .int .i64 0] 50)).alloc (.cells #[.int .i64 0, .int .i64 0, .int .i64 0, .bool false, .int .i64 0] 26)
  have h0 := fun T => cu_fees (cu_box (w := ((w.alloc (.cells #[.int .i64 0, .int .i64 0, .int .i64 0, .int .i64 0] 50)).alloc (.cells #[.int .i64 0, .int .i64 0, .int .i64 0, .bool false, .int .i64 0] 26))) (cc := cc) (T := T) (hr.ext hx0) hb hm) (by omega)
  simp only [World.size_alloc] at h0
  have H := Lib.hid h0
  have HX0 := Lib.hid hx0
  have hzz := (Bx.of (w := w) (cs := #[.int .i64 0, .int .i64 0, .int .i64 0, .int .i64 0]) (T := 50)).ext ((Ext.refl _).alloc (.cells #[.int .i64 0, .int .i64 0, .int .i64 0, .bool false, .int .i64 0] 26))
  have hyy := Bx.of (w := w.alloc (.cells #[.int .i64 0, .int .i64 0, .int .i64 0, .int .i64 0] 50)) (cs := #[.int .i64 0, .int .i64 0, .int .i64 0, .bool false, .int .i64 0]) (T := 26)
  simp only [World.size_alloc] at hyy
  have HZ := Lib.hid hzz
  have HY := Lib.hid hyy
  clear hr hb hx0 h0 hzz hyy
  go_enter Try.func33, Try.ntmps33
  go_wp2_with fail
  refine (H.out _).mono ?_; rintro e w1 ⟨x, rfl, hp, hc, ht⟩
  have HFE := Lib.hid hp
  have hBl : w.heap.size + 1 + 1 < w1.heap.size := hc.lt
  have HZ1 := Lib.hid ((HZ.out.ext ((Ext.refl _).alloc _)).curs ht (by omega))
  have HY1 := Lib.hid ((HY.out.ext ((Ext.refl _).alloc _)).curs ht (by omega))
  have HT1 := Lib.hid ht
  obtain ⟨a0, a1, a2, a3⟩ := x
  have hxa := (Ext.refl w1).alloc (.cells #[.int .i64 a0, .int .i64 a1, .int .i64 a2, .int .i64 a3] 50)
  have HRN := Lib.hid (cu_runners (hc.ext hxa) (by omega))
  have HXA := Lib.hid hxa
  have HBX := Lib.hid (Bx.of (w := w1) (cs := #[.int .i64 a0, .int .i64 a1, .int .i64 a2, .int .i64 a3]) (T := 50))
  clear hc ht H HZ HY hp hxa
  dsimp only [Fee.val]
  go_wp2_with fail
  refine HRN.out.mono ?_; rintro e w2 ⟨rb, ro, rc, rs, rfl, hD, hc, ht⟩
  have HT2 := Lib.hid ((HT1.out.trans (Touch.of_ext HXA.out)).trans ht)
  have HP2 := Lib.hid (HBX.out.curs ht (by omega))
  have HZ2 := Lib.hid ((HZ1.out.ext HXA.out).curs ht (by omega))
  have HY2 := Lib.hid ((HY1.out.ext HXA.out).curs ht (by omega))
  have hD : DrawnR (w1.heap.size + 1) w2 rs rb ro rc := by simpa using hD
  have HD2 := Lib.hid hD
  have HC2 := Lib.hid hc
  clear hc ht hD HRN HBX HZ1 HY1 HT1 HXA
  by_cases hpos : 0 < rs.length
  · have hpos2 : (0 : Int) < (rs.length : Int) := by omega
    have HO := Lib.hid (cu_one (N := 8) HC2.out (by omega) (by decide) (by decide))
    go_wp2_with fail
    refine HO.out.mono ?_; rintro e w3 ⟨y, rfl, hc, ht⟩
    have HT3 := Lib.hid (HT2.out.trans ht)
    have HP3 := Lib.hid (HP2.out.curs ht (by omega))
    have HZ3 := Lib.hid (HZ2.out.curs ht (by omega))
    have HY3 := Lib.hid (HY2.out.curs ht (by omega))
    have HD3 := Lib.hid (HD2.out.curs ht (by omega))
    have HC3 := Lib.hid hc
    clear hc ht HO HT2 HP2 HZ2 HY2 HD2 HC2
    cases y
    · skip
      have hw9 := HP3.out.lt
      have h12 := HD3.out.len
      have HPK := Lib.hid (fun y (hy : Ext w3 y) => cu_pick (N := (rs.length : Int)) (HC3.out.ext hy) (by omega) (by omega) (by omega))
      have p0 := HP3.out.c 0 _ rfl; have p1 := HP3.out.c 1 _ rfl; have p2 := HP3.out.c 2 _ rfl; have p3 := HP3.out.c 3 _ rfl
      go_wp2_with fail
      go_region_with (first
        | (go_at_call 41; (with_reducible refine Calls.mono (HPK.out _ (Ext.drew (Ext.refl _))) ?_); rintro e w8 ⟨z, rfl, hzb, hc, ht⟩; obtain ⟨i, rfl⟩ := Int.eq_ofNat_of_zero_le hzb.1; have hi : i < rs.length := (by omega); have hi2 : (i : Int) < (rs.length : Int) := (by omega); have ht3 := (Touch.of_ext (S := (Span (w.heap.size + 1 + 1) (w.heap.size + 1 + 1 + 1))) (Ext.refl w3).drew).trans ht; have HZ8 := Lib.hid (HZ3.out.curs ht3 (by omega)); have HY8 := Lib.hid (HY3.out.curs ht3 (by omega)); have HP8 := Lib.hid (HP3.out.curs ht3 (by omega)); have HT8 := Lib.hid (HT3.out.trans ht3); have HD8 := Lib.hid (HD3.out.curs ht3 (by omega)); have id8 := HD8.out.id hi; have t0 := HP8.out.c 0 _ rfl; have t1 := HP8.out.c 1 _ rfl; have t2 := HP8.out.c 2 _ rfl; have t3 := HP8.out.c 3 _ rfl; have HE8 := Lib.hid (cu_entry11 (r := (nth rs i).id) hc (by omega) (HD8.out.ok i hi).f0); clear hzb hc ht ht3)
        | (go_at_call 40; (with_reducible refine Calls.mono HE8.out ?_); rintro e w9 ⟨x, rfl, hei, hc, ht⟩; obtain ⟨e0, e1, e2, e3, e4⟩ := x; have ht2 := ht; have hz4 := HZ8.out.curs ht2 (by omega); have hy4 := HY8.out.curs ht2 (by omega); have hp4 := HP8.out.curs ht2 (by omega); have q0 := hp4.c 0 _ rfl; have q1 := hp4.c 1 _ rfl; have q2 := hp4.c 2 _ rfl; have q3 := hp4.c 3 _ rfl; have r0 := hz4.c 0 _ rfl; have f0 := hz4.fr 0; have r1 := hz4.c 1 _ rfl; have f1 := hz4.fr 1; have r2 := hz4.c 2 _ rfl; have f2 := hz4.fr 2; have r3 := hz4.c 3 _ rfl; have f3 := hz4.fr 3; have s0 := hy4.c 0 _ rfl; have g0 := hy4.fr 0; have s1 := hy4.c 1 _ rfl; have g1 := hy4.fr 1; have s2 := hy4.c 2 _ rfl; have g2 := hy4.fr 2; have s3 := hy4.c 3 _ rfl; have g3 := hy4.fr 3; have s4 := hy4.c 4 _ rfl; have g4 := hy4.fr 4; have HT9 := Lib.hid (HT8.out.trans ht2); have HD9 := Lib.hid (HD8.out.curs ht2 (by omega));  have HEI := Lib.hid hei; clear hei hc ht ht2 hz4 hy4 hp4; dsimp only [Ent.val]))
      all_goals
        go_wp2
        refine bodyPost_ret (v := .tuple #[.agg #[.int .i64 a0, .int .i64 a1, .int .i64 a2, .int .i64 a3], .slice (some ⟨rb, ro, none⟩) rs.length rc, .agg #[.int .i64 e0, .int .i64 e1, .int .i64 e2, .bool e3, .int .i64 e4]]) ?_ rfl ?_
        · simp [results, Try.results33, go_sem, cell_put, r0, r1, r2, r3, s0, s1, s2, s3, s4]
        · have q4 := HD9.out.fresh
          refine ⟨⟨a0, a1, a2, a3⟩, rb, ro, rc, rs, ⟨e0, e1, e2, e3, e4⟩, rfl, HFE.out, ⟨HD9.out.len, HD9.out.ok, HD9.out.caps, ?_⟩, HEI.out, ?_⟩
          · exact (((((((((q4.setCell (by simp; omega) _).setCell (by simp; omega) _).setCell (by simp; omega) _).setCell (by simp; omega) _).setCell (by simp; omega) _).setCell (by simp; omega) _).setCell (by simp; omega) _).setCell (by simp; omega) _).setCell (by simp; omega) _).mono (by omega)
          · exact (((((((((Touch.spanExt (HX0.out.alloc _) HT9.out (by omega)).setCell (by simp) _).setCell (by simp) _).setCell (by simp) _).setCell (by simp) _).setCell (by simp) _).setCell (by simp) _).setCell (by simp) _).setCell (by simp) _).setCell (by simp) _
    · skip
      have hw9 := HP3.out.lt
      have HE := Lib.hid (fun y (hy : Ext w3 y) => cu_entry11 (r := 1) (HC3.out.ext hy) (by omega) (by decide))
      have p0 := HP3.out.c 0 _ rfl; have p1 := HP3.out.c 1 _ rfl; have p2 := HP3.out.c 2 _ rfl; have p3 := HP3.out.c 3 _ rfl
      go_wp2_with fail
      go_region_with (go_at_call 40; (with_reducible refine Calls.mono (HE.out _ (Ext.drew (Ext.refl _))) ?_); rintro e w9 ⟨x, rfl, hei, hc, ht⟩; obtain ⟨e0, e1, e2, e3, e4⟩ := x; have ht2 := (Touch.of_ext (S := (Span (w.heap.size + 1 + 1) (w.heap.size + 1 + 1 + 1))) (Ext.refl w3).drew).trans ht; have hz4 := HZ3.out.curs ht2 (by omega); have hy4 := HY3.out.curs ht2 (by omega); have hp4 := HP3.out.curs ht2 (by omega); have q0 := hp4.c 0 _ rfl; have q1 := hp4.c 1 _ rfl; have q2 := hp4.c 2 _ rfl; have q3 := hp4.c 3 _ rfl; have r0 := hz4.c 0 _ rfl; have f0 := hz4.fr 0; have r1 := hz4.c 1 _ rfl; have f1 := hz4.fr 1; have r2 := hz4.c 2 _ rfl; have f2 := hz4.fr 2; have r3 := hz4.c 3 _ rfl; have f3 := hz4.fr 3; have s0 := hy4.c 0 _ rfl; have g0 := hy4.fr 0; have s1 := hy4.c 1 _ rfl; have g1 := hy4.fr 1; have s2 := hy4.c 2 _ rfl; have g2 := hy4.fr 2; have s3 := hy4.c 3 _ rfl; have g3 := hy4.fr 3; have s4 := hy4.c 4 _ rfl; have g4 := hy4.fr 4; have HT9 := Lib.hid (HT3.out.trans ht2); have HD9 := Lib.hid (HD3.out.curs ht2 (by omega));  have HEI := Lib.hid hei; clear hei hc ht ht2 hz4 hy4 hp4; dsimp only [Ent.val])
      all_goals
        go_wp2
        refine bodyPost_ret (v := .tuple #[.agg #[.int .i64 a0, .int .i64 a1, .int .i64 a2, .int .i64 a3], .slice (some ⟨rb, ro, none⟩) rs.length rc, .agg #[.int .i64 e0, .int .i64 e1, .int .i64 e2, .bool e3, .int .i64 e4]]) ?_ rfl ?_
        · simp [results, Try.results33, go_sem, cell_put, r0, r1, r2, r3, s0, s1, s2, s3, s4]
        · have q4 := HD9.out.fresh
          refine ⟨⟨a0, a1, a2, a3⟩, rb, ro, rc, rs, ⟨e0, e1, e2, e3, e4⟩, rfl, HFE.out, ⟨HD9.out.len, HD9.out.ok, HD9.out.caps, ?_⟩, HEI.out, ?_⟩
          · exact (((((((((q4.setCell (by simp; omega) _).setCell (by simp; omega) _).setCell (by simp; omega) _).setCell (by simp; omega) _).setCell (by simp; omega) _).setCell (by simp; omega) _).setCell (by simp; omega) _).setCell (by simp; omega) _).setCell (by simp; omega) _).mono (by omega)
          · exact (((((((((Touch.spanExt (HX0.out.alloc _) HT9.out (by omega)).setCell (by simp) _).setCell (by simp) _).setCell (by simp) _).setCell (by simp) _).setCell (by simp) _).setCell (by simp) _).setCell (by simp) _).setCell (by simp) _).setCell (by simp) _
  · have hpos2 : ¬ (0 : Int) < (rs.length : Int) := by omega
    have hw9 := HP2.out.lt
    have HE := Lib.hid (fun y (hy : Ext w2 y) => cu_entry11 (r := 1) (HC2.out.ext hy) (by omega) (by decide))
    have p0 := HP2.out.c 0 _ rfl; have p1 := HP2.out.c 1 _ rfl; have p2 := HP2.out.c 2 _ rfl; have p3 := HP2.out.c 3 _ rfl
    go_wp2_with fail
    go_region_with (go_at_call 40; (with_reducible refine Calls.mono (HE.out _ (Ext.drew (Ext.refl _))) ?_); rintro e w9 ⟨x, rfl, hei, hc, ht⟩; obtain ⟨e0, e1, e2, e3, e4⟩ := x; have ht2 := (Touch.of_ext (S := (Span (w.heap.size + 1 + 1) (w.heap.size + 1 + 1 + 1))) (Ext.refl w2).drew).trans ht; have hz4 := HZ2.out.curs ht2 (by omega); have hy4 := HY2.out.curs ht2 (by omega); have hp4 := HP2.out.curs ht2 (by omega); have q0 := hp4.c 0 _ rfl; have q1 := hp4.c 1 _ rfl; have q2 := hp4.c 2 _ rfl; have q3 := hp4.c 3 _ rfl; have r0 := hz4.c 0 _ rfl; have f0 := hz4.fr 0; have r1 := hz4.c 1 _ rfl; have f1 := hz4.fr 1; have r2 := hz4.c 2 _ rfl; have f2 := hz4.fr 2; have r3 := hz4.c 3 _ rfl; have f3 := hz4.fr 3; have s0 := hy4.c 0 _ rfl; have g0 := hy4.fr 0; have s1 := hy4.c 1 _ rfl; have g1 := hy4.fr 1; have s2 := hy4.c 2 _ rfl; have g2 := hy4.fr 2; have s3 := hy4.c 3 _ rfl; have g3 := hy4.fr 3; have s4 := hy4.c 4 _ rfl; have g4 := hy4.fr 4; have HT9 := Lib.hid (HT2.out.trans ht2); have HD9 := Lib.hid (HD2.out.curs ht2 (by omega));  have HEI := Lib.hid hei; clear hei hc ht ht2 hz4 hy4 hp4; dsimp only [Ent.val])
    all_goals
      go_wp2
      refine bodyPost_ret (v := .tuple #[.agg #[.int .i64 a0, .int .i64 a1, .int .i64 a2, .int .i64 a3], .slice (some ⟨rb, ro, none⟩) rs.length rc, .agg #[.int .i64 e0, .int .i64 e1, .int .i64 e2, .bool e3, .int .i64 e4]]) ?_ rfl ?_
      · simp [results, Try.results33, go_sem, cell_put, r0, r1, r2, r3, s0, s1, s2, s3, s4]
      · have q4 := HD9.out.fresh
        refine ⟨⟨a0, a1, a2, a3⟩, rb, ro, rc, rs, ⟨e0, e1, e2, e3, e4⟩, rfl, HFE.out, ⟨HD9.out.len, HD9.out.ok, HD9.out.caps, ?_⟩, HEI.out, ?_⟩
        · exact (((((((((q4.setCell (by simp; omega) _).setCell (by simp; omega) _).setCell (by simp; omega) _).setCell (by simp; omega) _).setCell (by simp; omega) _).setCell (by simp; omega) _).setCell (by simp; omega) _).setCell (by simp; omega) _).setCell (by simp; omega) _).mono (by omega)
        · exact (((((((((Touch.spanExt (HX0.out.alloc _) HT9.out (by omega)).setCell (by simp) _).setCell (by simp) _).setCell (by simp) _).setCell (by simp) _).setCell (by simp) _).setCell (by simp) _).setCell (by simp) _).setCell (by simp) _).setCell (by simp) _


end Go.Proofs.Ytkejhhflpnfepaa
