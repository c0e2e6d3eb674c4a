/-
  Proved here: the cursor's proof, proofs, runner14, code14, limit14.
  Conditions: the cursor lies in one block; counts are small.
-/
import Derived.Test.YtfnjoinkfghalaaCurL
import Derived.Test.YtfnjoinkfghalaaStr2
import Derived.Deep.DeepCutAuto
import Derived.Deep.CutBlock
namespace Go.Proofs.Ytfnjoinkfghalaa
open Go.RowKit

theorem BoxP.curs {w w' : World} {B K : Nat} {x : Prf} (h : BoxP w K x) (ht : Touch w w' (Span B (B + 1))) (hK : B ≠ K) : BoxP w' K x := by
  have k : ∀ o, w'.cell? ⟨K, o, none⟩ = w.cell? ⟨K, o, none⟩ := fun o => ht.cell h.lt (fun hs => by have h1 := hs.1; have h2 := hs.2; omega)
  exact ⟨(k 0).trans h.c0, (k 1).trans h.c1, (k 2).trans h.c2, (k 3).trans h.c3, (k 4).trans h.c4, fun j => (ht.frozen h.lt (fun hs => by have h1 := hs.1; have h2 := hs.2; omega)).trans (h.fr j), Nat.lt_of_lt_of_le h.lt ht.size⟩
theorem BoxP.of {w : World} {r c k t : Int} {g : Bool} {T : TypeId} : BoxP (w.alloc (.cells #[.int .i64 r, .int .i64 c, .int .i64 k, .int .i64 t, .bool g] T)) w.heap.size ⟨r, c, k, t, g⟩ := ⟨by go_simp, by go_simp, by go_simp, by go_simp, by go_simp, fun j => by go_simp, by simp⟩
theorem BoxP.other {w : World} {B C o : Nat} {m : Prf} (h : BoxP w B m) (hne : C ≠ B) {u : Value} : BoxP (w.setCell ⟨C, o, none⟩ u) B m := by
  have k : ∀ j, (w.setCell ⟨C, o, none⟩ u).cell? ⟨B, j, none⟩ = w.cell? ⟨B, j, none⟩ := fun j => World.cell?_setCell_other _ _ _ _ (fun e => hne (by injection e))
  exact ⟨(k 0).trans h.c0, (k 1).trans h.c1, (k 2).trans h.c2, (k 3).trans h.c3, (k 4).trans h.c4, fun j => by simp only [World.frozen?_setCell]; exact h.fr j, by simpa [World.setCell] using h.lt⟩
theorem BoxP.set0 {w : World} {B : Nat} {x : Prf} (h : BoxP w B x) (u : Int) : BoxP (w.setCell ⟨B, 0, none⟩ (.int .i64 u)) B ⟨u, x.code, x.kind, x.weight, x.against⟩ := ⟨set_at h.c0, (set_ne (by decide)).trans h.c1, (set_ne (by decide)).trans h.c2, (set_ne (by decide)).trans h.c3, (set_ne (by decide)).trans h.c4, fun j => by simp only [World.frozen?_setCell]; exact h.fr j, by simpa [World.setCell] using h.lt⟩
theorem BoxP.set1 {w : World} {B : Nat} {x : Prf} (h : BoxP w B x) (u : Int) : BoxP (w.setCell ⟨B, 1, none⟩ (.int .i64 u)) B ⟨x.runner, u, x.kind, x.weight, x.against⟩ := ⟨(set_ne (by decide)).trans h.c0, set_at h.c1, (set_ne (by decide)).trans h.c2, (set_ne (by decide)).trans h.c3, (set_ne (by decide)).trans h.c4, fun j => by simp only [World.frozen?_setCell]; exact h.fr j, by simpa [World.setCell] using h.lt⟩
theorem BoxP.set2 {w : World} {B : Nat} {x : Prf} (h : BoxP w B x) (u : Int) : BoxP (w.setCell ⟨B, 2, none⟩ (.int .i64 u)) B ⟨x.runner, x.code, u, x.weight, x.against⟩ := ⟨(set_ne (by decide)).trans h.c0, (set_ne (by decide)).trans h.c1, set_at h.c2, (set_ne (by decide)).trans h.c3, (set_ne (by decide)).trans h.c4, fun j => by simp only [World.frozen?_setCell]; exact h.fr j, by simpa [World.setCell] using h.lt⟩
theorem BoxP.set3 {w : World} {B : Nat} {x : Prf} (h : BoxP w B x) (u : Int) : BoxP (w.setCell ⟨B, 3, none⟩ (.int .i64 u)) B ⟨x.runner, x.code, x.kind, u, x.against⟩ := ⟨(set_ne (by decide)).trans h.c0, (set_ne (by decide)).trans h.c1, (set_ne (by decide)).trans h.c2, set_at h.c3, (set_ne (by decide)).trans h.c4, fun j => by simp only [World.frozen?_setCell]; exact h.fr j, by simpa [World.setCell] using h.lt⟩

/-- bounds of a drawn proof -/
def prOk (x : Prf) : Prop := (0 ≤ x.runner ∧ x.runner ≤ 1000) ∧ (0 ≤ x.code ∧ x.code ≤ 100) ∧ (-1 ≤ x.kind ∧ x.kind ≤ 4) ∧ (0 ≤ x.weight ∧ x.weight ≤ 11)

set_option maxRecDepth 100000 in
set_option maxHeartbeats 4000000 in
theorem cu_proof {B n : Nat} {w : World} (h : Cu w B n) (hn : n ≤ 900000) :
    Calls Try.prog 86 #[.pointer (some ⟨B, 0, none⟩)] w fun e w' => ∃ x : Prf, e = .returned x.val ∧ prOk x ∧ Cu w' B (n + 7) ∧ Touch w w' (Span B (B + 1)) := by
  have hBl := h.lt
  have hx0 := (Ext.refl w).alloc (.cells #[.int .i64 0, .int .i64 0, .int .i64 0, .int .i64 0, .bool false] 45)
  have hR := BoxP.of (w := w) (r := 0) (c := 0) (k := 0) (t := 0) (g := false) (T := 45)
  have ha := fun T => cu_lit (T := T) (cs := #[.int .i64 1, .int .i64 1, .int .i64 7]) [1, 1, 7] 1 7 (h.ext hx0) (by omega) rfl (by decide) (by decide) (by decide)
  simp only [World.size_alloc] at ha
  have HA := Lib.hid ha
  have HR0 := Lib.hid hR; have HT0 := Lib.hid (Touch.of_ext (S := Span B (B + 1)) hx0)
  clear h hx0 hR ha
  go_enter Try.func86, Try.ntmps86
  go_wp2_with fail
  refine (HA.out _).mono ?_
  rintro e w1 ⟨r, rfl, hr, hc, ht⟩
  have hne : B ≠ w.heap.size := by omega
  have HC1 := Lib.hid hc; have HT1 := Lib.hid (HT0.out.trans ht); have HR1 := Lib.hid (HR0.out.curs ht hne)
  have hr0 := hr.1; have hr1 := hr.2
  clear hc ht hr HA HR0 HT0
  have HA2 := Lib.hid (fun T => cu_lit (T := T) (cs := #[.int .i64 31, .int .i64 44, .int .i64 44, .int .i64 99]) [31, 44, 44, 99] 31 99 HC1.out (by omega) rfl (by decide) (by decide) (by decide))
  go_wp2_with fail
  refine (HA2.out _).mono ?_
  rintro e w2 ⟨c, rfl, hc, hc, ht⟩
  have HC2 := Lib.hid hc; have HT2 := Lib.hid (HT1.out.trans ht)
  have HR2 := Lib.hid (HR1.out.curs ht hne)
  clear hc ht HC1 HT1 HA2 HR1
  have hc0 := hc.1; have hc1 := hc.2
  clear hc
  have HA3 := Lib.hid (cu_pick (N := 4) HC2.out (by omega) (by decide) (by decide))
  go_wp2_with fail
  refine HA3.out.mono ?_
  rintro e w3 ⟨k, rfl, hk, hc, ht⟩
  have HC3 := Lib.hid hc; have HT3 := Lib.hid (HT2.out.trans ht)
  have HR3 := Lib.hid (HR2.out.curs ht hne)
  clear hc ht HC2 HT2 HA3 HR2
  have hk0 := hk.1; have hk1 := hk.2
  clear hk
  have HA4 := Lib.hid (fun T => cu_lit (T := T) (cs := #[.int .i64 1, .int .i64 2, .int .i64 5, .int .i64 10]) [1, 2, 5, 10] 1 10 HC3.out (by omega) rfl (by decide) (by decide) (by decide))
  go_wp2_with fail
  refine (HA4.out _).mono ?_
  rintro e w4 ⟨t, rfl, ht, hc, ht⟩
  have HC4 := Lib.hid hc; have HT4 := Lib.hid (HT3.out.trans ht)
  have HR4 := Lib.hid (HR3.out.curs ht hne)
  clear hc ht HC3 HT3 HA4 HR3
  have ht0 := ht.1; have ht1 := ht.2
  clear ht
  have HA5 := Lib.hid (cu_one (N := 3) HC4.out (by omega) (by decide) (by decide))
  go_wp2_with fail
  refine HA5.out.mono ?_
  rintro e w5 ⟨g, rfl, hc, ht⟩
  have HC5 := Lib.hid hc; have HT5 := Lib.hid (HT4.out.trans ht)
  have HR5 := Lib.hid (HR4.out.curs ht hne)
  clear hc ht HC4 HT4 HA5 HR4
  have hX := HT5.out.size
  have hne2 : B ≠ w5.heap.size := by omega
  have hRX : w.heap.size ≠ w5.heap.size := by have := HR5.out.lt; omega
  have HC6 := Lib.hid (HC5.out.ext ((Ext.refl w5).alloc (.cells #[.int .i64 r, .int .i64 c, .int .i64 k, .int .i64 t, .bool g] 45))); have HT6 := Lib.hid (HT5.out.trans (Touch.of_ext ((Ext.refl w5).alloc (.cells #[.int .i64 r, .int .i64 c, .int .i64 k, .int .i64 t, .bool g] 45)))); have HR6 := Lib.hid (HR5.out.ext ((Ext.refl w5).alloc (.cells #[.int .i64 r, .int .i64 c, .int .i64 k, .int .i64 t, .bool g] 45)))
  have HP6 := Lib.hid (BoxP.of (w := w5) (r := r) (c := c) (k := k) (t := t) (g := g) (T := 45))
  clear HC5 HT5 HR5
  have HA7 := Lib.hid (cu_pick (N := 70) HC6.out (by omega) (by decide) (by decide))
  go_wp2_with fail
  refine HA7.out.mono ?_
  rintro e w7 ⟨y, rfl, hy, hc, ht⟩
  have HC7 := Lib.hid hc; have HT7 := Lib.hid (HT6.out.trans ht)
  have HR7 := Lib.hid (HR6.out.curs ht hne)
  have HP7 := Lib.hid (HP6.out.curs ht hne2)
  clear hc ht HC6 HT6 HA7 HR6 HP6
  have hy0 := hy.1; have hy1 := hy.2
  clear hy
  have HOK := Lib.hid (show prOk ⟨r, c, k, t, g⟩ from ⟨⟨by show 0 ≤ r; omega, by show r ≤ 1000; omega⟩, ⟨by show 0 ≤ c; omega, by show c ≤ 100; omega⟩, ⟨by show -1 ≤ k; omega, by show k ≤ 4; omega⟩, by show 0 ≤ t; omega, by show t ≤ 11; omega⟩)
  have hXn : w.heap.size ≤ w5.heap.size := hX
  generalize w5.heap.size = X at *
  go_upto_block 0 with fail
  go_cut [] (fun wc => ∃ x : Prf, prOk x ∧ BoxP wc X x ∧ BoxP wc w.heap.size ⟨0, 0, 0, 0, false⟩ ∧ Cu wc B (n + 7) ∧ Touch w wc (Span B (B + 1)))
  case first =>
    by_cases h0 : y = 0
    · subst h0
      have HA := Lib.hid (fun T => cu_lit (T := T) (cs := #[.int .i64 0, .int .i64 1000]) [0, 1000] 0 1000 HC7.out (by omega) rfl (by decide) (by decide) (by decide))
      go_wp2_with fail
      refine (HA.out _).mono ?_; rintro e w8 ⟨v, rfl, hv, hc, ht⟩
      have hP8 := HP7.out.curs ht hne2; have HR8 := Lib.hid (HR7.out.curs ht hne); have q0 := hP8.c0; have f0 := hP8.fr 0
      have HP8 := Lib.hid hP8; have HC8 := Lib.hid hc; have HT8 := Lib.hid (HT7.out.trans ht); have HV := Lib.hid hv
      clear hP8 hc ht hv
      go_wp2_with fail
      go_meet
      exact ⟨⟨v, c, k, t, g⟩, ⟨⟨by show _ ≤ v; have := HV.out.1; omega, by show v ≤ _; have := HV.out.2; omega⟩, HOK.out.2.1, HOK.out.2.2.1, HOK.out.2.2.2⟩, HP8.out.set0 v, HR8.out.other (by omega), HC8.out.below (base := B + 1) ((Below.refl _ _).setCell (by show B + 1 ≤ X; omega) _) (Nat.lt_succ_self _), HT8.out.below ((Below.refl _ _).setCell (by show w.heap.size ≤ X; omega) _)⟩
    · skip
      by_cases h1 : y = 1
      · subst h1
        have HA := Lib.hid (fun T => cu_lit (T := T) (cs := #[.int .i64 30, .int .i64 100]) [30, 100] 30 100 HC7.out (by omega) rfl (by decide) (by decide) (by decide))
        go_wp2_with fail
        refine (HA.out _).mono ?_; rintro e w8 ⟨v, rfl, hv, hc, ht⟩
        have hP8 := HP7.out.curs ht hne2; have HR8 := Lib.hid (HR7.out.curs ht hne); have q0 := hP8.c1; have f0 := hP8.fr 1
        have HP8 := Lib.hid hP8; have HC8 := Lib.hid hc; have HT8 := Lib.hid (HT7.out.trans ht); have HV := Lib.hid hv
        clear hP8 hc ht hv
        go_wp2_with fail
        go_meet
        exact ⟨⟨r, v, k, t, g⟩, ⟨HOK.out.1, ⟨by show _ ≤ v; have := HV.out.1; omega, by show v ≤ _; have := HV.out.2; omega⟩, HOK.out.2.2.1, HOK.out.2.2.2⟩, HP8.out.set1 v, HR8.out.other (by omega), HC8.out.below (base := B + 1) ((Below.refl _ _).setCell (by show B + 1 ≤ X; omega) _) (Nat.lt_succ_self _), HT8.out.below ((Below.refl _ _).setCell (by show w.heap.size ≤ X; omega) _)⟩
      · skip
        by_cases h2 : y = 2
        · subst h2
          have HA := Lib.hid (fun T => cu_lit (T := T) (cs := #[.int .i64 (-1), .int .i64 4]) [-1, 4] (-1) 4 HC7.out (by omega) rfl (by decide) (by decide) (by decide))
          go_wp2_with fail
          refine (HA.out _).mono ?_; rintro e w8 ⟨v, rfl, hv, hc, ht⟩
          have hP8 := HP7.out.curs ht hne2; have HR8 := Lib.hid (HR7.out.curs ht hne); have q0 := hP8.c2; have f0 := hP8.fr 2
          have HP8 := Lib.hid hP8; have HC8 := Lib.hid hc; have HT8 := Lib.hid (HT7.out.trans ht); have HV := Lib.hid hv
          clear hP8 hc ht hv
          go_wp2_with fail
          go_meet
          exact ⟨⟨r, c, v, t, g⟩, ⟨HOK.out.1, HOK.out.2.1, ⟨by show _ ≤ v; have := HV.out.1; omega, by show v ≤ _; have := HV.out.2; omega⟩, HOK.out.2.2.2⟩, HP8.out.set2 v, HR8.out.other (by omega), HC8.out.below (base := B + 1) ((Below.refl _ _).setCell (by show B + 1 ≤ X; omega) _) (Nat.lt_succ_self _), HT8.out.below ((Below.refl _ _).setCell (by show w.heap.size ≤ X; omega) _)⟩
        · skip
          by_cases h3 : y = 3
          · subst h3
            have HA := Lib.hid (fun T => cu_lit (T := T) (cs := #[.int .i64 0, .int .i64 11]) [0, 11] 0 11 HC7.out (by omega) rfl (by decide) (by decide) (by decide))
            go_wp2_with fail
            refine (HA.out _).mono ?_; rintro e w8 ⟨v, rfl, hv, hc, ht⟩
            have hP8 := HP7.out.curs ht hne2; have HR8 := Lib.hid (HR7.out.curs ht hne); have q0 := hP8.c3; have f0 := hP8.fr 3
            have HP8 := Lib.hid hP8; have HC8 := Lib.hid hc; have HT8 := Lib.hid (HT7.out.trans ht); have HV := Lib.hid hv
            clear hP8 hc ht hv
            go_wp2_with fail
            go_meet
            exact ⟨⟨r, c, k, v, g⟩, ⟨HOK.out.1, HOK.out.2.1, HOK.out.2.2.1, ⟨by show _ ≤ v; have := HV.out.1; omega, by show v ≤ _; have := HV.out.2; omega⟩⟩, HP8.out.set3 v, HR8.out.other (by omega), HC8.out.below (base := B + 1) ((Below.refl _ _).setCell (by show B + 1 ≤ X; omega) _) (Nat.lt_succ_self _), HT8.out.below ((Below.refl _ _).setCell (by show w.heap.size ≤ X; omega) _)⟩
          · skip
            go_wp2_with fail
            go_meet
            exact ⟨_, HOK.out, HP7.out, HR7.out, HC7.out.mono (by omega), HT7.out⟩
  case rest =>
    obtain ⟨x, hok, hP, hR, hC, hT⟩ := hcut
    obtain ⟨p0, p1, p2, p3, p4, pf, pl⟩ := hP
    have HR := Lib.hid hR; have HC := Lib.hid hC; have HT := Lib.hid hT; have HK := Lib.hid hok
    obtain ⟨r0, r1, r2, r3, r4, rf, rl⟩ := hR
    have f0 := rf 0; have f1 := rf 1; have f2 := rf 2; have f3 := rf 3; have f4 := rf 4
    clear hok hC hT HC7 HT7 HR7 HP7 HOK rf pf
    go_wp2
    refine bodyPost_ret (v := .agg #[.int .i64 x.runner, .int .i64 x.code, .int .i64 x.kind, .int .i64 x.weight, .bool x.against]) ?_ rfl ?_
    · simp [results, Try.results86, go_sem, cell_put, r0, r1, r2, r3, r4]
    · refine ⟨x, rfl, HK.out, ?_, ?_⟩
      · exact HC.out.below (base := w.heap.size) ((((((Below.refl _ _).setCell (by exact Nat.le_refl _) _).setCell (by exact Nat.le_refl _) _).setCell (by exact Nat.le_refl _) _).setCell (by exact Nat.le_refl _) _).setCell (by exact Nat.le_refl _) _) hBl
      · exact HT.out.below ((((((Below.refl _ _).setCell (by exact Nat.le_refl _) _).setCell (by exact Nat.le_refl _) _).setCell (by exact Nat.le_refl _) _).setCell (by exact Nat.le_refl _) _).setCell (by exact Nat.le_refl _) _)

theorem cu_cut {B n A L cap : Nat} {x : World} (xs : List Int) (lo hi : Int) (hc : Cu x B n) (hn : n ≤ 1000000) (hr : RowAt x (some ⟨A, 0, none⟩) 1 xs.length (ic xs)) (hA : B < A) (hb : ∀ i, i < xs.length → lo ≤ nth xs i ∧ nth xs i ≤ hi) (h1 : 1 ≤ L) (h2 : L ≤ xs.length) (h3 : xs.length ≤ 200) :
    Calls Try.prog 81 #[.pointer (some ⟨B, 0, none⟩), .slice (some ⟨A, 0, none⟩) L cap] x fun e w' => ∃ y : Int, e = .returned (.int .i64 y) ∧ (lo ≤ y ∧ y ≤ hi) ∧ Cu w' B (n + 1) ∧ Touch x w' (Span B (B + 1)) := by
  have e : (xs.take L).length = L := by simp; omega
  have hA' : ∀ a : Addr, some ⟨A, 0, none⟩ = some a → B < a.block := fun a e => by injection e with e; rw [← e]; exact hA
  have hat : ∀ i, i < L → nth (xs.take L) i = nth xs i := fun i hi => by simp only [nth, List.getD]; rw [List.getElem?_take_of_lt hi]
  have := cu_among (cap := cap) (xs := xs.take L) (ao := some ⟨A, 0, none⟩) hc hn (by
    intro h0
    obtain ⟨b, off, e2, H⟩ := hr (by omega)
    refine ⟨b, off, e2, fun k hk j hj => ?_⟩
    rw [e] at hk
    have := H k (by omega) j hj
    rw [this]
    simp only [ic]
    rw [hat k hk]) (by omega) (by omega) hA'
  rw [e] at this
  refine this.mono ?_
  rintro e w' ⟨i, hi', rfl, hc, ht⟩
  rw [hat i hi']
  exact ⟨nth xs i, rfl, hb i (by omega), hc, ht⟩
theorem RowAt.curs {w w' : World} {B A n : Nat} {c : Nat → Nat → Value} (h : RowAt w (some ⟨A, 0, none⟩) 1 n c) (ht : Touch w w' (Span B (B + 1))) (hA : B < A) : RowAt w' (some ⟨A, 0, none⟩) 1 n c := fun hn => by
  obtain ⟨b, off, e, H⟩ := h hn
  injection e with e; injection e with e1 e2; subst e1 e2
  have hl := World.block_lt_of_cell? _ _ (H 0 hn 0 (by decide))
  exact ⟨_, _, rfl, fun k hk j hj => (ht.cell hl (fun hs => by have h2 : A < B + 1 := hs.2; omega)).trans (H k hk j hj)⟩

set_option maxRecDepth 100000 in
set_option maxHeartbeats 2000000 in
theorem cu_runner14 {B n : Nat} {w : World} (h : Cu w B n) (hn : n ≤ 900000) :
    Calls Try.prog 64 #[.pointer (some ⟨B, 0, none⟩)] w fun e w' => ∃ x : Int, e = .returned (.int .i64 x) ∧ (0 ≤ x ∧ x ≤ 1000) ∧ Cu w' B (n + 2) ∧ Touch w w' (Span B (B + 1)) := by
  have hBl := h.lt
  have hx0 := fun T => (Ext.refl w).alloc (.cells #[.int .i64 1, .int .i64 1, .int .i64 1, .int .i64 7, .int .i64 999, .int .i64 0, .int .i64 1000] T)
  have hr0 := fun T => lit_ints (w := w) (T := T) (cs := #[.int .i64 1, .int .i64 1, .int .i64 1, .int .i64 7, .int .i64 999, .int .i64 0, .int .i64 1000]) [1, 1, 1, 7, 999, 0, 1000] rfl
  have HP := Lib.hid (fun T => cu_pick (N := 24) (h.ext (hx0 T)) (by omega) (by decide) (by decide))
  have HX0 := Lib.hid hx0; have HR0 := Lib.hid hr0
  clear h hx0 hr0
  go_enter Try.func64, Try.ntmps64
  go_wp2_with fail
  refine (HP.out _).mono ?_; rintro e w1 ⟨y, rfl, hy, hc, ht⟩
  have HC1 := Lib.hid hc; have HT1 := Lib.hid ((Touch.of_ext (HX0.out _)).trans ht)
  have HR1 := Lib.hid ((HR0.out _).curs ht hBl)
  have h3 : y / 11 = 0 ∨ y / 11 = 1 ∨ y / 11 = 2 := by omega
  have hy0 := hy.1
  clear hc ht HX0 HR0 HP hy
  rcases h3 with h3 | h3 | h3
  all_goals
    go_wp2_with fail
    refine (cu_cut [1, 1, 1, 7, 999, 0, 1000] 0 1000 HC1.out (by omega) HR1.out hBl (by decide) (by decide) (by decide) (by decide)).mono ?_
    rintro e w2 ⟨x, rfl, hx, hc, ht⟩
    have HC2 := Lib.hid hc; have HT2 := Lib.hid (HT1.out.trans ht); have HX := Lib.hid hx
    clear hc ht hx h3
    go_wp2
    go_ret
    exact ⟨x, rfl, HX.out, HC2.out, HT2.out⟩

set_option maxRecDepth 100000 in
set_option maxHeartbeats 2000000 in
theorem cu_code14 {B n : Nat} {w : World} (h : Cu w B n) (hn : n ≤ 900000) :
    Calls Try.prog 76 #[.pointer (some ⟨B, 0, none⟩)] w fun e w' => ∃ x : Int, e = .returned (.int .i64 x) ∧ (30 ≤ x ∧ x ≤ 100) ∧ Cu w' B (n + 2) ∧ Touch w w' (Span B (B + 1)) := by
  have hBl := h.lt
  have hx0 := fun T => (Ext.refl w).alloc (.cells #[.int .i64 44, .int .i64 44, .int .i64 31, .int .i64 99, .int .i64 60, .int .i64 30, .int .i64 100] T)
  have hr0 := fun T => lit_ints (w := w) (T := T) (cs := #[.int .i64 44, .int .i64 44, .int .i64 31, .int .i64 99, .int .i64 60, .int .i64 30, .int .i64 100]) [44, 44, 31, 99, 60, 30, 100] rfl
  have HP := Lib.hid (fun T => cu_pick (N := 24) (h.ext (hx0 T)) (by omega) (by decide) (by decide))
  have HX0 := Lib.hid hx0; have HR0 := Lib.hid hr0
  clear h hx0 hr0
  go_enter Try.func76, Try.ntmps76
  go_wp2_with fail
  refine (HP.out _).mono ?_; rintro e w1 ⟨y, rfl, hy, hc, ht⟩
  have HC1 := Lib.hid hc; have HT1 := Lib.hid ((Touch.of_ext (HX0.out _)).trans ht)
  have HR1 := Lib.hid ((HR0.out _).curs ht hBl)
  have h3 : y / 11 = 0 ∨ y / 11 = 1 ∨ y / 11 = 2 := by omega
  have hy0 := hy.1
  clear hc ht HX0 HR0 HP hy
  rcases h3 with h3 | h3 | h3
  all_goals
    go_wp2_with fail
    refine (cu_cut [44, 44, 31, 99, 60, 30, 100] 30 100 HC1.out (by omega) HR1.out hBl (by decide) (by decide) (by decide) (by decide)).mono ?_
    rintro e w2 ⟨x, rfl, hx, hc, ht⟩
    have HC2 := Lib.hid hc; have HT2 := Lib.hid (HT1.out.trans ht); have HX := Lib.hid hx
    clear hc ht hx h3
    go_wp2
    go_ret
    exact ⟨x, rfl, HX.out, HC2.out, HT2.out⟩

set_option maxRecDepth 100000 in
set_option maxHeartbeats 2000000 in
theorem cu_limit14 {B n : Nat} {w : World} (h : Cu w B n) (hn : n ≤ 900000) :
    Calls Try.prog 65 #[.pointer (some ⟨B, 0, none⟩)] w fun e w' => ∃ x : Int, e = .returned (.int .i64 x) ∧ (0 ≤ x ∧ x ≤ 21) ∧ Cu w' B (n + 2) ∧ Touch w w' (Span B (B + 1)) := by
  have hBl := h.lt
  have hx0 := fun T => (Ext.refl w).alloc (.cells #[.int .i64 1, .int .i64 3, .int .i64 5, .int .i64 10, .int .i64 20, .int .i64 0, .int .i64 21] T)
  have hr0 := fun T => lit_ints (w := w) (T := T) (cs := #[.int .i64 1, .int .i64 3, .int .i64 5, .int .i64 10, .int .i64 20, .int .i64 0, .int .i64 21]) [1, 3, 5, 10, 20, 0, 21] rfl
  have HP := Lib.hid (fun T => cu_pick (N := 24) (h.ext (hx0 T)) (by omega) (by decide) (by decide))
  have HX0 := Lib.hid hx0; have HR0 := Lib.hid hr0
  clear h hx0 hr0
  go_enter Try.func65, Try.ntmps65
  go_wp2_with fail
  refine (HP.out _).mono ?_; rintro e w1 ⟨y, rfl, hy, hc, ht⟩
  have HC1 := Lib.hid hc; have HT1 := Lib.hid ((Touch.of_ext (HX0.out _)).trans ht)
  have HR1 := Lib.hid ((HR0.out _).curs ht hBl)
  have h3 : y / 11 = 0 ∨ y / 11 = 1 ∨ y / 11 = 2 := by omega
  have hy0 := hy.1
  clear hc ht HX0 HR0 HP hy
  rcases h3 with h3 | h3 | h3
  all_goals
    go_wp2_with fail
    refine (cu_cut [1, 3, 5, 10, 20, 0, 21] 0 21 HC1.out (by omega) HR1.out hBl (by decide) (by decide) (by decide) (by decide)).mono ?_
    rintro e w2 ⟨x, rfl, hx, hc, ht⟩
    have HC2 := Lib.hid hc; have HT2 := Lib.hid (HT1.out.trans ht); have HX := Lib.hid hx
    clear hc ht hx h3
    go_wp2
    go_ret
    exact ⟨x, rfl, HX.out, HC2.out, HT2.out⟩

theorem pr_cells : ∀ (x : Prf) (j : Nat), j < 5 → (x.c j).oneCell' = true := by
  intro x j hj
  rcases j with _ | _ | _ | _ | _ | j <;> first | rfl | omega
def prsOk (xs : List Prf) : Prop := ∀ k, k < xs.length → prOk (nth xs k)
theorem prsOk.snoc {ms : List Prf} {m : Prf} (h : prsOk ms) (hm : prOk m) : prsOk (ms ++ [m]) := by
  intro k hk
  by_cases e : k < ms.length
  · have : nth (ms ++ [m]) k = nth ms k := by simp only [nth, List.getD]; rw [List.getElem?_append_left e]
    rw [this]; exact h k e
  · have hk' : k = ms.length := by simp at hk; omega
    subst hk'
    have : nth (ms ++ [m]) ms.length = m := by simp [nth]
    rw [this]; exact hm
/-- drawn proofs, in new memory -/
def DrawnPrfs (B0 : Nat) (w' : World) (xs : List Prf) (ao : Option Addr) (cap : Nat) : Prop := xs.length ≤ 13 ∧ prsOk xs ∧ (ao = none → cap = 0) ∧ FreshAt B0 w' ao 5 xs.length (fun k => (nth xs k).c)
theorem DrawnPrfs.of {B0 : Nat} {w : World} {xs : List Prf} {go : Option Addr} {gc : Nat} (h : Owns w B0 45 5 Prf.c (.slice go xs.length gc) xs) (hl : xs.length ≤ 13) (hok : prsOk xs) : DrawnPrfs B0 w xs go gc := by
  obtain ⟨go2, gc2, e2, hF, hn, _⟩ := h.fresh
  injection e2 with e2 e3 e4
  subst e2 e4
  exact ⟨hl, hok, hn, hF⟩
theorem DrawnPrfs.mono {B0 B1 : Nat} {w : World} {xs : List Prf} {ao : Option Addr} {cap : Nat} (h : DrawnPrfs B0 w xs ao cap) (hB : B1 ≤ B0) : DrawnPrfs B1 w xs ao cap := ⟨h.1, h.2.1, h.2.2.1, h.2.2.2.mono hB⟩
theorem DrawnPrfs.ext {B0 : Nat} {w w' : World} {xs : List Prf} {ao : Option Addr} {cap : Nat} (h : DrawnPrfs B0 w xs ao cap) (hx : Ext w w') : DrawnPrfs B0 w' xs ao cap := ⟨h.1, h.2.1, h.2.2.1, h.2.2.2.ext hx⟩
theorem DrawnPrfs.curs {B0 B : Nat} {w w' : World} {xs : List Prf} {ao : Option Addr} {cap : Nat} (h : DrawnPrfs B0 w xs ao cap) (ht : Touch w w' (Span B (B + 1))) (hB : B < B0) : DrawnPrfs B0 w' xs ao cap :=
  ⟨h.1, h.2.1, h.2.2.1, h.2.2.2.touch ht (fun a e hs => by have h1 := (h.2.2.2.base a e).1; have h2 := hs.2; omega)⟩

set_option maxRecDepth 100000 in
set_option maxHeartbeats 4000000 in
theorem cu_proofs {B n : Nat} {w : World} (h : Cu w B n) (hn : n ≤ 800000) :
    Calls Try.prog 63 #[.pointer (some ⟨B, 0, none⟩)] w fun e w' => ∃ (ao : Option Addr) (cap : Nat) (xs : List Prf), e = .returned (.slice ao xs.length cap) ∧ DrawnPrfs w.heap.size w' xs ao cap ∧ Cu w' B (n + 100) ∧ Touch w w' (Span B (B + 1)) := by
  obtain ⟨i0, hi, hz0, hz1, hz2⟩ := info_parts infoPrf
  have hBl := h.lt
  have hx0 := ((Ext.refl w).alloc (.cells #[] 45))
  have HA := Lib.hid (cu_pick (N := 9) (h.ext hx0) (by omega) (by decide) (by decide))
  have hstart := Lib.hid (Owns.start' (e := 45) (s := 5) (cc := Prf.c) (Nat.le_refl w.heap.size))
  have HX0 := Lib.hid hx0
  clear h hx0
  go_enter Try.func63, Try.ntmps63
  go_wp2_with fail
  refine HA.out.mono ?_; rintro e w1 ⟨x, rfl, hx, hc, ht⟩
  obtain ⟨q, rfl⟩ := Int.eq_ofNat_of_zero_le hx.1
  have hq : q < 9 := by have := hx.2; omega
  have HO1 := Lib.hid (hstart.out.cur ht hBl)
  have HT1 := Lib.hid ((Touch.of_ext HX0.out).trans ht)
  have HC1 := Lib.hid hc
  clear hc ht hstart HX0 HA hx
  go_wp2
  go_loopw [3, 4] (fun l v wr => ∃ (xs : List Prf) (j : Nat) (go : Option Addr) (gc : Nat), j + xs.length = q ∧ v = .int .i64 j ∧ l = .slice go xs.length gc ∧ prsOk xs ∧ Owns wr w.heap.size 45 5 Prf.c (.slice go xs.length gc) xs ∧ Cu wr B (n + 1 + 7 * xs.length) ∧ Touch w wr (Span B (B + 1))) (fun _ v _ => (intOf v).toNat)
  case atStart => exact ⟨[], q, _, _, by simp, rfl, rfl, fun k hk => by simp at hk, HO1.out, HC1.out, HT1.out⟩
  case round =>
    obtain ⟨xs, j, go, gc, hj, rfl, rfl, hok, hown, hc, hT⟩ := hrel
    have HO := Lib.hid hown; have HC := Lib.hid hc; have HT := Lib.hid hT; have HK := Lib.hid hok
    have hml : xs.length ≤ 8 := by omega
    clear hown hc hT hok HO1 HC1 HT1
    by_cases hj0 : 0 < j
    · have hj0' : (0 : Int) < (j : Int) := by omega
      have HP := Lib.hid (cu_proof HC.out (by omega))
      go_wp2_with fail
      refine HP.out.mono ?_; rintro e w4 ⟨⟨r, c, k, t, g⟩, rfl, hpo, hc, ht⟩
      unfold Prf.val
      have HO := Lib.hid (HO.out.cur ht hBl)
      have HT := Lib.hid (HT.out.trans ht)
      have HC := Lib.hid hc
      have HPO := Lib.hid hpo
      clear hc ht hpo HP
      have hrow2 := fun x => row_lit (w := x) (cs := #[.int .i64 r, .int .i64 c, .int .i64 k, .int .i64 t, .bool g]) (T := 45) (s := 5) (cc := Prf.c) (x := ⟨r, c, k, t, g⟩) (by intro j hj; rcases j with _ | _ | _ | _ | _ | j <;> first | rfl | omega)
      go_wp2_with (at_builtin; refine wpList_append_bf rfl _ _ 27 rfl 45 i0 _ 5 40 Try.underlying27 hi hz0 hz1 hz2 rfl (by decide) Prf.c pr_cells w.heap.size (Nat.le_trans HT.out.size (by simp)) _ xs [(⟨r, c, k, t, g⟩ : Prf)] (xs ++ [(⟨r, c, k, t, g⟩ : Prf)]) (Lib.hid rfl) rfl (HO.out.ext' ((Ext.refl _).alloc _)) ⟨w4.heap.size, 0, none⟩ 1 1 rfl rfl (hrow2 _) (by simp; omega) (by simp; omega) ?_; intro go1 gc1 w5 ho4 hb4 _ _; have HO5 := Lib.hid ho4; have HC5 := Lib.hid ((HC.out.ext ((Ext.refl w4).alloc (.cells #[.int .i64 r, .int .i64 c, .int .i64 k, .int .i64 t, .bool g] 45))).below hb4 hBl); have HT5 := Lib.hid ((HT.out.trans (Touch.of_ext ((Ext.refl w4).alloc (.cells #[.int .i64 r, .int .i64 c, .int .i64 k, .int .i64 t, .bool g] 45)))).below hb4); clear ho4 hb4 HO HC HT hrow2)
      go_wp2
      go_roundw
      case rel => exact ⟨xs ++ [⟨r, c, k, t, g⟩], j - 1, go1, gc1, by simp; omega, by go_num, by rw [List.length_append]; rfl, HK.out.snoc HPO.out, HO5.out, HC5.out.mono (by simp; omega), HT5.out⟩
      case measure => simp [intOf] <;> omega
    · obtain rfl : j = 0 := by omega
      have HP := Lib.hid (cu_one (N := 24) HC.out (by omega) (by decide) (by decide))
      go_wp2_with fail
      refine HP.out.mono ?_; rintro e w2 ⟨y, rfl, hc2, ht2⟩
      have HO2 := Lib.hid (HO.out.cur ht2 hBl); have HC2 := Lib.hid hc2; have HT2 := Lib.hid (HT.out.trans ht2)
      clear hc2 ht2 HO HC HT HP
      cases y
      · go_wp2
        go_ret
        exact ⟨go, gc, xs, rfl, DrawnPrfs.of HO2.out (by omega) HK.out, HC2.out.mono (by omega), HT2.out⟩
      · go_wp2
        go_loopw [3] (fun l wr => ∃ (xs : List Prf) (go : Option Addr) (gc : Nat), l = .slice go xs.length gc ∧ xs.length ≤ 13 ∧ prsOk xs ∧ Owns wr w.heap.size 45 5 Prf.c (.slice go xs.length gc) xs ∧ Cu wr B (n + 60 + xs.length) ∧ Touch w wr (Span B (B + 1))) (fun l _ => 13 - slLen l)
        case atStart => exact ⟨xs, go, gc, rfl, by omega, HK.out, HO2.out, HC2.out.mono (by omega), HT2.out⟩
        case round =>
          clear HK HO2 HC2 HT2 hml hj
          obtain ⟨xs, go, gc, rfl, hl, hok, hown, hc, hT⟩ := hrel
          have HO := Lib.hid hown; have HC := Lib.hid hc; have HT := Lib.hid hT; have HK := Lib.hid hok
          clear hown hc hT hok
          have HP := Lib.hid (cu_pick (N := 2) HC.out (by omega) (by decide) (by decide))
          go_wp2_with fail
          refine HP.out.mono ?_; rintro e w4 ⟨p, rfl, hp, hc, ht⟩
          obtain ⟨p, rfl⟩ := Int.eq_ofNat_of_zero_le hp.1
          have hp2 : p < 2 := by have := hp.2; omega
          have HO := Lib.hid (HO.out.cur ht hBl)
          have HT := Lib.hid (HT.out.trans ht)
          have HC := Lib.hid hc
          clear hc ht HP hp
          by_cases hlt : xs.length < 12 + p
          · have hlt' : (xs.length : Int) < 12 + (p : Int) := by omega
            have hrow2 := fun x => row_lit (w := x) (cs := #[.int .i64 3, .int .i64 50, .int .i64 0, .int .i64 1, .bool false]) (T := 45) (s := 5) (cc := Prf.c) (x := ⟨3, 50, 0, 1, false⟩) (by intro j hj; rcases j with _ | _ | _ | _ | _ | j <;> first | rfl | omega)
            go_wp2_with (at_builtin; refine wpList_append_bf rfl _ _ 27 rfl 45 i0 _ 5 40 Try.underlying27 hi hz0 hz1 hz2 rfl (by decide) Prf.c pr_cells w.heap.size (Nat.le_trans HT.out.size (by simp)) _ xs [(⟨3, 50, 0, 1, false⟩ : Prf)] (xs ++ [(⟨3, 50, 0, 1, false⟩ : Prf)]) (Lib.hid rfl) rfl (HO.out.ext' ((Ext.refl _).alloc _)) ⟨w4.heap.size, 0, none⟩ 1 1 rfl rfl (hrow2 _) (by simp; omega) (by simp; omega) ?_; intro go1 gc1 w5 ho4 hb4 _ _; have HO5 := Lib.hid ho4; have HC5 := Lib.hid ((HC.out.ext ((Ext.refl w4).alloc (.cells #[.int .i64 3, .int .i64 50, .int .i64 0, .int .i64 1, .bool false] 45))).below hb4 hBl); have HT5 := Lib.hid ((HT.out.trans (Touch.of_ext ((Ext.refl w4).alloc (.cells #[.int .i64 3, .int .i64 50, .int .i64 0, .int .i64 1, .bool false] 45)))).below hb4); clear ho4 hb4 HO HC HT hrow2)
            go_wp2
            go_roundw
            case rel => exact ⟨xs ++ [⟨3, 50, 0, 1, false⟩], go1, gc1, by rw [List.length_append]; rfl, by simp; omega, HK.out.snoc ⟨by decide, by decide, by decide, by decide⟩, HO5.out, HC5.out.mono (by simp; omega), HT5.out⟩
            case measure => simp [slLen] <;> omega
          · have hlt' : ¬ (xs.length : Int) < 12 + (p : Int) := by omega
            go_wp2
            go_ret
            exact ⟨go, gc, xs, rfl, DrawnPrfs.of HO.out hl HK.out, HC.out.mono (by omega), HT.out⟩

end Go.Proofs.Ytfnjoinkfghalaa
