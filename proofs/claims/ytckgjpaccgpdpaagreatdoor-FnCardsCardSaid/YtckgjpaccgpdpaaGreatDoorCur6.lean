/-
  Proved here: the cursor's card.
  Conditions: the cursor lies in one block; counts are small; the codes are few.
-/
import Derived.Test.YtckgjpaccgpdpaaGreatDoorCurL
import Derived.Test.YtckgjpaccgpdpaaGreatDoorCards9
import Derived.Deep.RegionWith
import Derived.Deep.RegionLaw
import Derived.Deep.DrawnRows
import Derived.Deep.DeepCutAuto
import Derived.Deep.CutBlock
namespace Go.Proofs.YtckgjpaccgpdpaaGreatDoor
open Go.RowKit

theorem Box4.put0 {w : World} {B : Nat} {a b c d : Value} (h : Box4 w B a b c d) (u : Value) : Box4 (w.setCell ⟨B, 0, none⟩ u) B u b c d := by
  have k : ∀ o, o ≠ 0 → (w.setCell ⟨B, 0, none⟩ u).cell? ⟨B, o, none⟩ = w.cell? ⟨B, o, none⟩ := fun o ho => World.cell?_setCell_other _ _ _ _ (fun e => ho (by injection e with _ e2; exact e2.symm))
  exact ⟨World.cell?_setCell_same _ _ _ h.c0, (k 1 (by decide)).trans h.c1, (k 2 (by decide)).trans h.c2, (k 3 (by decide)).trans h.c3⟩
theorem Box4.put1 {w : World} {B : Nat} {a b c d : Value} (h : Box4 w B a b c d) (u : Value) : Box4 (w.setCell ⟨B, 1, none⟩ u) B a u c d := by
  have k : ∀ o, o ≠ 1 → (w.setCell ⟨B, 1, none⟩ u).cell? ⟨B, o, none⟩ = w.cell? ⟨B, o, none⟩ := fun o ho => World.cell?_setCell_other _ _ _ _ (fun e => ho (by injection e with _ e2; exact e2.symm))
  exact ⟨(k 0 (by decide)).trans h.c0, World.cell?_setCell_same _ _ _ h.c1, (k 2 (by decide)).trans h.c2, (k 3 (by decide)).trans h.c3⟩
theorem Box4.put2 {w : World} {B : Nat} {a b c d : Value} (h : Box4 w B a b c d) (u : Value) : Box4 (w.setCell ⟨B, 2, none⟩ u) B a b u d := by
  have k : ∀ o, o ≠ 2 → (w.setCell ⟨B, 2, none⟩ u).cell? ⟨B, o, none⟩ = w.cell? ⟨B, o, none⟩ := fun o ho => World.cell?_setCell_other _ _ _ _ (fun e => ho (by injection e with _ e2; exact e2.symm))
  exact ⟨(k 0 (by decide)).trans h.c0, (k 1 (by decide)).trans h.c1, World.cell?_setCell_same _ _ _ h.c2, (k 3 (by decide)).trans h.c3⟩

theorem Res4.of_cells {w w' : World} {B : Nat} (h : Res4 w B) (hc : ∀ o, w'.cell? ⟨B, o, none⟩ = w.cell? ⟨B, o, none⟩) (hf : ∀ o, w'.frozen? ⟨B, o, none⟩ = w.frozen? ⟨B, o, none⟩) : Res4 w' B :=
  ⟨(hc 0).trans h.c0, (hc 1).trans h.c1, (hc 2).trans h.c2, (hc 3).trans h.c3, fun j => (hf j).trans (h.fz j)⟩
theorem Res4.below {w w' : World} {B base : Nat} (h : Res4 w B) (hb : Below base w w') (hB : B < base) : Res4 w' B :=
  h.of_cells (fun o => hb.cell (p := ⟨B, o, none⟩) hB) (fun o => hb.frozen (p := ⟨B, o, none⟩) hB)
theorem Touch.belowN {a b c : World} {S : Nat → Prop} {base : Nat} (h : Touch a b S) (hb : Below base b c) (hl : a.heap.size ≤ base) : Touch a c S := h.below (hb.mono hl)

/-- a card that is being drawn: its box, its punches, the cursor, the result's cells -/
structure CardIn (w0 wr : World) (B KB n : Nat) (num st fi : Int) (go : Option Addr) (gc : Nat) (ps : List Pch) : Prop where
  box : Box4 wr KB (.int .i64 num) (.int .i64 st) (.int .i64 fi) (.slice go ps.length gc)
  bfree : ∀ j, wr.frozen? ⟨KB, j, none⟩ = false
  own : Owns wr (w0.heap.size + 1) 35 2 Pch.c (.slice go ps.length gc) ps
  apart : (Value.slice go ps.length gc).ownBlock ≠ some KB
  cur : Cu wr B n
  lo : w0.heap.size + 1 ≤ KB
  hB : B < w0.heap.size
  touch : Touch w0 wr (Span B (B + 1))
  adr : ∃ b off, go = some ⟨b, off, none⟩
  res : Res4 wr w0.heap.size

section
variable {w0 wr w' : World} {B KB n n' : Nat} {num st fi : Int} {go : Option Addr} {gc : Nat} {ps : List Pch}
theorem CardIn.ext (h : CardIn w0 wr B KB n num st fi go gc ps) (hx : Ext wr w') : CardIn w0 w' B KB n num st fi go gc ps :=
  ⟨h.box.ext hx, fun j => (hx.frozenr _ _ h.box.lt).trans (h.bfree j), h.own.ext' hx, h.apart, h.cur.ext hx, h.lo, h.hB, h.touch.trans (Touch.of_ext hx), h.adr, h.res.ext hx⟩
theorem CardIn.curs (h : CardIn w0 wr B KB n num st fi go gc ps) (hc : Cu w' B n') (ht : Touch wr w' (Span B (B + 1))) : CardIn w0 w' B KB n' num st fi go gc ps := by
  have hne : ¬ Span B (B + 1) KB := fun hs => by have h1 := hs.2; have h2 := h.lo; have h3 := h.hB; omega
  have hnr : ¬ Span B (B + 1) w0.heap.size := fun hs => by have h1 := hs.2; have h3 := h.hB; omega
  have k : ∀ o, w'.cell? ⟨KB, o, none⟩ = wr.cell? ⟨KB, o, none⟩ := fun o => ht.cell h.box.lt hne
  exact ⟨⟨(k 0).trans h.box.c0, (k 1).trans h.box.c1, (k 2).trans h.box.c2, (k 3).trans h.box.c3⟩, fun j => (ht.frozen h.box.lt hne).trans (h.bfree j), h.own.cur ht (Nat.lt_succ_of_lt h.hB), h.apart, hc, h.lo, h.hB, h.touch.trans ht, h.adr, h.res.of_cells (fun o => ht.cell h.res.lt hnr) (fun o => ht.frozen h.res.lt hnr)⟩
theorem CardIn.after {num' st' fi' : Int} {go' : Option Addr} {gc' : Nat} {ps' : List Pch} (h : CardIn w0 wr B KB n num st fi go gc ps) (hb : Below (w0.heap.size + 1) wr w') (h1 : Box4 w' KB (.int .i64 num') (.int .i64 st') (.int .i64 fi') (.slice go' ps'.length gc')) (h2 : ∀ j, w'.frozen? ⟨KB, j, none⟩ = false)
    (h3 : Owns w' (w0.heap.size + 1) 35 2 Pch.c (.slice go' ps'.length gc') ps') (h4 : (Value.slice go' ps'.length gc').ownBlock ≠ some KB) (h5 : ∃ b off, go' = some ⟨b, off, none⟩) : CardIn w0 w' B KB n num' st' fi' go' gc' ps' :=
  ⟨h1, h2, h3, h4, h.cur.below hb (Nat.lt_succ_of_lt h.hB), h.lo, h.hB, h.touch.belowN hb (Nat.le_succ _), h5, h.res.below hb (Nat.lt_succ_self _)⟩
theorem CardIn.below_put (h : CardIn w0 wr B KB n num st fi go gc ps) (j : Nat) (u : Value) : Below (w0.heap.size + 1) wr (wr.setCell ⟨KB, j, none⟩ u) := (Below.refl _ _).setCell h.lo u
theorem CardIn.put0 (h : CardIn w0 wr B KB n num st fi go gc ps) (u : Int) : CardIn w0 (wr.setCell ⟨KB, 0, none⟩ (.int .i64 u)) B KB n u st fi go gc ps :=
  h.after (h.below_put 0 _) (h.box.put0 _) (fun j => by rw [World.frozen?_setCell]; exact h.bfree j) (h.own.keptG (grown_put _ _ _) h.apart) h.apart h.adr
theorem CardIn.put1 (h : CardIn w0 wr B KB n num st fi go gc ps) (u : Int) : CardIn w0 (wr.setCell ⟨KB, 1, none⟩ (.int .i64 u)) B KB n num u fi go gc ps :=
  h.after (h.below_put 1 _) (h.box.put1 _) (fun j => by rw [World.frozen?_setCell]; exact h.bfree j) (h.own.keptG (grown_put _ _ _) h.apart) h.apart h.adr
theorem CardIn.put2 (h : CardIn w0 wr B KB n num st fi go gc ps) (u : Int) : CardIn w0 (wr.setCell ⟨KB, 2, none⟩ (.int .i64 u)) B KB n num st u go gc ps :=
  h.after (h.below_put 2 _) (h.box.put2 _) (fun j => by rw [World.frozen?_setCell]; exact h.bfree j) (h.own.keptG (grown_put _ _ _) h.apart) h.apart h.adr
theorem CardIn.mono (h : CardIn w0 wr B KB n num st fi go gc ps) (hn : n ≤ n') : CardIn w0 wr B KB n' num st fi go gc ps := ⟨h.box, h.bfree, h.own, h.apart, h.cur.mono hn, h.lo, h.hB, h.touch, h.adr, h.res⟩
/-- behind an append to the punches, ahead of the store -/
theorem CardIn.mid (h : CardIn w0 wr B KB n num st fi go gc ps) {w3 : World} (hg : wr.grownBy w3 (Value.slice go ps.length gc).ownBlock) :
    w3.cell? ⟨KB, 3, none⟩ = some (.slice go ps.length gc) ∧ w3.frozen? ⟨KB, 3, none⟩ = false ∧ KB < w3.heap.size :=
  ⟨(h.box.grown hg h.apart).c3, (grown_frozen (b := KB) (o := 3) hg h.box.lt h.apart).trans (h.bfree 3), (h.box.grown hg h.apart).lt⟩
theorem CardIn.push (h : CardIn w0 wr B KB n num st fi go gc ps) {w3 : World} (hg : wr.grownBy w3 (Value.slice go ps.length gc).ownBlock) (hb : Below (w0.heap.size + 1) wr w3) {L : List Pch} {go1 : Option Addr} {gc1 : Nat} (hL : 0 < L.length)
    (ho : Owns w3 (w0.heap.size + 1) 35 2 Pch.c (.slice go1 L.length gc1) L) (hv : Hid ((Value.slice go1 L.length gc1).ownBlock = (Value.slice go ps.length gc).ownBlock ∨ (Value.slice go1 L.length gc1).ownBlock = some wr.heap.size)) :
    CardIn w0 (w3.setCell ⟨KB, 3, none⟩ (.slice go1 L.length gc1)) B KB n num st fi go1 gc1 L := by
  have hap : (Value.slice go1 L.length gc1).ownBlock ≠ some KB := fun e => by
    have hv' : (Value.slice go1 L.length gc1).ownBlock = (Value.slice go ps.length gc).ownBlock ∨ (Value.slice go1 L.length gc1).ownBlock = some wr.heap.size := hv
    rcases hv' with hv' | hv'
    · rw [hv'] at e; exact h.apart e
    · rw [hv'] at e; injection e with e; have := h.box.lt; omega
  have hbp : Below (w0.heap.size + 1) w3 (w3.setCell ⟨KB, 3, none⟩ (.slice go1 L.length gc1)) := (Below.refl _ _).setCell h.lo _
  refine h.after (hb.trans hbp) ((h.box.grown hg h.apart).put3 _) (fun j => by rw [World.frozen?_setCell]; exact (grown_frozen (b := KB) (o := j) hg h.box.lt h.apart).trans (h.bfree j)) (ho.keptG (grown_put _ _ _) hap) hap ?_
  obtain ⟨ao, cap, e, hF, _⟩ := ho.fresh
  obtain ⟨b, off, e2, _⟩ := hF.row hL
  injection e with e1
  exact ⟨b, off, e1.trans e2⟩
end

/-- the card is handed back -/
theorem CardIn.fin {w0 wr : World} {B KB n : Nat} {num st fi : Int} {go : Option Addr} {gc : Nat} {ps : List Pch} (h : CardIn w0 wr B KB n num st fi go gc ps) (u0 u1 u2 u3 : Value) :
    FreshAt w0.heap.size ((((wr.setCell ⟨w0.heap.size, 0, none⟩ u0).setCell ⟨w0.heap.size, 1, none⟩ u1).setCell ⟨w0.heap.size, 2, none⟩ u2).setCell ⟨w0.heap.size, 3, none⟩ u3) go 2 ps.length (fun k => (nth ps k).c) ∧
    Cu ((((wr.setCell ⟨w0.heap.size, 0, none⟩ u0).setCell ⟨w0.heap.size, 1, none⟩ u1).setCell ⟨w0.heap.size, 2, none⟩ u2).setCell ⟨w0.heap.size, 3, none⟩ u3) B n ∧
    Touch w0 ((((wr.setCell ⟨w0.heap.size, 0, none⟩ u0).setCell ⟨w0.heap.size, 1, none⟩ u1).setCell ⟨w0.heap.size, 2, none⟩ u2).setCell ⟨w0.heap.size, 3, none⟩ u3) (Span B (B + 1)) ∧ ps.length ≤ gc ∧ gc ≤ 9223372036854775807 := by
  have hb : Below w0.heap.size wr ((((wr.setCell ⟨w0.heap.size, 0, none⟩ u0).setCell ⟨w0.heap.size, 1, none⟩ u1).setCell ⟨w0.heap.size, 2, none⟩ u2).setCell ⟨w0.heap.size, 3, none⟩ u3) :=
    Below.setCell (p := ⟨w0.heap.size, 3, none⟩) (Below.setCell (p := ⟨w0.heap.size, 2, none⟩) (Below.setCell (p := ⟨w0.heap.size, 1, none⟩) (Below.setCell (p := ⟨w0.heap.size, 0, none⟩) (Below.refl _ _) (Nat.le_refl _) u0) (Nat.le_refl _) u1) (Nat.le_refl _) u2) (Nat.le_refl _) u3
  obtain ⟨ao, cap, e, hF, _, hl, hm⟩ := h.own.fresh
  injection e with e1 e2 e3
  subst e1 e3
  have hp : ∀ j, (⟨w0.heap.size, j, none⟩ : Addr).block < w0.heap.size + 1 := fun j => Nat.lt_succ_self _
  exact ⟨((((hF.setCell (hp 0) u0).setCell (hp 1) u1).setCell (hp 2) u2).setCell (hp 3) u3).mono (Nat.le_succ _), h.cur.below hb h.hB, h.touch.below hb, hl, by unfold maxLen at hm; omega⟩

/-- numbers of a drawn card -/
def crdOk (c : CardD) : Prop := (-100000 ≤ c.number ∧ c.number ≤ 100000) ∧ (-100000 ≤ c.start ∧ c.start ≤ 100000) ∧ (-100000 ≤ c.finish ∧ c.finish ≤ 100000)

attribute [local go_sem ↓] Go.wp_at_zero Go.wp_at_succ

set_option maxRecDepth 100000 in
set_option maxHeartbeats 8000000 in
theorem cu_card {B n cap : Nat} {co : Option Addr} {cs : List Int} {w : World} (h : Cu w B n) (hn : n ≤ 800000) (hr : RowAt w co 1 cs.length (ic cs)) (hcs : cs.length ≤ 14) (hlo : ∀ a, co = some a → B < a.block) :
    Calls Tryz.prog 25 #[.pointer (some ⟨B, 0, none⟩), .slice co cs.length cap] w fun e w' => ∃ (c : CardD) (b off gc : Nat), e = .returned (c.val (some ⟨b, off, none⟩) gc) ∧ c.ps.length ≤ 12 ∧ crdOk c ∧ c.ps.length ≤ gc ∧ gc ≤ 9223372036854775807 ∧
      FreshAt w.heap.size w' (some ⟨b, off, none⟩) 2 c.ps.length (fun k => (nth c.ps k).c) ∧ Cu w' B (n + 60) ∧ Touch w w' (Span B (B + 1)) := by
  obtain ⟨i0, hi, hz0, hz1, hz2⟩ := info_parts infoPch
  have hBl := h.lt
  have hcell : ∀ k, k < cs.length → ∃ cb coff, co = some ⟨cb, coff, none⟩ ∧ ∀ x, Touch w x (Span B (B + 1)) → x.cell? ⟨cb, coff + k, none⟩ = some (.int .i64 (nth cs k)) := fun k hk => by
    obtain ⟨cb, coff, e, H⟩ := hr (by omega)
    have hb := hlo _ e
    refine ⟨cb, coff, e, fun x hx => ?_⟩
    have h0 := H k hk 0 (by decide)
    simp only [ic, Nat.mul_one, Nat.add_zero] at h0
    exact (hx.cell (World.block_lt_of_cell? _ _ h0) (fun hs => by have h4 : cb < B + 1 := hs.2; have h5 : B < cb := hb; omega)).trans h0
  have HCELL := Lib.hid hcell; clear hcell hr hlo
  have hx0 := ((Ext.refl w).alloc (.cells #[.int .i64 0, .int .i64 0, .int .i64 0, .slice none 0 0] 26))
  have ha := fun T => cu_lit (T := T) (cs := #[.int .i64 1, .int .i64 17, .int .i64 9999]) [1, 17, 9999] 1 9999 (h.ext hx0) (by omega) rfl (by decide) (by decide) (by decide)
  simp only [World.size_alloc, List.length_cons, List.length_nil] at ha
  have HA := Lib.hid ha; clear ha
  have HX0 := Lib.hid hx0
  clear h hx0
  go_enter Tryz.func25, Tryz.ntmps25
  go_wp2_with fail
  refine (HA.out _).mono ?_; rintro e w1 ⟨nu, rfl, hnu, hc, ht⟩
  have HT1 := Lib.hid ((Touch.of_ext HX0.out).trans ht)
  have HA2 := Lib.hid (fun T => cu_lit (T := T) (cs := #[.int .i64 0, .int .i64 600, .int .i64 3600]) [0, 600, 3600] 0 3600 hc (by omega) rfl (by decide) (by decide) (by decide))
  clear hc HX0 HA
  have HZ : Hid (Res4 w1 w.heap.size) := by
    have hne : ¬ Span B (B + 1) w.heap.size := fun hs => by have h4 : w.heap.size < B + 1 := hs.2; omega
    exact (Res4.of (w := w) (Ext.refl _)).of_cells (fun o => ht.cell (by simp) hne) (fun o => ht.frozen (by simp) hne)
  clear ht
  go_wp2_with fail
  refine (HA2.out _).mono ?_; rintro e w2 ⟨st, rfl, hst, hc, ht⟩
  have HT2 := Lib.hid (HT1.out.trans ht)
  have HZ2 : Hid (Res4 w2 w.heap.size) := by
    have hne : ¬ Span B (B + 1) w.heap.size := fun hs => by have h4 : w.heap.size < B + 1 := hs.2; omega
    exact HZ.out.of_cells (fun o => ht.cell HZ.out.lt hne) (fun o => ht.frozen HZ.out.lt hne)
  have HC2 := Lib.hid hc
  have hst0 := hst.1
  have hst1 := hst.2
  clear ht HT1 HZ HA2 hc hst
  obtain ⟨KB, hKB⟩ : ∃ KB, KB = w2.heap.size + 1 := ⟨_, rfl⟩
  have hlo2 : w.heap.size + 1 ≤ w2.heap.size := HZ2.out.lt
  have hxx : Ext w2 ((w2.alloc (.cells #[] 35)).alloc (Obj.cells #[.int .i64 nu, .int .i64 st, .int .i64 0, .slice (some ⟨w2.heap.size, 0, none⟩) 0 0] 26)) := ((Ext.refl _).alloc _).alloc _
  have hC0 : CardIn w ((w2.alloc (.cells #[] 35)).alloc (Obj.cells #[.int .i64 nu, .int .i64 st, .int .i64 0, .slice (some ⟨w2.heap.size, 0, none⟩) 0 0] 26)) B KB (n + 2) nu st 0 (some ⟨w2.heap.size, 0, none⟩) 0 [] := by
    refine ⟨?_, fun j => ?_, (Owns.start' (e := 35) (s := 2) (cc := Pch.c) hlo2).ext' ((Ext.refl _).alloc _), fun e => ?_, HC2.out.ext hxx, by omega, hBl, HT2.out.trans (Touch.of_ext hxx), ⟨_, _, rfl⟩, HZ2.out.ext hxx⟩
    · have := Box4.of (Ext.refl ((w2.alloc (.cells #[] 35)).alloc (Obj.cells #[.int .i64 nu, .int .i64 st, .int .i64 0, .slice (some ⟨w2.heap.size, 0, none⟩) 0 0] 26)))
      rw [World.size_alloc] at this
      rw [hKB]; exact this
    · rw [hKB]; go_simp
    · simp [Value.ownBlock] at e; omega
  have HC0 := Lib.hid hC0; clear hC0 hxx
  go_wp2
  rw [← hKB]
  have HKB := Lib.hid hKB; clear hKB
  go_loopw [6, 7] (fun t i wr => ∃ (k : Nat) (T : Int) (ps : List Pch) (go : Option Addr) (gc : Nat), k ≤ cs.length ∧ i = .int .i64 k ∧ t = .int .i64 T ∧ (0 ≤ T ∧ T ≤ 3600 + 260 * k) ∧ ps.length ≤ 12 ∧ CardIn w wr B KB (n + 2 + 3 * k) nu st 0 go gc ps) (fun _ i _ => cs.length - (intOf i).toNat)
  case atStart => exact ⟨0, st, [], _, _, by omega, rfl, rfl, ⟨by omega, by omega⟩, by simp, HC0.out⟩
  case round =>
    obtain ⟨k, T, ps, go, gc, hk, rfl, rfl, hT, hps, hC⟩ := hrel
    clear HC0 HC2 HZ2
    have hT0 := hT.1
    have hT1 := hT.2
    clear hT
    have b3 := hC.box.c3
    have bl := hC.box.lt
    by_cases hlt : k < cs.length ∧ ps.length < 12
    · obtain ⟨hlt, hp12⟩ := hlt
      obtain ⟨cb, coff, rfl, HCL⟩ := HCELL.out k hlt
      have HCL2 := Lib.hid HCL; clear HCL
      have HA5 := Lib.hid (fun T => cu_lit (T := T) (cs := #[.int .i64 0, .int .i64 30, .int .i64 60, .int .i64 100, .int .i64 250]) [0, 30, 60, 100, 250] 0 250 hC.cur (by omega) rfl (by decide) (by decide) (by decide))
      have HC := Lib.hid hC; clear hC
      have hki : (k : Int) < (cs.length : Int) := by omega
      have hpi : (ps.length : Int) < 12 := by omega
      go_wp2_with fail
      refine (HA5.out _).mono ?_; rintro e w3 ⟨d, rfl, hd, hc, ht⟩
      have HC3 := Lib.hid (HC.out.curs hc ht)
      have hd0 := hd.1
      have hd1 := hd.2
      have HP := Lib.hid (cu_pick (N := 8) hc (by omega) (by decide) (by decide))
      clear hc ht hd HC HA5 b3 bl
      go_wp2_with fail
      refine HP.out.mono ?_; rintro e w4 ⟨x, rfl, hx, hc, ht⟩
      have HC4 := Lib.hid (HC3.out.curs hc ht)
      clear hc ht HC3 HP
      have hx0 := hx.1
      have hx1 := hx.2
      clear hx
      by_cases e0 : x = 0
      · subst e0
        go_wp2
        go_roundw
        case rel => exact ⟨k + 1, T + d, ps, go, gc, by omega, by go_num, rfl, ⟨by omega, by omega⟩, by omega, HC4.out.mono (by omega)⟩
        case measure => simp [intOf] <;> omega
      · have hd12 : decide (x = 0) = false := by simpa using e0
        go_upto_block 2 with fail
        go_cut [6] (fun tt wc => ∃ (T' : Int) (ps' : List Pch) (go' : Option Addr) (gc' : Nat), tt = .int .i64 T' ∧ (0 ≤ T' ∧ T' ≤ 3600 + 260 * (k + 1)) ∧ ps'.length ≤ 12 ∧ CardIn w wc B KB (n + 2 + 3 * k + 3) nu st 0 go' gc' ps')
        case first =>
          by_cases e1 : x = 1
          · subst e1
            clear e0 hd12 hx0 hx1
            have b3 := HC4.out.box.c3
            have bl := HC4.out.box.lt
            have b3a : ∀ o, (w4.alloc o).cell? ⟨KB, 3, none⟩ = some (.slice go ps.length gc) := fun o => ((Ext.refl w4).alloc o).cells b3
            have HA := Lib.hid (fun T x hx => cu_litx (x := x) (T := T) (cs := #[.int .i64 31, .int .i64 50, .int .i64 77]) [31, 50, 77] 31 77 HC4.out.cur (by omega) rfl (by decide) (by decide) (by decide) hx)
            go_wp2
            go_region_law (first
              | (refine step_append_bf (o := ⟨some 49, _, _, _, _, _⟩) (by rfl) _ _ 24 (by rfl) 35 i0 _ 2 16 Tryz.underlying24 hi hz0 hz1 hz2 rfl (by decide) Pch.c pch_cells (w.heap.size + 1) (by simp; omega) (.slice go ps.length gc) ps [⟨y, T + d⟩] L HL (by rfl) HXC.out.own ⟨w5.heap.size, 0, none⟩ 1 1 (by rfl) (by rfl) HROW.out (by simp; omega) (by simp; omega) ?_; intro go1 gc1 w6 ho1 hb1 hg1 hv1; have m3 := (HXC.out.mid hg1).1; have m4 := (HXC.out.mid hg1).2.1; have m5 := (HXC.out.mid hg1).2.2)
              | (go_simp; go_at_call 50; refine (HA.out _ _ (Ext.refl _).drew).mono ?_; rintro e w5 ⟨y, rfl, hy, hc, ht⟩; have hC5 := HC4.out.curs hc ht; have b3c := hC5.box.c3; have b3d : ∀ o, (w5.alloc o).cell? ⟨KB, 3, none⟩ = some (.slice go ps.length gc) := fun o => ((Ext.refl w5).alloc o).cells b3c; have hsz1 : w.heap.size + 1 ≤ w5.heap.size := hC5.res.lt; obtain ⟨L, hL⟩ : ∃ L, L = ps ++ [⟨y, T + d⟩] := ⟨_, rfl⟩; have hLl : L.length = ps.length + 1 := (by rw [hL]; simp); have HL := Lib.hid hL; have HLl := Lib.hid hLl; clear hL hLl; have HXC := Lib.hid (hC5.ext ((Ext.refl w5).alloc (.cells #[.int .i64 y, .int .i64 (T + d)] 35))); have HROW := Lib.hid (row_lit (w := w5) (cs := #[.int .i64 y, .int .i64 (T + d)]) (T := 35) (s := 2) (cc := Pch.c) (x := ⟨y, T + d⟩) (by intro j hj; match j, hj with | 0, _ => rfl | 1, _ => rfl)); clear hC5 hc ht))
            all_goals
              have HC5 := Lib.hid (HXC.out.push hg1 hb1 (by rw [HLl.out]; omega) ho1 hv1)
              have HL12 : Hid (L.length ≤ 12) := by rw [HLl.out]; exact (show ps.length + 1 ≤ 12 by omega)
              clear ho1 hb1 hg1 hv1 m3 m4 m5 b3 bl b3a HXC HROW b3c b3d
              go_wp2_with fail
              go_meet
              exact ⟨T + d + 10, L, go1, gc1, rfl, ⟨by omega, by omega⟩, HL12.out, HC5.out.mono (by omega)⟩
          · by_cases e2 : x = 2
            · subst e2
              clear e0 e1 hd12 hx0 hx1
              have b3 := HC4.out.box.c3
              have bl := HC4.out.box.lt
              have b3a : ∀ o, (w4.alloc o).cell? ⟨KB, 3, none⟩ = some (.slice go ps.length gc) := fun o => ((Ext.refl w4).alloc o).cells b3
              have d0 := HCL2.out _ HC4.out.touch
              have hsz1 : w.heap.size + 1 ≤ w4.heap.size := HC4.out.res.lt
              obtain ⟨L, hL⟩ : ∃ L, L = ps ++ [⟨nth cs k, T + d⟩] := ⟨_, rfl⟩
              have hLl : L.length = ps.length + 1 := by rw [hL]; simp
              have HL := Lib.hid hL; have HLl := Lib.hid hLl; clear hL hLl
              have hxX : Ext w4 (w4.alloc (.cells #[.int .i64 (nth cs k), .int .i64 (T + d)] 35)).drew := ((Ext.refl _).alloc _).drew
              have HXC := Lib.hid (HC4.out.ext hxX)
              have HROW := Lib.hid ((row_lit (w := w4) (cs := #[.int .i64 (nth cs k), .int .i64 (T + d)]) (T := 35) (s := 2) (cc := Pch.c) (x := ⟨nth cs k, T + d⟩) (by intro j hj; match j, hj with | 0, _ => rfl | 1, _ => rfl)).ext (Ext.refl _).drew)
              clear hxX HC4
              go_wp2
              go_region_law (first
                | (refine step_append_bf (o := ⟨some 64, _, _, _, _, _⟩) (by rfl) _ _ 24 (by rfl) 35 i0 _ 2 16 Tryz.underlying24 hi hz0 hz1 hz2 rfl (by decide) Pch.c pch_cells (w.heap.size + 1) (by simp; omega) (.slice go ps.length gc) ps [⟨nth cs k, T + d⟩] L HL (by rfl) HXC.out.own ⟨w4.heap.size, 0, none⟩ 1 1 (by rfl) (by rfl) HROW.out (by simp; omega) (by simp; omega) ?_; intro go1 gc1 w5 ho1 hb1 hg1 hv1; have m3 := (HXC.out.mid hg1).1; have m4 := (HXC.out.mid hg1).2.1; have m5 := (HXC.out.mid hg1).2.2))
              all_goals
                have HC5 := Lib.hid (HXC.out.push hg1 hb1 (by rw [HLl.out]; omega) ho1 hv1)
                have HL12 : Hid (L.length ≤ 12) := by rw [HLl.out]; exact (show ps.length + 1 ≤ 12 by omega)
                clear ho1 hb1 hg1 hv1 m3 m4 m5 b3 bl b3a HXC HROW d0
                go_wp2_with fail
                go_meet
                exact ⟨T + d, L, go1, gc1, rfl, ⟨by omega, by omega⟩, HL12.out, HC5.out.mono (by omega)⟩
            · go_wp2_with fail
              go_meet
              exact ⟨T + d, ps, go, gc, rfl, ⟨by omega, by omega⟩, hps, HC4.out.mono (by omega)⟩
        case rest =>
          obtain ⟨T', ps', go', gc', rfl, hT', hps', hC5⟩ := hcut
          have HC5 := Lib.hid hC5; clear hC5 HC4
          have hT0' := hT'.1
          have hT1' := hT'.2
          clear hT'
          have b3 := HC5.out.box.c3
          have bl := HC5.out.box.lt
          by_cases hp' : ps'.length < 12
          · have hpi' : (ps'.length : Int) < 12 := by omega
            have b3a : ∀ o, (wc.alloc o).cell? ⟨KB, 3, none⟩ = some (.slice go' ps'.length gc') := fun o => ((Ext.refl wc).alloc o).cells b3
            have d0 := HCL2.out _ HC5.out.touch
            have hsz1 : w.heap.size + 1 ≤ wc.heap.size := HC5.out.res.lt
            obtain ⟨L, hL⟩ : ∃ L, L = ps' ++ [⟨nth cs k, T'⟩] := ⟨_, rfl⟩
            have hLl : L.length = ps'.length + 1 := by rw [hL]; simp
            have HL := Lib.hid hL; have HLl := Lib.hid hLl; clear hL hLl
            have hxX : Ext wc (wc.alloc (.cells #[.int .i64 (nth cs k), .int .i64 (T')] 35)).drew := ((Ext.refl _).alloc _).drew
            have HXC := Lib.hid (HC5.out.ext hxX)
            have HROW := Lib.hid ((row_lit (w := wc) (cs := #[.int .i64 (nth cs k), .int .i64 (T')]) (T := 35) (s := 2) (cc := Pch.c) (x := ⟨nth cs k, T'⟩) (by intro j hj; match j, hj with | 0, _ => rfl | 1, _ => rfl)).ext (Ext.refl _).drew)
            clear hxX HC5
            go_wp2
            go_region_law (first
              | (refine step_append_bf (o := ⟨some 79, _, _, _, _, _⟩) (by rfl) _ _ 24 (by rfl) 35 i0 _ 2 16 Tryz.underlying24 hi hz0 hz1 hz2 rfl (by decide) Pch.c pch_cells (w.heap.size + 1) (by simp; omega) (.slice go' ps'.length gc') ps' [⟨nth cs k, T'⟩] L HL (by rfl) HXC.out.own ⟨wc.heap.size, 0, none⟩ 1 1 (by rfl) (by rfl) HROW.out (by simp; omega) (by simp; omega) ?_; intro go1 gc1 w7 ho1 hb1 hg1 hv1; have m3 := (HXC.out.mid hg1).1; have m4 := (HXC.out.mid hg1).2.1; have m5 := (HXC.out.mid hg1).2.2))
            all_goals
              have HC6 := Lib.hid (HXC.out.push hg1 hb1 (by rw [HLl.out]; omega) ho1 hv1)
              have HL12 : Hid (L.length ≤ 12) := by rw [HLl.out]; exact (show ps'.length + 1 ≤ 12 by omega)
              clear ho1 hb1 hg1 hv1 m3 m4 m5 b3 bl b3a HXC HROW d0
              go_wp2
              go_roundw
              case rel => exact ⟨k + 1, T', L, go1, gc1, by omega, by go_num, rfl, ⟨by omega, by omega⟩, HL12.out, HC6.out.mono (by omega)⟩
              case measure => simp [intOf] <;> omega
          · have hpi' : ¬ (ps'.length : Int) < 12 := by omega
            go_wp2
            go_roundw
            case rel => exact ⟨k + 1, T', ps', go', gc', by omega, by go_num, rfl, ⟨by omega, by omega⟩, by omega, HC5.out.mono (by omega)⟩
            case measure => simp [intOf] <;> omega
    · have hlt' : ¬ k < cs.length ∨ (k < cs.length ∧ ¬ ps.length < 12) := by omega
      have HA5 := Lib.hid (fun T => cu_lit (T := T) (cs := #[.int .i64 0, .int .i64 20, .int .i64 400]) [0, 20, 400] 0 400 hC.cur (by omega) rfl (by decide) (by decide) (by decide))
      have HC := Lib.hid hC; clear hC hlt
      have hnu0 := hnu.1
      have hnu1 := hnu.2
      clear hnu HCELL hi hz0 hz1 hz2
      rcases hlt' with hlt' | ⟨hlt', hp'⟩
      all_goals
        go_wp2_with fail
        refine (HA5.out _).mono ?_; rintro e w3 ⟨d, rfl, hd, hc, ht⟩
        have HC3 := Lib.hid (HC.out.curs hc ht)
        have hd0 := hd.1
        have hd1 := hd.2
        have f2 := HC3.out.bfree 2
        have c2 := HC3.out.box.c2
        have bl := HC3.out.box.lt
        have hput := HC3.out.put2 (T + d)
        have HP := Lib.hid (cu_pick (N := 24) hput.cur (by omega) (by decide) (by decide))
        have HPU := Lib.hid hput
        clear hc ht hd HC HA5 b3 hput
        go_wp2_with fail
        refine HP.out.mono ?_; rintro e w4 ⟨x, rfl, hx, hc, ht⟩
        have HC4 := Lib.hid (HPU.out.curs hc ht)
        clear hc ht HC3 HP HPU f2 c2 bl
        have hx0 := hx.1
        clear hx
        obtain ⟨bb, off, rfl⟩ := HC4.out.adr
        by_cases e01 : x = 0 ∨ x = 1
        · have HC5 := Lib.hid (HC4.out.put2 (-1))
          have p0 := HC4.out.box.c0
          have p1 := HC4.out.box.c1
          have p2 := HC4.out.box.c2
          have p3 := HC4.out.box.c3
          have pl := HC4.out.box.lt
          have pf0 := HC4.out.bfree 0
          have pf1 := HC4.out.bfree 1
          have pf2 := HC4.out.bfree 2
          have r0 := HC4.out.res.c0
          have r1 := HC4.out.res.c1
          have r2 := HC4.out.res.c2
          have r3 := HC4.out.res.c3
          have rl := HC4.out.res.lt
          have rf0 := HC4.out.res.fz 0
          have rf1 := HC4.out.res.fz 1
          have rf2 := HC4.out.res.fz 2
          have rf3 := HC4.out.res.fz 3
          have hkr : ¬ w.heap.size = KB := by have := HC4.out.lo; omega
          have hkr' : ¬ KB = w.heap.size := by have := HC4.out.lo; omega
          rcases e01 with rfl | rfl
          all_goals
            go_wp2
            have hf := HC5.out.fin (.int .i64 nu) (.int .i64 st) (.int .i64 (-1)) (.slice (some ⟨bb, off, none⟩) ps.length gc)
            refine bodyPost_ret (v := .agg #[.int .i64 nu, .int .i64 st, .int .i64 (-1), .slice (some ⟨bb, off, none⟩) ps.length gc]) ?_ rfl ?_
            · simp [results, Tryz.results25, go_sem, cell_put, r0, r1, r2, r3]
            · exact ⟨⟨nu, st, (-1), ps⟩, bb, off, gc, rfl, hps, ⟨⟨by simp only; omega, by simp only; omega⟩, ⟨by simp only; omega, by simp only; omega⟩, ⟨by simp only; omega, by simp only; omega⟩⟩, hf.2.2.2.1, hf.2.2.2.2, hf.1, hf.2.1.mono (by omega), hf.2.2.1⟩
        · by_cases e2 : x = 2
          · subst e2
            have HA6 := Lib.hid (fun T => cu_lit (T := T) (cs := #[.int .i64 0, .int .i64 10000]) [0, 10000] 0 10000 HC4.out.cur (by omega) rfl (by decide) (by decide) (by decide))
            clear e01
            go_wp2_with fail
            refine (HA6.out _).mono ?_; rintro e w5 ⟨y, rfl, hy, hc, ht⟩
            have HC5 := Lib.hid (HC4.out.curs hc ht)
            have hy0 := hy.1
            have hy1 := hy.2
            clear hc ht HC4 HA6 hy
            have HC6 := Lib.hid (HC5.out.put0 y)
            have p0 := HC5.out.box.c0
            have p1 := HC5.out.box.c1
            have p2 := HC5.out.box.c2
            have p3 := HC5.out.box.c3
            have pl := HC5.out.box.lt
            have pf0 := HC5.out.bfree 0
            have pf1 := HC5.out.bfree 1
            have pf2 := HC5.out.bfree 2
            have r0 := HC5.out.res.c0
            have r1 := HC5.out.res.c1
            have r2 := HC5.out.res.c2
            have r3 := HC5.out.res.c3
            have rl := HC5.out.res.lt
            have rf0 := HC5.out.res.fz 0
            have rf1 := HC5.out.res.fz 1
            have rf2 := HC5.out.res.fz 2
            have rf3 := HC5.out.res.fz 3
            have hkr : ¬ w.heap.size = KB := by have := HC5.out.lo; omega
            have hkr' : ¬ KB = w.heap.size := by have := HC5.out.lo; omega
            go_wp2
            have hf := HC6.out.fin (.int .i64 y) (.int .i64 st) (.int .i64 (T + d)) (.slice (some ⟨bb, off, none⟩) ps.length gc)
            refine bodyPost_ret (v := .agg #[.int .i64 y, .int .i64 st, .int .i64 (T + d), .slice (some ⟨bb, off, none⟩) ps.length gc]) ?_ rfl ?_
            · simp [results, Tryz.results25, go_sem, cell_put, r0, r1, r2, r3]
            · exact ⟨⟨y, st, (T + d), ps⟩, bb, off, gc, rfl, hps, ⟨⟨by simp only; omega, by simp only; omega⟩, ⟨by simp only; omega, by simp only; omega⟩, ⟨by simp only; omega, by simp only; omega⟩⟩, hf.2.2.2.1, hf.2.2.2.2, hf.1, hf.2.1.mono (by omega), hf.2.2.1⟩
          · by_cases e3 : x = 3
            · subst e3
              have HA6 := Lib.hid (fun T' => cu_lit (T := T') (cs := #[.int .i64 (-1), .int .i64 36001, .int .i64 (T + 1), .int .i64 36000]) [-1, 36001, T + 1, 36000] (-1) 36001 HC4.out.cur (by omega) rfl (fun i hi => by match i, hi with | 0, _ => simp [nth] | 1, _ => simp [nth] | 2, _ => (simp [nth]; omega) | 3, _ => simp [nth]) (by simp) (by simp))
              clear e01 e2
              go_wp2_with fail
              refine (HA6.out _).mono ?_; rintro e w5 ⟨y, rfl, hy, hc, ht⟩
              have HC5 := Lib.hid (HC4.out.curs hc ht)
              have hy0 := hy.1
              have hy1 := hy.2
              clear hc ht HC4 HA6 hy
              have HC6 := Lib.hid (HC5.out.put1 y)
              have p0 := HC5.out.box.c0
              have p1 := HC5.out.box.c1
              have p2 := HC5.out.box.c2
              have p3 := HC5.out.box.c3
              have pl := HC5.out.box.lt
              have pf0 := HC5.out.bfree 0
              have pf1 := HC5.out.bfree 1
              have pf2 := HC5.out.bfree 2
              have r0 := HC5.out.res.c0
              have r1 := HC5.out.res.c1
              have r2 := HC5.out.res.c2
              have r3 := HC5.out.res.c3
              have rl := HC5.out.res.lt
              have rf0 := HC5.out.res.fz 0
              have rf1 := HC5.out.res.fz 1
              have rf2 := HC5.out.res.fz 2
              have rf3 := HC5.out.res.fz 3
              have hkr : ¬ w.heap.size = KB := by have := HC5.out.lo; omega
              have hkr' : ¬ KB = w.heap.size := by have := HC5.out.lo; omega
              go_wp2
              have hf := HC6.out.fin (.int .i64 nu) (.int .i64 y) (.int .i64 (T + d)) (.slice (some ⟨bb, off, none⟩) ps.length gc)
              refine bodyPost_ret (v := .agg #[.int .i64 nu, .int .i64 y, .int .i64 (T + d), .slice (some ⟨bb, off, none⟩) ps.length gc]) ?_ rfl ?_
              · simp [results, Tryz.results25, go_sem, cell_put, r0, r1, r2, r3]
              · exact ⟨⟨nu, y, (T + d), ps⟩, bb, off, gc, rfl, hps, ⟨⟨by simp only; omega, by simp only; omega⟩, ⟨by simp only; omega, by simp only; omega⟩, ⟨by simp only; omega, by simp only; omega⟩⟩, hf.2.2.2.1, hf.2.2.2.2, hf.1, hf.2.1.mono (by omega), hf.2.2.1⟩
            · by_cases e4 : x = 4
              · subst e4
                have HC6 := Lib.hid (HC4.out.put2 (st - 1))
                clear e01 e2 e3
                have p0 := HC4.out.box.c0
                have p1 := HC4.out.box.c1
                have p2 := HC4.out.box.c2
                have p3 := HC4.out.box.c3
                have pl := HC4.out.box.lt
                have pf0 := HC4.out.bfree 0
                have pf1 := HC4.out.bfree 1
                have pf2 := HC4.out.bfree 2
                have r0 := HC4.out.res.c0
                have r1 := HC4.out.res.c1
                have r2 := HC4.out.res.c2
                have r3 := HC4.out.res.c3
                have rl := HC4.out.res.lt
                have rf0 := HC4.out.res.fz 0
                have rf1 := HC4.out.res.fz 1
                have rf2 := HC4.out.res.fz 2
                have rf3 := HC4.out.res.fz 3
                have hkr : ¬ w.heap.size = KB := by have := HC4.out.lo; omega
                have hkr' : ¬ KB = w.heap.size := by have := HC4.out.lo; omega
                go_wp2
                have hf := HC6.out.fin (.int .i64 nu) (.int .i64 st) (.int .i64 (st - 1)) (.slice (some ⟨bb, off, none⟩) ps.length gc)
                refine bodyPost_ret (v := .agg #[.int .i64 nu, .int .i64 st, .int .i64 (st - 1), .slice (some ⟨bb, off, none⟩) ps.length gc]) ?_ rfl ?_
                · simp [results, Tryz.results25, go_sem, cell_put, r0, r1, r2, r3]
                · exact ⟨⟨nu, st, (st - 1), ps⟩, bb, off, gc, rfl, hps, ⟨⟨by simp only; omega, by simp only; omega⟩, ⟨by simp only; omega, by simp only; omega⟩, ⟨by simp only; omega, by simp only; omega⟩⟩, hf.2.2.2.1, hf.2.2.2.2, hf.1, hf.2.1.mono (by omega), hf.2.2.1⟩
              · have g0 : ¬ x = 0 := fun h => e01 (.inl h)
                have g1 : ¬ x = 1 := fun h => e01 (.inr h)
                clear e01
                have p0 := HC4.out.box.c0
                have p1 := HC4.out.box.c1
                have p2 := HC4.out.box.c2
                have p3 := HC4.out.box.c3
                have pl := HC4.out.box.lt
                have pf0 := HC4.out.bfree 0
                have pf1 := HC4.out.bfree 1
                have pf2 := HC4.out.bfree 2
                have r0 := HC4.out.res.c0
                have r1 := HC4.out.res.c1
                have r2 := HC4.out.res.c2
                have r3 := HC4.out.res.c3
                have rl := HC4.out.res.lt
                have rf0 := HC4.out.res.fz 0
                have rf1 := HC4.out.res.fz 1
                have rf2 := HC4.out.res.fz 2
                have rf3 := HC4.out.res.fz 3
                have hkr : ¬ w.heap.size = KB := by have := HC4.out.lo; omega
                have hkr' : ¬ KB = w.heap.size := by have := HC4.out.lo; omega
                go_wp2
                have hf := HC4.out.fin (.int .i64 nu) (.int .i64 st) (.int .i64 (T + d)) (.slice (some ⟨bb, off, none⟩) ps.length gc)
                refine bodyPost_ret (v := .agg #[.int .i64 nu, .int .i64 st, .int .i64 (T + d), .slice (some ⟨bb, off, none⟩) ps.length gc]) ?_ rfl ?_
                · simp [results, Tryz.results25, go_sem, cell_put, r0, r1, r2, r3]
                · exact ⟨⟨nu, st, (T + d), ps⟩, bb, off, gc, rfl, hps, ⟨⟨by simp only; omega, by simp only; omega⟩, ⟨by simp only; omega, by simp only; omega⟩, ⟨by simp only; omega, by simp only; omega⟩⟩, hf.2.2.2.1, hf.2.2.2.2, hf.1, hf.2.1.mono (by omega), hf.2.2.1⟩

end Go.Proofs.YtckgjpaccgpdpaaGreatDoor
