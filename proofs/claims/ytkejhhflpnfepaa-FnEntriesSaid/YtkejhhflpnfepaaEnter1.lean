/-
  Proved here: what EnterRunner returns.
  Conditions: no more than 1048576 entries, in a block.
-/
import Derived.Test.YtkejhhflpnfepaaInsEnt
import Derived.Test.YtkejhhflpnfepaaEnt1
import Derived.Test.YtkejhhflpnfepaaMark
import Derived.Deep.DeepCutAuto
import Derived.BigQuiet
import Derived.Deep.CutBlock
namespace Go.Proofs.Ytkejhhflpnfepaa
open Go.RowKit

theorem own_at {α : Type} [Inhabited α] {w : World} {base s n gc E H : Nat} {e : TypeId} {cc : α → Nat → Value} {go : Option Addr} {xs : List α} (ho : Owns w base e s cc (.slice go n gc) xs) (hv : (Value.slice go n gc).ownBlock = some E ∨ (Value.slice go n gc).ownBlock = some H) :
    ∃ g, go = some ⟨g, 0, none⟩ ∧ (g = E ∨ g = H) := by
  have h0 : w.ownsRow base e s (.slice go n gc) xs.length (fl s cc xs) := ho
  rcases h0.2 with ⟨e1, _⟩ | ⟨g, cap', cur, e1, _⟩
  · injection e1 with e1 e2 e3
    subst e1
    simp [Value.ownBlock] at hv
  · injection e1 with e1 e2 e3
    subst e1
    refine ⟨g, rfl, ?_⟩
    rcases hv with hv | hv
    · exact .inl (by simpa [Value.ownBlock] using hv)
    · exact .inr (by simpa [Value.ownBlock] using hv)

/-- what is handed back: a list of entries in new memory, a bool -/
def ResE (w : World) (L : List Ent) (B : Bool) (e : Ending) (w' : World) : Prop := ∃ bo bc, e = .returned (.tuple #[.slice bo L.length bc, .bool B]) ∧ Ext w w' ∧ FreshAt w.heap.size w' bo 5 L.length (fun k => (nth L k).c)
theorem ResE.mk {w w' : World} {L : List Ent} {B : Bool} {e : Ending} (bo : Option Addr) (bc : Nat) (h : e = .returned (.tuple #[.slice bo L.length bc, .bool B])) (h1 : Ext w w') (h2 : FreshAt w.heap.size w' bo 5 L.length (fun k => (nth L k).c)) : ResE w L B e w' := ⟨bo, bc, h, h1, h2⟩
theorem freshE_nil {B0 : Nat} {w : World} {s : Nat} {c : Nat → Nat → Value} : FreshAt B0 w none s 0 c := ⟨fun h => absurd h (Nat.lt_irrefl 0), fun a e => (by cases e), fun b off e => (by cases e)⟩

theorem own_lt {α : Type} {w : World} {base g n cap s : Nat} {e : TypeId} {cc : α → Nat → Value} {xs : List α} (ho : Owns w base e s cc (.slice (some ⟨g, 0, none⟩) n cap) xs) : g < w.heap.size := by
  have h0 : w.ownsRow base e s (.slice (some ⟨g, 0, none⟩) n cap) xs.length (fl s cc xs) := ho
  rcases h0.2 with ⟨e1, _⟩ | ⟨g', cap', cur, e1, h1, h2, _⟩
  · injection e1 with e1
    cases e1
  · injection e1 with e1
    injection e1 with e1
    injection e1 with e1
    subst e1
    exact (Array.getElem?_eq_some_iff.1 h2).1

theorem insert_lit {base g cap : Nat} {ms : List Ent} {s c1 c2 r : Int} {c3 : Bool} {i : Nat} {w w0 : World} (ho : Owns w base 26 5 Ent.c (.slice (some ⟨g, 0, none⟩) ms.length cap) ms) (hb : base = w0.heap.size) (hx : Ext w0 w) (hi0 : i ≤ ms.length) (hml : ms.length ≤ 1048577) :
    Calls Try.prog 42 #[.slice (some ⟨g, 0, none⟩) ms.length cap, .int .i64 i, .slice (some ⟨w.heap.size, 0, none⟩) 1 1] (w.alloc (Obj.cells #[.int .i64 s, .int .i64 c1, .int .i64 c2, .bool c3, .int .i64 r] 26)) fun e w' => ∃ go gc, e = .returned (.slice go (insL ms i ⟨s, c1, c2, c3, r⟩).length gc) ∧ Owns w' w0.heap.size 26 5 Ent.c (.slice go (insL ms i ⟨s, c1, c2, c3, r⟩).length gc) (insL ms i ⟨s, c1, c2, c3, r⟩) ∧ Ext w0 w' := by
  subst hb
  have hl := own_lt ho
  have A1 := ho.kept ((Ext.refl w).alloc (Obj.cells #[.int .i64 s, .int .i64 c1, .int .i64 c2, .bool c3, .int .i64 r] 26))
  have A2 := heap_alloc_new w (Obj.cells #[.int .i64 s, .int .i64 c1, .int .i64 c2, .bool c3, .int .i64 r] 26)
  have hsz := hx.size
  refine (insert_Ent (x := ⟨s, c1, c2, c3, r⟩) A1 (by simp; omega) A2 (by omega) hi0 hml).mono ?_
  rintro e w' ⟨go, gc, rfl, ho2, hbw⟩
  exact ⟨go, gc, rfl, ho2, Ext.below (hx.alloc _) hbw (Nat.le_refl _)⟩

theorem grown_lit {X w : World} {H vb : Nat} {o : Obj} (hg : X.grownBy w (some H)) (hX : X.heap[vb]? = some o) (hne : H ≠ vb) : w.heap[vb]? = some o := by
  obtain ⟨_, _, _, _, h5⟩ := hg
  exact (h5 vb (Array.getElem?_eq_some_iff.1 hX).1 (fun e => hne (by injection e with e; exact e.symm))).trans hX
theorem insert_lit2 {base g cap vb : Nat} {ms : List Ent} {s c1 c2 r : Int} {c3 : Bool} {i : Nat} {w w0 : World} (ho : Owns w base 26 5 Ent.c (.slice (some ⟨g, 0, none⟩) ms.length cap) ms) (hb : base = w0.heap.size) (hx : Ext w0 w) (hi0 : i ≤ ms.length) (hml : ms.length ≤ 1048577)
    (hvb : w.heap[vb]? = some (Obj.cells #[.int .i64 s, .int .i64 c1, .int .i64 c2, .bool c3, .int .i64 r] 26)) (hne : vb ≠ g) :
    Calls Try.prog 42 #[.slice (some ⟨g, 0, none⟩) ms.length cap, .int .i64 i, .slice (some ⟨vb, 0, none⟩) 1 1] w fun e w' => ∃ go gc, e = .returned (.slice go (insL ms i ⟨s, c1, c2, c3, r⟩).length gc) ∧ Owns w' w0.heap.size 26 5 Ent.c (.slice go (insL ms i ⟨s, c1, c2, c3, r⟩).length gc) (insL ms i ⟨s, c1, c2, c3, r⟩) ∧ Ext w0 w' := by
  subst hb
  refine (insert_Ent (x := ⟨s, c1, c2, c3, r⟩) ho hx.size hvb hne hi0 hml).mono ?_
  rintro e w' ⟨go, gc, rfl, ho2, hbw⟩
  exact ⟨go, gc, rfl, ho2, Ext.below hx hbw (Nat.le_refl _)⟩

set_option maxRecDepth 100000 in
set_option maxHeartbeats 2000000 in
theorem impl_EnterRunner {b off : Nat} {cap : Nat} {ms : List Ent} {s c1 c2 r : Int} {c3 : Bool} {w : World} (h : RowAt w (some ⟨b, off, none⟩) 5 ms.length (fun k => (nth ms k).c)) (hs : ms.length ≤ 1048576) :
    Calls Try.prog 7 #[.slice (some ⟨b, off, none⟩) ms.length cap, .agg #[.int .i64 s, .int .i64 c1, .int .i64 c2, .bool c3, .int .i64 r]] w (ResE w (enL ms ⟨s, c1, c2, c3, r⟩) (enB ms ⟨s, c1, c2, c3, r⟩)) := by
  obtain ⟨i0, hi, hz0, hz1, hz2⟩ := info_parts infoEnt
  obtain ⟨W, hW⟩ : ∃ W, W = w.alloc (Obj.cells #[.int .i64 s, .int .i64 c1, .int .i64 c2, .bool c3, .int .i64 r] 26) := ⟨_, rfl⟩
  have hxW : Ext w W := hW ▸ (Ext.refl _).alloc _
  have hWs : W.heap.size = w.heap.size + 1 := by rw [hW]; simp
  have hWv : W.heap[w.heap.size]? = some (.cells #[.int .i64 s, .int .i64 c1, .int .i64 c2, .bool c3, .int .i64 r] 26 (0, 0)) := by rw [hW]; exact heap_alloc_new _ _
  have hW0 : W.cell? ⟨w.heap.size, 0, none⟩ = some (.int .i64 s) := by simp [World.cell?, hWv]
  have hW1 : W.cell? ⟨w.heap.size, 1, none⟩ = some (.int .i64 c1) := by simp [World.cell?, hWv]
  have hW2 : W.cell? ⟨w.heap.size, 2, none⟩ = some (.int .i64 c2) := by simp [World.cell?, hWv]
  have hW3 : W.cell? ⟨w.heap.size, 3, none⟩ = some (.bool c3) := by simp [World.cell?, hWv]
  have hW4 : W.cell? ⟨w.heap.size, 4, none⟩ = some (.int .i64 r) := by simp [World.cell?, hWv]
  have hrW := h.ext hxW
  have HR := Lib.hid h; clear h
  have HWV := Lib.hid hWv; clear hWv
  have HWS := Lib.hid hWs; clear hWs
  have HW := Lib.hid hW; clear hW
  cases hc : entsB ms
  · have hB : enB ms ⟨s, c1, c2, c3, r⟩ = false := by unfold enB; rw [hc]; rfl
    have hL : enL ms ⟨s, c1, c2, c3, r⟩ = [] := by unfold enL; rw [hB]; rfl
    rw [hB, hL]; clear hB hL
    have H2 := Lib.hid hc; clear hc
    go_enter Try.func7, Try.ntmps7
    go_wp2_with fail
    rw [← HW.out]
    refine (impl_AreEntries hrW (by omega)).mono ?_; rw [H2.out]; rintro e w1 ⟨rfl, hx1⟩
    have HX1 := Lib.hid (hxW.trans hx1)
    go_wp2
    go_ret2
    exact .mk none 0 rfl HX1.out freshE_nil
  · have HC := Lib.hid hc; clear hc
    go_enter Try.func7, Try.ntmps7
    go_wp2_with fail
    rw [← HW.out]
    refine (impl_AreEntries hrW (by omega)).mono ?_; rw [HC.out]; rintro e w1 ⟨rfl, hx1⟩
    go_upto_block 0 with fail
    go_cut [6] (fun sl wc => ∃ k : Nat, k ≤ ms.length ∧ sl = .int .i64 k ∧ insAtG Ent.runner ms s = k ∧ Ext W wc)
    case first =>
      go_wp2_with fail
      go_loopw [6] (fun i wr => ∃ k : Nat, k ≤ ms.length ∧ i = .int .i64 k ∧ Ext W wr ∧ ∀ j, j < k → (nth ms j).runner < s) (fun i _ => ms.length - (intOf i).toNat)
      case atStart => exact ⟨0, by omega, rfl, hx1, fun j hj => by omega⟩
      case round =>
        obtain ⟨k, hk, rfl, hx, hlt⟩ := hrel
        have HLT := Lib.hid hlt; clear hlt
        have f0 := hx.cells hW0
        have hcell : ∀ k, k < ms.length → ∀ j, j < 5 → wr.cell? ⟨b, off + k * 5 + j, none⟩ = some ((nth ms k).c j) := fun k hk j hj => by
          obtain ⟨b', off', e, hc⟩ := hrW (by omega)
          injection e with e
          injection e with e1 e2
          subst e1 e2
          exact hx.cells (hc k hk j hj)
        by_cases hgo : k < ms.length ∧ (nth ms k).runner < s
        · have p0 := hcell k hgo.1 0 (by decide)
          simp only [Ent.c0, Nat.add_zero] at p0
          obtain ⟨hkn, hsh⟩ := hgo
          clear hcell
          have hdec : decide (k < ms.length) = true := by simpa using hkn
          go_wp2_with fail
          go_quiet (fail)
          go_wp2_with fail
          go_roundw
          case rel => exact ⟨k + 1, by omega, by go_num, ⟨hx.os, hx.tape, hx.output, hx.size, hx.block⟩, fun j hj => by by_cases e : j = k; (subst e; exact hsh); exact HLT.out j (by omega)⟩
          case measure => simp [intOf]; omega
        · have hat : insAtG Ent.runner ms s = k := insAtG_is hk HLT.out (fun h1 h2 => hgo ⟨h1, h2⟩)
          have HAT := Lib.hid hat; clear hat
          have hxd : ∀ q, Ext W (wr.drewN q) := fun q => ⟨hx.os, hx.tape, hx.output, hx.size, hx.block⟩
          have HXD := Lib.hid hxd; clear hxd
          by_cases hkn : k < ms.length
          case' pos =>
            have p0 := hcell k hkn 0 (by decide)
            simp only [Ent.c0, Nat.add_zero] at p0
            clear hcell
            have hdec : decide (k < ms.length) = true := by simpa using hkn
            have hds : decide ((nth ms k).runner < s) = false := by simpa using fun h => hgo ⟨hkn, h⟩
          case' neg =>
            have hdec : decide (k < ms.length) = false := by simpa using hkn
            clear hcell
          all_goals
            go_wp2_with fail
            go_quiet (fail)
            go_wp2_with fail
            go_meet
            exact ⟨k, hk, rfl, HAT.out, HXD.out _⟩
    case rest =>
            obtain ⟨k, hk, rfl, hat, hxy⟩ := hcut
            have HAT := Lib.hid hat; clear hat hx1
            generalize hwy : wc = wy at hxy ⊢
            clear hwy wc
            have hkl := hk
            have hml1 : ms.length ≤ 1048577 := by omega
            have d0 := hxy.cells hW0
            have d1 := hxy.cells hW1
            have d2 := hxy.cells hW2
            have d3 := hxy.cells hW3
            have d4 := hxy.cells hW4
            have hsz := hxy.size
            have hb1 : w.heap.size < wy.heap.size := by have := HWS.out; omega
            have hb2 : w.heap.size < wy.heap.size + 1 := by omega
            have hb3 : w.heap.size < wy.heap.size + 1 + 1 := by omega
            have OB := Lib.hid (show Owns ((wy.alloc (Obj.cells #[.int .i64 s, .int .i64 c1, .int .i64 c2, .bool c3, .int .i64 r] 26)).alloc (Obj.cells #[] 26)) W.heap.size 26 5 Ent.c (.slice (some ⟨wy.heap.size + 1, 0, none⟩) 0 0) ([] : List Ent) from by
              have := Owns.start (α := Ent) (e := 26) (s := 5) (cc := Ent.c) (hxy.alloc (Obj.cells #[.int .i64 s, .int .i64 c1, .int .i64 c2, .bool c3, .int .i64 r] 26))
              simpa using this)
            have F1 := Lib.hid (show ((wy.alloc (Obj.cells #[] 26)).alloc (Obj.cells #[.int .i64 s, .int .i64 c1, .int .i64 c2, .bool c3, .int .i64 r] 26)).drew.heap[wy.heap.size + 1]? = some (Obj.cells #[.int .i64 s, .int .i64 c1, .int .i64 c2, .bool c3, .int .i64 r] 26) from by
              have := heap_alloc_new (wy.alloc (Obj.cells #[] 26)) (Obj.cells #[.int .i64 s, .int .i64 c1, .int .i64 c2, .bool c3, .int .i64 r] 26)
              rw [show (wy.alloc (Obj.cells #[] 26)).heap.size = wy.heap.size + 1 by simp] at this
              exact this)
            have F2 := Lib.hid (show ((wy.alloc (Obj.cells #[.int .i64 s, .int .i64 c1, .int .i64 c2, .bool c3, .int .i64 r] 26)).alloc (Obj.cells #[] 26)).drew.heap[wy.heap.size]? = some (Obj.cells #[.int .i64 s, .int .i64 c1, .int .i64 c2, .bool c3, .int .i64 r] 26) from by
              have h1 := heap_alloc_new wy (Obj.cells #[.int .i64 s, .int .i64 c1, .int .i64 c2, .bool c3, .int .i64 r] 26)
              have h2 := ((Ext.refl (wy.alloc (Obj.cells #[.int .i64 s, .int .i64 c1, .int .i64 c2, .bool c3, .int .i64 r] 26))).alloc (Obj.cells #[] 26)).block wy.heap.size (by simp)
              exact h2.trans h1)
            obtain ⟨L, hL⟩ : ∃ L, L = insL ms k ⟨s, c1, c2, c3, r⟩ := ⟨_, rfl⟩
            have hadd : entL ms ⟨s, c1, c2, c3, r⟩ = L := by rw [hL, ← HAT.out]; rfl
            have HLL := Lib.hid (show L.length ≤ 9223372036854775807 from by rw [← hadd, entL_len]; omega)
            have HADB := Lib.hid (show enB ms ⟨s, c1, c2, c3, r⟩ = entsB L from by unfold enB; rw [HC.out, hadd, Bool.true_and])
            have HADL := Lib.hid (show enL ms ⟨s, c1, c2, c3, r⟩ = if entsB L then L else [] from by unfold enL; rw [HADB.out, hadd])
            have HLQ := Lib.hid hL
            have HWL := Lib.hid (show w.heap.size ≤ W.heap.size from hxW.size)
            clear hL hadd HAT hk
            have HNIL := Lib.hid (show ms = [] ++ ms from rfl)
            go_upto_region 6 with fail
            go_cut [7] (fun sl wc => ∃ go gc, sl = .slice go L.length gc ∧ Owns wc W.heap.size 26 5 Ent.c (.slice go L.length gc) L ∧ Ext W wc)
            case first =>
                go_region_law (first
                  | (refine step_append_form (o := ⟨some 29, _, _, _, _, _⟩) rfl _ _ 24 rfl W 26 i0 _ 5 40 Try.underlying24 hi hz0 hz1 hz2 rfl (by decide) Ent.c ent_cells _ [] ms ms HNIL rfl (by first | exact OB.out.kept (by repeat (first | (with_reducible exact Ext.refl _) | (with_reducible assumption) | with_reducible refine Ext.drew ?_ | with_reducible refine Ext.alloc ?_ _ | with_reducible refine Ext.setCell ?_ (by first | (simp; done) | (simp; omega) | omega) _ | with_reducible refine Ext.trans ?_ (by with_reducible assumption))) | exact (Owns.start (by repeat (first | (with_reducible exact Ext.refl _) | (with_reducible assumption) | with_reducible refine Ext.drew ?_ | with_reducible refine Ext.alloc ?_ _ | with_reducible refine Ext.setCell ?_ (by first | (simp; done) | (simp; omega) | omega) _ | with_reducible refine Ext.trans ?_ (by with_reducible assumption)))).kept (by repeat (first | (with_reducible exact Ext.refl _) | (with_reducible assumption) | with_reducible refine Ext.drew ?_ | with_reducible refine Ext.alloc ?_ _ | with_reducible refine Ext.setCell ?_ (by first | (simp; done) | (simp; omega) | omega) _ | with_reducible refine Ext.trans ?_ (by with_reducible assumption)))) ⟨b, off, none⟩ ms.length cap rfl rfl (hrW.ext (by repeat (first | (with_reducible exact Ext.refl _) | (with_reducible assumption) | with_reducible refine Ext.drew ?_ | with_reducible refine Ext.alloc ?_ _ | with_reducible refine Ext.setCell ?_ (by first | (simp; done) | (simp; omega) | omega) _ | with_reducible refine Ext.trans ?_ (by with_reducible assumption)))) (by simp; omega) (by simp; omega) (by repeat (first | (with_reducible exact Ext.refl _) | (with_reducible assumption) | with_reducible refine Ext.drew ?_ | with_reducible refine Ext.alloc ?_ _ | with_reducible refine Ext.setCell ?_ (by first | (simp; done) | (simp; omega) | omega) _ | with_reducible refine Ext.trans ?_ (by with_reducible assumption))) ?_; intro go1 gc1 w3 ho1 hx3 hg3 hv3; have hb4 : w.heap.size < w3.heap.size := Nat.lt_of_lt_of_le (Nat.lt_of_lt_of_eq (Nat.lt_succ_self _) HWS.out.symm) hx3.size; obtain ⟨g, rfl, hg⟩ := own_at ho1 hv3; have b0 := hx3.cells hW0; have b1 := hx3.cells hW1; have b2 := hx3.cells hW2; have b3 := hx3.cells hW3; have b4 := hx3.cells hW4; (first | (have hg4 : World.grownBy _ w3 (some wy.heap.size) := hg3; have hvb := (by with_reducible exact grown_lit hg4 F1.out (by simp)); have hgn : wy.heap.size + 1 ≠ g := (by rcases hg with e | e <;> rw [e] <;> simp); clear hg4) | (have hg4 : World.grownBy _ w3 (some (wy.heap.size + 1)) := hg3; have hvb := (by with_reducible exact grown_lit hg4 F2.out (by simp)); have hgn : wy.heap.size ≠ g := (by rcases hg with e | e <;> rw [e] <;> simp <;> omega); clear hg4) | skip); clear hg hv3 hg3)
                  | (go_simp; go_at_call 42; with_reducible refine Calls.mono (insert_lit (s := s) (c1 := c1) (c2 := c2) (c3 := c3) (r := r) (i := k) (w0 := W) ho1 rfl hx3 hkl hml1) ?_; rintro e w4 ⟨go2, gc2, rfl, ho2, hx4⟩; clear ho1)
                  | (go_simp; go_at_call 42; with_reducible refine Calls.mono (insert_lit2 (s := s) (c1 := c1) (c2 := c2) (c3 := c3) (r := r) (i := k) (w0 := W) ho1 rfl hx3 hkl hml1 hvb hgn) ?_; rintro e w4 ⟨go2, gc2, rfl, ho2, hx4⟩; clear ho1))
                all_goals
                  rw [← HLQ.out] at ho2 ⊢
                  go_wp2_with fail
                  go_meet
                  exact ⟨_, _, rfl, by with_reducible assumption, by with_reducible assumption⟩
            case rest =>
                obtain ⟨go, gc, rfl, ho, hxc⟩ := hcut
                obtain ⟨a2, cp2, e2, hf2, _, _, _⟩ := ho.fresh
                injection e2 with e2 _ e3
                subst e2 e3
                have HF2 := Lib.hid hf2
                have HXC := Lib.hid (hxW.trans hxc)
                clear ho hf2 hxc OB HLQ d0 d1 d2 d3 d4 hsz hb1 hb2 hb3 hkl F1 F2 HNIL
                cases ht : entsB L
                all_goals
                  have HT := Lib.hid ht; clear ht
                  go_wp2_with fail
                  refine (impl_AreEntries HF2.out.row HLL.out).mono ?_; rw [HT.out]; rintro e w5 ⟨rfl, hx5⟩
                  have HX5 := Lib.hid (HXC.out.trans hx5)
                  have HF5 := Lib.hid ((HF2.out.ext hx5).mono HWL.out)
                  clear hx5
                  go_wp2
                  go_ret2
                  rw [HADL.out, HADB.out, HT.out]
                · exact .mk none 0 rfl HX5.out freshE_nil
                · exact .mk _ _ rfl HX5.out HF5.out
end Go.Proofs.Ytkejhhflpnfepaa
