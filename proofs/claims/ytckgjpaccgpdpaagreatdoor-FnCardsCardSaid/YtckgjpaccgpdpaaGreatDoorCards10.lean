/-
  Proved here: what MostFound and its reference return.
  Conditions: the lengths fit.
-/
import Derived.Test.YtckgjpaccgpdpaaGreatDoorCards5
import Derived.Test.YtckgjpaccgpdpaaGreatDoorForm
import Derived.Test.YtckgjpaccgpdpaaGreatDoorLcs
import Derived.StillTailTactics
namespace Go.Proofs.YtckgjpaccgpdpaaGreatDoor
open Go.RowKit

/-- the codes of a card's punches -/
def pco (c : CardD) : List Int := c.ps.map Pch.code
theorem pco_len (c : CardD) : (pco c).length = c.ps.length := by simp [pco]
theorem pco_nth {c : CardD} {k : Nat} (h : k < c.ps.length) : nth (pco c) k = (nth c.ps k).code := by simp [pco, nth, List.getD, h]
def gMost (c : CardD) (cs : List Int) : Value := if askB c cs then .tuple #[.int .i64 (lcsB cs (pco c) 0 0), .bool true] else .tuple #[.int .i64 0, .bool false]

theorem made_get (v : Value) {m j : Nat} (h : j < m) : (madeCells #[v] m).toList[j]? = some v := by
  simp [madeCells, h, Nat.mod_one]

/-- a slice of numbers f 0 .. f (n - 1) -/
def MRow (w : World) (v : Value) (n : Nat) (f : Nat → Nat) : Prop := ∃ ro rc, v = .slice ro n rc ∧ RowAt w ro 1 n (fun j _ => .int .i64 (f j))
theorem MRow.ext {w w' : World} {v : Value} {n : Nat} {f : Nat → Nat} (h : MRow w v n f) (hx : Ext w w') : MRow w' v n f := by
  obtain ⟨ro, rc, e, hr⟩ := h
  exact ⟨ro, rc, e, hr.ext hx⟩
theorem MRow.at {w : World} {v : Value} {n : Nat} {f : Nat → Nat} (h : MRow w v n f) (hn : 0 < n) : ∃ b off rc, v = .slice (some ⟨b, off, none⟩) n rc ∧ ∀ j, j < n → w.cell? ⟨b, off + j, none⟩ = some (.int .i64 (f j)) := by
  obtain ⟨ro, rc, e, hr⟩ := h
  obtain ⟨b, off, rfl, H⟩ := hr hn
  exact ⟨b, off, rc, e, fun j hj => by have := H j hj 0 (by decide); simpa using this⟩
theorem MRow.zero {w w' : World} {n : Nat} {g : Nat} {base : Nat} {e : TypeId} {f : Nat → Nat} (h : w.ownsRow base e 1 (.slice (some ⟨g, 0, none⟩) n n) n (madeCells #[Value.int .i64 0] (n * 1)).toList) (hf : ∀ j, j < n → f j = 0) (hx : Ext w w') : MRow w' (.slice (some ⟨g, 0, none⟩) n n) n f := by
  refine ⟨_, _, rfl, RowAt.ext (fun hn => ⟨g, 0, rfl, fun k hk j hj => ?_⟩) hx⟩
  obtain rfl : j = 0 := by omega
  have := h.cellAt k (by omega)
  rw [made_get _ (by omega)] at this
  rw [hf k hk]
  simpa using this
theorem nth_lastE {α : Type} [Inhabited α] (xs : List α) (x : α) : nth (xs ++ [x]) xs.length = x := by simp [nth, List.getD]
/-- the numbers of a row, as a list -/
def fR (f : Nat → Nat) : Nat → List Int
  | 0 => [(f 0 : Int)]
  | q + 1 => fR f q ++ [(f (q + 1) : Int)]
theorem fR_len (f : Nat → Nat) (q : Nat) : (fR f q).length = q + 1 := by
  induction q with
  | zero => rfl
  | succ q ih => simp [fR, ih]
theorem fR_nth (f : Nat → Nat) {q j : Nat} (h : j ≤ q) : nth (fR f q) j = f j := by
  induction q with
  | zero =>
    obtain rfl : j = 0 := by omega
    rfl
  | succ q ih =>
    rw [fR]
    by_cases e : j = q + 1
    · subst e
      have := nth_lastE (fR f q) (f (q + 1) : Int)
      rwa [fR_len] at this
    · simp only [nth, List.getD]
      rw [List.getElem?_append_left (by rw [fR_len]; omega)]
      exact ih (by omega)
theorem Owns.one {w : World} {base : Nat} {e : TypeId} {x : Int} (hb : base ≤ w.heap.size) : Owns (w.alloc (.cells #[.int .i64 x] e)) base e 1 icc (.slice (some ⟨w.heap.size, 0, none⟩) 1 1) [x] := by
  have := World.ownsRow_lit (base := base) (e := e) (size := 1) w #[.int .i64 x] 1 hb (by decide) (by simp)
  simpa [Owns, fl, icc] using this

theorem MRow.own {w : World} {base : Nat} {e : TypeId} {v : Value} {f : Nat → Nat} {q : Nat} (h : Owns w base e 1 icc v (fR f q)) : MRow w v (q + 1) f := by
  obtain ⟨go, gc, hv, hF, _⟩ := h.fresh
  rw [fR_len] at hv hF
  refine ⟨go, gc, hv, fun hn => ?_⟩
  obtain ⟨b, off, e, H⟩ := hF.row hn
  refine ⟨b, off, e, fun k hk j hj => ?_⟩
  have := H k hk j hj
  rw [this]
  show some (Value.int .i64 (nth (fR f q) k)) = _
  rw [fR_nth f (by omega)]

set_option maxRecDepth 100000 in
set_option maxHeartbeats 4000000 in
theorem impl_MostFound {c : CardD} {b0 off0 cap : Nat} {cs : List Int} {bo : Option Addr} {bcap : Nat} {w : World} (h : RowAt w (some ⟨b0, off0, none⟩) 2 c.ps.length (fun k => (nth c.ps k).c)) (hn : c.ps.length ≤ cap ∧ cap ≤ 9223372036854775807)
    (h' : RowAt w bo 1 cs.length (ic cs)) (hcs : cs.length ≤ 1048576) :
    Calls Tryz.prog 16 #[c.val (some ⟨b0, off0, none⟩) cap, .slice bo cs.length bcap] w fun e w' => e = .returned (gMost c cs) ∧ Ext w w' := by
  obtain ⟨i0, hi, hz0, hz1, hz2⟩ := info_parts infoInt
  have H := fun x hx => impl_IsCard (w := x) (ao := some ⟨b0, off0, none⟩) (cap := cap) (h.ext hx) (by omega)
  have HC := fun x hx => impl_areCodes (w := x) (ao := bo) (cap := bcap) (h'.ext hx) (by omega)
  cases hb : cardB c
  · have hfin : gMost c cs = .tuple #[.int .i64 0, .bool false] := by simp [gMost, askB, hb]
    rw [hfin]
    rw [hb] at H
    clear hfin hb
    unfold CardD.val at H ⊢
    go_enter Tryz.func16, Tryz.ntmps16
    go_wp2_with fail
    refine (H _ (by repeat (first | (with_reducible exact Ext.refl _) | (with_reducible assumption) | with_reducible refine Ext.drew ?_ | with_reducible refine Ext.alloc ?_ _ | with_reducible refine Ext.setCell ?_ (by first | (simp; done) | (simp; omega) | omega) _ | with_reducible refine Ext.trans ?_ (by with_reducible assumption)))).mono ?_; rintro e w1 ⟨rfl, hx1⟩
    go_wp2
    go_ret2
    exact ⟨rfl, (by repeat (first | (with_reducible exact Ext.refl _) | (with_reducible assumption) | with_reducible refine Ext.drew ?_ | with_reducible refine Ext.alloc ?_ _ | with_reducible refine Ext.setCell ?_ (by first | (simp; done) | (simp; omega) | omega) _ | with_reducible refine Ext.trans ?_ (by with_reducible assumption)))⟩
  · rw [hb] at H
    cases hcb : codesB cs
    · have hfin : gMost c cs = .tuple #[.int .i64 0, .bool false] := by simp [gMost, askB, hcb]
      rw [hfin]
      rw [hcb] at HC
      clear hfin hb hcb
      unfold CardD.val at H ⊢
      go_enter Tryz.func16, Tryz.ntmps16
      go_wp2_with fail
      refine (H _ (by repeat (first | (with_reducible exact Ext.refl _) | (with_reducible assumption) | with_reducible refine Ext.drew ?_ | with_reducible refine Ext.alloc ?_ _ | with_reducible refine Ext.setCell ?_ (by first | (simp; done) | (simp; omega) | omega) _ | with_reducible refine Ext.trans ?_ (by with_reducible assumption)))).mono ?_; rintro e w1 ⟨rfl, hx1⟩
      go_wp2_with fail
      refine (HC _ (by repeat (first | (with_reducible exact Ext.refl _) | (with_reducible assumption) | with_reducible refine Ext.drew ?_ | with_reducible refine Ext.alloc ?_ _ | with_reducible refine Ext.setCell ?_ (by first | (simp; done) | (simp; omega) | omega) _ | with_reducible refine Ext.trans ?_ (by with_reducible assumption)))).mono ?_; rintro e w2 ⟨rfl, hx2⟩
      go_wp2
      go_ret2
      exact ⟨rfl, (by repeat (first | (with_reducible exact Ext.refl _) | (with_reducible assumption) | with_reducible refine Ext.drew ?_ | with_reducible refine Ext.alloc ?_ _ | with_reducible refine Ext.setCell ?_ (by first | (simp; done) | (simp; omega) | omega) _ | with_reducible refine Ext.trans ?_ (by with_reducible assumption)))⟩
    · have hA : askB c cs = true := by simp [askB, hb, hcb]
      have hfin : gMost c cs = .tuple #[.int .i64 (lcsB cs (pco c) 0 0), .bool true] := by simp [gMost, hA]
      have hbd := ask_bd hA
      rw [hfin]
      rw [hcb] at HC
      clear hfin hb hcb hA
      unfold CardD.val at H ⊢
      go_enter Tryz.func16, Tryz.ntmps16
      go_wp2_with fail
      refine (H _ (by repeat (first | (with_reducible exact Ext.refl _) | (with_reducible assumption) | with_reducible refine Ext.drew ?_ | with_reducible refine Ext.alloc ?_ _ | with_reducible refine Ext.setCell ?_ (by first | (simp; done) | (simp; omega) | omega) _ | with_reducible refine Ext.trans ?_ (by with_reducible assumption)))).mono ?_; rintro e w1 ⟨rfl, hx1⟩
      obtain ⟨q0, q1, q2, q3⟩ := Box4.of hx1
      have zq : w.heap.size < w1.heap.size := World.block_lt_of_cell? _ _ q0
      have hx01 : Ext w w1 := (by repeat (first | (with_reducible exact Ext.refl _) | (with_reducible assumption) | with_reducible refine Ext.drew ?_ | with_reducible refine Ext.alloc ?_ _ | with_reducible refine Ext.setCell ?_ (by first | (simp; done) | (simp; omega) | omega) _ | with_reducible refine Ext.trans ?_ (by with_reducible assumption)))
      clear hx1
      go_wp2_with fail
      refine (HC _ hx01).mono ?_; rintro e wb ⟨rfl, hx2⟩
      have q3 := hx2.cells q3
      have zq : w.heap.size < wb.heap.size := World.block_lt_of_cell? _ _ q3
      have hx0 := hx01.trans hx2
      have hrow := h.ext hx0
      have hcod := h'.ext hx0
      clear hx01 hx2 H HC h h' q0 q1 q2
      go_wp2_with (refine wpList_make_full _ rfl _ _ _ rfl wb.heap.size 3 i0 _ 1 Tryz.underlying27 hi hz0 hz1 .i64 .i64 _ _ (c.ps.length + 1) rfl rfl (by omega) (by omega) (by rw [hz2]; omega) (by unfold maxLen; omega) (Nat.le_refl _) ?_; intro w3 hown hgrow)
      have hx3 : Ext wb w3 := Below.grown (Below.refl _ _) hgrow (Nat.le_refl _) (fun k hk => by cases hk)
      have hr0 : MRow w3 (.slice (some ⟨wb.heap.size, 0, none⟩) (c.ps.length + 1) (c.ps.length + 1)) (c.ps.length + 1) (lcsF cs (pco c) 0) := MRow.zero hown (fun j _ => lcsF_zero _ _ _) (Ext.refl _)
      clear hown hgrow
      go_wp2
      go_loopw [6, 28] (fun row i wr => ∃ k : Nat, k ≤ cs.length ∧ i = .int .i64 k ∧ Ext wb wr ∧ MRow wr row (c.ps.length + 1) (lcsF cs (pco c) k)) (fun _ i _ => cs.length - (intOf i).toNat)
      case atStart => exact ⟨0, by omega, rfl, hx3, hr0⟩
      case round =>
        clear hx3 hr0
        obtain ⟨k, hk, rfl, hx, hrw⟩ := hrel
        have g3 := hx.cells q3
        have gl := World.block_lt_of_cell? _ _ g3
        obtain ⟨rb, ro, rc, rfl, hrc⟩ := hrw.at (by omega)
        by_cases hlt : k < cs.length
        · obtain ⟨b, off, rfl, hcell⟩ := ints_at' hcod (by omega)
          have d0 := hx.cells (hcell k hlt)
          have hrow2 := hrow.ext hx
          have hst := Owns.one (w := wr) (base := wr.heap.size) (e := 3) (x := 0) (Nat.le_refl _)
          rw [show ([0] : List Int) = fR (lcsF cs (pco c) (k + 1)) 0 by simp [fR, lcsF_zero']] at hst
          obtain ⟨wo, rfl⟩ : ∃ wo : World, wo = wr := ⟨_, rfl⟩
          clear hcell
          go_wp2
          go_loopw [9, 36] (fun nx j wi => ∃ q : Nat, q ≤ c.ps.length ∧ j = .int .i64 q ∧ Ext wo wi ∧ Owns wi wo.heap.size 3 1 icc nx (fR (lcsF cs (pco c) (k + 1)) q)) (fun _ j _ => c.ps.length - (intOf j).toNat)
          case atStart => exact ⟨0, by omega, rfl, (by repeat (first | (with_reducible exact Ext.refl _) | (with_reducible assumption) | with_reducible refine Ext.drew ?_ | with_reducible refine Ext.alloc ?_ _ | with_reducible refine Ext.setCell ?_ (by first | (simp; done) | (simp; omega) | omega) _ | with_reducible refine Ext.trans ?_ (by with_reducible assumption))), hst⟩
          case round =>
            clear hst
            obtain ⟨q, hq, rfl, hX, hown⟩ := hrel
            by_cases hqn : q < c.ps.length
            · obtain ⟨b1, off1, hb1, hpc⟩ := hrow2 (by omega)
              injection hb1 with hb1
              injection hb1 with e1 e2
              subst e1 e2
              have p0 : wr.cell? ⟨b0, off0 + q * 2, none⟩ = some (.int .i64 (nth c.ps q).code) := hX.cells (hpc q hqn 0 (by decide))
              have p1 : wr.cell? ⟨b0, off0 + q * 2 + 1, none⟩ = some (.int .i64 (nth c.ps q).time) := hX.cells (hpc q hqn 1 (by decide))
              obtain ⟨nb, no, nc, rfl, hnc⟩ := (MRow.own hown).at (by omega)
              have hstep := lcsF_step (cs := cs) (ps := pco c) hlt (by rw [pco_len]; exact hqn)
              rw [pco_nth hqn] at hstep
              have hle1 := lcsF_le cs (pco c) k (q + 1)
              have hle2 := lcsF_le cs (pco c) (k + 1) q
              have hle3 := lcsF_le cs (pco c) k q
              have hxp : Ext wr (wr.alloc (Obj.cells #[.int .i64 (nth c.ps q).code, .int .i64 (nth c.ps q).time] 35)) := (Ext.refl _).alloc _
              have r1 := hX.cells (hrc (q + 1) (by omega))
              have r2 := hX.cells (hrc q (by omega))
              have n1 := hnc q (by omega)
              have g1 := Grow.cells (hxp.cells r1)
              have g2 := Grow.cells (hxp.cells n1)
              have hnx : fR (lcsF cs (pco c) (k + 1)) (q + 1) = fR (lcsF cs (pco c) (k + 1)) q ++ [(lcsF cs (pco c) (k + 1) (q + 1) : Int)] := rfl
              have hfl := fR_len (lcsF cs (pco c) (k + 1)) q
              generalize lcsF cs (pco c) (k + 1) (q + 1) = M at hstep hnx
              generalize hA : lcsF cs (pco c) k (q + 1) = A at *
              generalize hB : lcsF cs (pco c) (k + 1) q = B at *
              generalize hD : lcsF cs (pco c) k q = D at *
              clear hA hB hD hpc hnc hrc
              have hfl' : (fR (lcsF cs (pco c) (k + 1)) q).length ≤ 13 := by omega
              clear hfl
              have HN := Lib.hid hnx; clear hnx
              have HS := Lib.hid hstep; clear hstep
              have hqi0 : (0 : Int) ≤ (q : Int) := by omega
              by_cases hAB : (A : Int) < (B : Int)
              · by_cases hcd : (nth c.ps q).code = nth cs k
                · have hcd' : ((nth c.ps q).code == nth cs k) = true := by simpa using hcd
                  by_cases hMD : (B : Int) < (D : Int) + 1
                  · skip
                    have hM : (M : Int) = (D : Int) + 1 := by
                      have := HS.out
                      rw [if_pos hcd] at this
                      omega
                    have hnx : fR (lcsF cs (pco c) (k + 1)) (q + 1) = fR (lcsF cs (pco c) (k + 1)) q ++ [(D : Int) + 1] := by rw [HN.out, hM]
                    have HN2 := Lib.hid hnx; clear hnx hM hcd
                    have hrow3 := fun x => row_lit (w := x) (cs := #[.int .i64 ((D : Int) + 1)]) (T := 3) (s := 1) (cc := icc) (x := ((D : Int) + 1)) (by intro j hj; obtain rfl : j = 0 := (by omega); rfl)
                    go_wp2
                    refine wp_region_ext (by kernel_rfl) (by kernel_rfl) ?_
                    repeat (go_big_quiet_step (fail))
                    refine wpQuiet_nil ?_
                    rintro _ ⟨⟨w1, hx1⟩, rfl⟩
                    clear g1 g2
                    rename_i w2
                    have hX2 : Ext wr w2 := hxp.trans hx1
                    have e0 : w2.cell? ⟨wr.heap.size, 0, none⟩ = some (.int .i64 (nth c.ps q).code) := hx1.cells (by go_simp)
                    have el := World.block_lt_of_cell? _ _ e0
                    have r2 := hX2.cells r2
                    have hown2 := hown.ext' hX2
                    have hXo := hX.trans hX2
                    go_wp2_with (at_builtin; refine wpList_append_bf rfl _ _ 27 rfl 3 i0 _ 1 8 Tryz.underlying27 hi hz0 hz1 hz2 rfl (by decide) icc icc_one wo.heap.size (Nat.le_trans hXo.size (by simp)) _ (fR (lcsF cs (pco c) (k + 1)) q) [(D : Int) + 1] (fR (lcsF cs (pco c) (k + 1)) (q + 1)) HN2 rfl (hown2.ext' ((Ext.refl _).alloc _)) ⟨w2.heap.size, 0, none⟩ 1 1 rfl rfl (hrow3 _) (by simp; omega) (by simp; omega) ?_; intro go1 gc1 w3 ho1 hb3 hg3 hv3; have hx3 : Ext wo w3 := Ext.below (hXo.alloc _) hb3 (Nat.le_refl _); clear hb3 hg3 hv3)
                    go_wp2
                    go_roundw
                    case rel => exact ⟨q + 1, by omega, by go_num, hx3, ho1⟩
                    case measure => simp [intOf]; omega
                  · skip
                    have hM : (M : Int) = (B : Int) := by
                      have := HS.out
                      rw [if_pos hcd] at this
                      omega
                    have hnx : fR (lcsF cs (pco c) (k + 1)) (q + 1) = fR (lcsF cs (pco c) (k + 1)) q ++ [(B : Int)] := by rw [HN.out, hM]
                    have HN2 := Lib.hid hnx; clear hnx hM hcd
                    have hrow3 := fun x => row_lit (w := x) (cs := #[.int .i64 ((B : Int))]) (T := 3) (s := 1) (cc := icc) (x := ((B : Int))) (by intro j hj; obtain rfl : j = 0 := (by omega); rfl)
                    go_wp2
                    refine wp_region_ext (by kernel_rfl) (by kernel_rfl) ?_
                    repeat (go_big_quiet_step (fail))
                    refine wpQuiet_nil ?_
                    rintro _ ⟨⟨w1, hx1⟩, rfl⟩
                    clear g1 g2
                    rename_i w2
                    have hX2 : Ext wr w2 := hxp.trans hx1
                    have e0 : w2.cell? ⟨wr.heap.size, 0, none⟩ = some (.int .i64 (nth c.ps q).code) := hx1.cells (by go_simp)
                    have el := World.block_lt_of_cell? _ _ e0
                    have r2 := hX2.cells r2
                    have hown2 := hown.ext' hX2
                    have hXo := hX.trans hX2
                    go_wp2_with (at_builtin; refine wpList_append_bf rfl _ _ 27 rfl 3 i0 _ 1 8 Tryz.underlying27 hi hz0 hz1 hz2 rfl (by decide) icc icc_one wo.heap.size (Nat.le_trans hXo.size (by simp)) _ (fR (lcsF cs (pco c) (k + 1)) q) [(B : Int)] (fR (lcsF cs (pco c) (k + 1)) (q + 1)) HN2 rfl (hown2.ext' ((Ext.refl _).alloc _)) ⟨w2.heap.size, 0, none⟩ 1 1 rfl rfl (hrow3 _) (by simp; omega) (by simp; omega) ?_; intro go1 gc1 w3 ho1 hb3 hg3 hv3; have hx3 : Ext wo w3 := Ext.below (hXo.alloc _) hb3 (Nat.le_refl _); clear hb3 hg3 hv3)
                    go_wp2
                    go_roundw
                    case rel => exact ⟨q + 1, by omega, by go_num, hx3, ho1⟩
                    case measure => simp [intOf]; omega
                · have hcd' : ((nth c.ps q).code == nth cs k) = false := by simpa using hcd
                  have hM : (M : Int) = (B : Int) := by
                    have := HS.out
                    rw [if_neg hcd] at this
                    omega
                  have hnx : fR (lcsF cs (pco c) (k + 1)) (q + 1) = fR (lcsF cs (pco c) (k + 1)) q ++ [(B : Int)] := by rw [HN.out, hM]
                  have HN2 := Lib.hid hnx; clear hnx hM hcd
                  have hrow3 := fun x => row_lit (w := x) (cs := #[.int .i64 ((B : Int))]) (T := 3) (s := 1) (cc := icc) (x := ((B : Int))) (by intro j hj; obtain rfl : j = 0 := (by omega); rfl)
                  go_wp2
                  refine wp_region_ext (by kernel_rfl) (by kernel_rfl) ?_
                  repeat (go_big_quiet_step (fail))
                  refine wpQuiet_nil ?_
                  rintro _ ⟨⟨w1, hx1⟩, rfl⟩
                  clear g1 g2
                  rename_i w2
                  have hX2 : Ext wr w2 := hxp.trans hx1
                  have e0 : w2.cell? ⟨wr.heap.size, 0, none⟩ = some (.int .i64 (nth c.ps q).code) := hx1.cells (by go_simp)
                  have el := World.block_lt_of_cell? _ _ e0
                  have r2 := hX2.cells r2
                  have hown2 := hown.ext' hX2
                  have hXo := hX.trans hX2
                  go_wp2_with (at_builtin; refine wpList_append_bf rfl _ _ 27 rfl 3 i0 _ 1 8 Tryz.underlying27 hi hz0 hz1 hz2 rfl (by decide) icc icc_one wo.heap.size (Nat.le_trans hXo.size (by simp)) _ (fR (lcsF cs (pco c) (k + 1)) q) [(B : Int)] (fR (lcsF cs (pco c) (k + 1)) (q + 1)) HN2 rfl (hown2.ext' ((Ext.refl _).alloc _)) ⟨w2.heap.size, 0, none⟩ 1 1 rfl rfl (hrow3 _) (by simp; omega) (by simp; omega) ?_; intro go1 gc1 w3 ho1 hb3 hg3 hv3; have hx3 : Ext wo w3 := Ext.below (hXo.alloc _) hb3 (Nat.le_refl _); clear hb3 hg3 hv3)
                  go_wp2
                  go_roundw
                  case rel => exact ⟨q + 1, by omega, by go_num, hx3, ho1⟩
                  case measure => simp [intOf]; omega
              · by_cases hcd : (nth c.ps q).code = nth cs k
                · have hcd' : ((nth c.ps q).code == nth cs k) = true := by simpa using hcd
                  by_cases hMD : (A : Int) < (D : Int) + 1
                  · skip
                    have hM : (M : Int) = (D : Int) + 1 := by
                      have := HS.out
                      rw [if_pos hcd] at this
                      omega
                    have hnx : fR (lcsF cs (pco c) (k + 1)) (q + 1) = fR (lcsF cs (pco c) (k + 1)) q ++ [(D : Int) + 1] := by rw [HN.out, hM]
                    have HN2 := Lib.hid hnx; clear hnx hM hcd
                    have hrow3 := fun x => row_lit (w := x) (cs := #[.int .i64 ((D : Int) + 1)]) (T := 3) (s := 1) (cc := icc) (x := ((D : Int) + 1)) (by intro j hj; obtain rfl : j = 0 := (by omega); rfl)
                    go_wp2
                    refine wp_region_ext (by kernel_rfl) (by kernel_rfl) ?_
                    repeat (go_big_quiet_step (fail))
                    refine wpQuiet_nil ?_
                    rintro _ ⟨⟨w1, hx1⟩, rfl⟩
                    clear g1 g2
                    rename_i w2
                    have hX2 : Ext wr w2 := hxp.trans hx1
                    have e0 : w2.cell? ⟨wr.heap.size, 0, none⟩ = some (.int .i64 (nth c.ps q).code) := hx1.cells (by go_simp)
                    have el := World.block_lt_of_cell? _ _ e0
                    have r2 := hX2.cells r2
                    have hown2 := hown.ext' hX2
                    have hXo := hX.trans hX2
                    go_wp2_with (at_builtin; refine wpList_append_bf rfl _ _ 27 rfl 3 i0 _ 1 8 Tryz.underlying27 hi hz0 hz1 hz2 rfl (by decide) icc icc_one wo.heap.size (Nat.le_trans hXo.size (by simp)) _ (fR (lcsF cs (pco c) (k + 1)) q) [(D : Int) + 1] (fR (lcsF cs (pco c) (k + 1)) (q + 1)) HN2 rfl (hown2.ext' ((Ext.refl _).alloc _)) ⟨w2.heap.size, 0, none⟩ 1 1 rfl rfl (hrow3 _) (by simp; omega) (by simp; omega) ?_; intro go1 gc1 w3 ho1 hb3 hg3 hv3; have hx3 : Ext wo w3 := Ext.below (hXo.alloc _) hb3 (Nat.le_refl _); clear hb3 hg3 hv3)
                    go_wp2
                    go_roundw
                    case rel => exact ⟨q + 1, by omega, by go_num, hx3, ho1⟩
                    case measure => simp [intOf]; omega
                  · skip
                    have hM : (M : Int) = (A : Int) := by
                      have := HS.out
                      rw [if_pos hcd] at this
                      omega
                    have hnx : fR (lcsF cs (pco c) (k + 1)) (q + 1) = fR (lcsF cs (pco c) (k + 1)) q ++ [(A : Int)] := by rw [HN.out, hM]
                    have HN2 := Lib.hid hnx; clear hnx hM hcd
                    have hrow3 := fun x => row_lit (w := x) (cs := #[.int .i64 ((A : Int))]) (T := 3) (s := 1) (cc := icc) (x := ((A : Int))) (by intro j hj; obtain rfl : j = 0 := (by omega); rfl)
                    go_wp2
                    refine wp_region_ext (by kernel_rfl) (by kernel_rfl) ?_
                    repeat (go_big_quiet_step (fail))
                    refine wpQuiet_nil ?_
                    rintro _ ⟨⟨w1, hx1⟩, rfl⟩
                    clear g1 g2
                    rename_i w2
                    have hX2 : Ext wr w2 := hxp.trans hx1
                    have e0 : w2.cell? ⟨wr.heap.size, 0, none⟩ = some (.int .i64 (nth c.ps q).code) := hx1.cells (by go_simp)
                    have el := World.block_lt_of_cell? _ _ e0
                    have r2 := hX2.cells r2
                    have hown2 := hown.ext' hX2
                    have hXo := hX.trans hX2
                    go_wp2_with (at_builtin; refine wpList_append_bf rfl _ _ 27 rfl 3 i0 _ 1 8 Tryz.underlying27 hi hz0 hz1 hz2 rfl (by decide) icc icc_one wo.heap.size (Nat.le_trans hXo.size (by simp)) _ (fR (lcsF cs (pco c) (k + 1)) q) [(A : Int)] (fR (lcsF cs (pco c) (k + 1)) (q + 1)) HN2 rfl (hown2.ext' ((Ext.refl _).alloc _)) ⟨w2.heap.size, 0, none⟩ 1 1 rfl rfl (hrow3 _) (by simp; omega) (by simp; omega) ?_; intro go1 gc1 w3 ho1 hb3 hg3 hv3; have hx3 : Ext wo w3 := Ext.below (hXo.alloc _) hb3 (Nat.le_refl _); clear hb3 hg3 hv3)
                    go_wp2
                    go_roundw
                    case rel => exact ⟨q + 1, by omega, by go_num, hx3, ho1⟩
                    case measure => simp [intOf]; omega
                · have hcd' : ((nth c.ps q).code == nth cs k) = false := by simpa using hcd
                  have hM : (M : Int) = (A : Int) := by
                    have := HS.out
                    rw [if_neg hcd] at this
                    omega
                  have hnx : fR (lcsF cs (pco c) (k + 1)) (q + 1) = fR (lcsF cs (pco c) (k + 1)) q ++ [(A : Int)] := by rw [HN.out, hM]
                  have HN2 := Lib.hid hnx; clear hnx hM hcd
                  have hrow3 := fun x => row_lit (w := x) (cs := #[.int .i64 ((A : Int))]) (T := 3) (s := 1) (cc := icc) (x := ((A : Int))) (by intro j hj; obtain rfl : j = 0 := (by omega); rfl)
                  go_wp2
                  refine wp_region_ext (by kernel_rfl) (by kernel_rfl) ?_
                  repeat (go_big_quiet_step (fail))
                  refine wpQuiet_nil ?_
                  rintro _ ⟨⟨w1, hx1⟩, rfl⟩
                  clear g1 g2
                  rename_i w2
                  have hX2 : Ext wr w2 := hxp.trans hx1
                  have e0 : w2.cell? ⟨wr.heap.size, 0, none⟩ = some (.int .i64 (nth c.ps q).code) := hx1.cells (by go_simp)
                  have el := World.block_lt_of_cell? _ _ e0
                  have r2 := hX2.cells r2
                  have hown2 := hown.ext' hX2
                  have hXo := hX.trans hX2
                  go_wp2_with (at_builtin; refine wpList_append_bf rfl _ _ 27 rfl 3 i0 _ 1 8 Tryz.underlying27 hi hz0 hz1 hz2 rfl (by decide) icc icc_one wo.heap.size (Nat.le_trans hXo.size (by simp)) _ (fR (lcsF cs (pco c) (k + 1)) q) [(A : Int)] (fR (lcsF cs (pco c) (k + 1)) (q + 1)) HN2 rfl (hown2.ext' ((Ext.refl _).alloc _)) ⟨w2.heap.size, 0, none⟩ 1 1 rfl rfl (hrow3 _) (by simp; omega) (by simp; omega) ?_; intro go1 gc1 w3 ho1 hb3 hg3 hv3; have hx3 : Ext wo w3 := Ext.below (hXo.alloc _) hb3 (Nat.le_refl _); clear hb3 hg3 hv3)
                  go_wp2
                  go_roundw
                  case rel => exact ⟨q + 1, by omega, by go_num, hx3, ho1⟩
                  case measure => simp [intOf]; omega
            · have hqe : q = c.ps.length := by omega
              subst hqe
              have hrn := MRow.own hown
              go_wp2
              go_roundw
              case rel => exact ⟨k + 1, by omega, by go_num, hx.trans hX, hrn⟩
              case measure => simp [intOf]; omega
        · have hkn : k = cs.length := by omega
          have hfv := hrc c.ps.length (by omega)
          rw [hkn] at hfv
          rw [show lcsF cs (pco c) cs.length c.ps.length = lcsB cs (pco c) 0 0 by rw [← pco_len c]; exact lcs_meet _ _] at hfv
          clear hkn hrc
          go_wp2
          go_ret2
          exact ⟨rfl, hx0.trans hx⟩

end Go.Proofs.YtckgjpaccgpdpaaGreatDoor
