/-
  Proved here: what MergeRepeats and its reference return.
  Conditions: the number of punches fits an int.
-/
import Derived.Test.YtbpcejdpgckkoaaCards1
import Derived.Test.YtbpcejdpgckkoaaApart
import Derived.Deep.RegionLaw
import Derived.Deep.DrawnRows
namespace Go.Proofs.Ytbpcejdpgckkoaa
open Go.RowKit

/-- whether punch k stays -/
def stays (c : CardD) (k : Nat) : Bool := k == 0 || (nth c.ps (k - 1)).code != (nth c.ps k).code
/-- the punches that stay among the first -/
def mrU (c : CardD) : Nat → List Pch
  | 0 => []
  | k + 1 => if stays c k then mrU c k ++ [nth c.ps k] else mrU c k
def mrC (c : CardD) : CardD := if cardB c then ⟨c.number, c.start, c.finish, mrU c c.ps.length⟩ else ⟨0, 0, 0, []⟩
theorem mrU_len (c : CardD) (k : Nat) : (mrU c k).length ≤ k := by
  induction k with
  | zero => simp [mrU]
  | succ k ih => rw [mrU]; split <;> (try simp) <;> omega
theorem mrC_len (c : CardD) : (mrC c).ps.length ≤ 12 := by
  unfold mrC
  split
  · rename_i h
    have := mrU_len c c.ps.length
    simp only [cardB, headB, Bool.and_eq_true, decide_eq_true_eq] at h
    have := h.1.2
    show (mrU c c.ps.length).length ≤ 12
    omega
  · simp
theorem pch_cells : ∀ (x : Pch) (j : Nat), j < 2 → (x.c j).oneCell' = true := by
  intro x j hj
  match j, hj with
  | 0, _ => rfl
  | 1, _ => rfl
theorem grown_put (w : World) (p : Addr) (u : Value) : w.grownBy (w.setCell p u) (some p.block) :=
  ⟨rfl, rfl, rfl, by simp [World.setCell], fun k _ hne => Below.heap_setCell _ _ _ _ (fun e => hne (by rw [e]))⟩
theorem Owns.keptG {α : Type} {w w' : World} {base : Nat} {e : TypeId} {s : Nat} {cc : α → Nat → Value} {v : Value} {xs : List α} {row : Option Nat} (h : Owns w base e s cc v xs) (hg : w.grownBy w' row) (hne : v.ownBlock ≠ row) : Owns w' base e s cc v xs := by
  have h0 : w.ownsRow base e s v xs.length (fl s cc xs) := h
  exact h0.kept hg (.inr hne)
theorem Apart.mono {w w' : World} {go : Option Addr} {v : Value} (h : Apart w go v) (hs : w.heap.size ≤ w'.heap.size) : Apart w' go v := fun a e => ⟨Nat.lt_of_lt_of_le (h a e).1 hs, (h a e).2⟩

attribute [local go_sem ↓] Go.wp_at_zero Go.wp_at_succ

set_option maxRecDepth 100000 in
set_option maxHeartbeats 4000000 in
theorem impl_MergeRepeats {c : CardD} {ao : Option Addr} {cap : Nat} {w : World} (h : RowAt w ao 2 c.ps.length (fun k => (nth c.ps k).c)) (hn : c.ps.length ≤ 9223372036854775807) :
    Calls Try.prog 25 #[c.val ao cap] w fun e w' => ∃ go gc, e = .returned (.tuple #[(mrC c).val go gc, .bool (cardB c)]) ∧ Ext w w' ∧ FreshAt w.heap.size w' go 2 (mrC c).ps.length (fun k => (nth (mrC c).ps k).c) := by
  obtain ⟨i0, hi, hz0, hz1, hz2⟩ := info_parts infoPch
  have H := fun x hx => impl_IsCard (w := x) (ao := ao) (cap := cap) (h.ext hx) hn
  by_cases hB : cardB c = true
  · have hC : mrC c = ⟨c.number, c.start, c.finish, mrU c c.ps.length⟩ := by simp [mrC, hB]
    have h12 : c.ps.length ≤ 12 := by
      simp only [cardB, headB, Bool.and_eq_true, decide_eq_true_eq] at hB
      exact hB.1.2
    rw [hC]
    rw [hB] at H ⊢
    clear hC hB
    unfold CardD.val at H ⊢
    dsimp only
    go_enter Try.func25, Try.ntmps25
    go_wp2_with fail
    refine (H _ (by repeat (first | (with_reducible exact Ext.refl _) | (with_reducible assumption) | with_reducible refine Ext.drew ?_ | with_reducible refine Ext.alloc ?_ _ | with_reducible refine Ext.setCell ?_ (by first | (simp; done) | (simp; omega) | omega) _ | with_reducible refine Ext.trans ?_ (by with_reducible assumption)))).mono ?_; rintro e wb ⟨rfl, hxc⟩
    have hxa : Ext (w.alloc (Obj.cells #[.int .i64 c.number, .int .i64 c.start, .int .i64 c.finish, .slice ao c.ps.length cap] 31)) wb := (by repeat (first | (with_reducible exact Ext.refl _) | (with_reducible assumption) | with_reducible refine Ext.drew ?_ | with_reducible refine Ext.alloc ?_ _ | with_reducible refine Ext.setCell ?_ (by first | (simp; done) | (simp; omega) | omega) _ | with_reducible refine Ext.trans ?_ (by with_reducible assumption)))
    have hx01 : Ext w wb := (by repeat (first | (with_reducible exact Ext.refl _) | (with_reducible assumption) | with_reducible refine Ext.drew ?_ | with_reducible refine Ext.alloc ?_ _ | with_reducible refine Ext.setCell ?_ (by first | (simp; done) | (simp; omega) | omega) _ | with_reducible refine Ext.trans ?_ (by with_reducible assumption)))
    obtain ⟨q0, q1, q2, q3⟩ := Box4.of hxa
    have r0 : wb.cell? ⟨w.heap.size + 1, 0, none⟩ = some (.int .i64 0) := hxc.cells (by go_simp)
    have r1 : wb.cell? ⟨w.heap.size + 1, 1, none⟩ = some (.int .i64 0) := hxc.cells (by go_simp)
    have r2 : wb.cell? ⟨w.heap.size + 1, 2, none⟩ = some (.int .i64 0) := hxc.cells (by go_simp)
    have r3 : wb.cell? ⟨w.heap.size + 1, 3, none⟩ = some (.slice none 0 0) := hxc.cells (by go_simp)
    have rz : ∀ j, wb.frozen? ⟨w.heap.size + 1, j, none⟩ = false := fun j => (hxc.frozenr _ _ (by simp)).trans (by go_simp)
    have f0 := rz 0
    have f1 := rz 1
    have f2 := rz 2
    have f3 := rz 3
    have hwl : w.heap.size + 1 < wb.heap.size := World.block_lt_of_cell? _ _ r0
    have hwl0 : w.heap.size < wb.heap.size := by omega
    have hown0 : Owns ((wb.alloc (.cells #[] 60)).alloc (Obj.cells #[.int .i64 c.number, .int .i64 c.start, .int .i64 c.finish, .slice (some ⟨wb.heap.size, 0, none⟩) 0 0] 31)) wb.heap.size 60 2 Pch.c (.slice (some ⟨wb.heap.size, 0, none⟩) 0 0) ([] : List Pch) := (Owns.start (Ext.refl wb)).ext' ((Ext.refl _).alloc _)
    have hrow := h.ext hx01
    have hbx0 : Box4 ((wb.alloc (.cells #[] 60)).alloc (Obj.cells #[.int .i64 c.number, .int .i64 c.start, .int .i64 c.finish, .slice (some ⟨wb.heap.size, 0, none⟩) 0 0] 31)) (wb.heap.size + 1) (.int .i64 c.number) (.int .i64 c.start) (.int .i64 c.finish) (.slice (some ⟨wb.heap.size, 0, none⟩) 0 0) := by
      have := Box4.of (Ext.refl ((wb.alloc (.cells #[] 60)).alloc (Obj.cells #[.int .i64 c.number, .int .i64 c.start, .int .i64 c.finish, .slice (some ⟨wb.heap.size, 0, none⟩) 0 0] 31)))
      rwa [World.size_alloc] at this
    have hfz0 : ∀ j, ((wb.alloc (.cells #[] 60)).alloc (Obj.cells #[.int .i64 c.number, .int .i64 c.start, .int .i64 c.finish, .slice (some ⟨wb.heap.size, 0, none⟩) 0 0] 31)).frozen? ⟨wb.heap.size + 1, j, none⟩ = false := fun j => by go_simp
    have hap0 : Apart ((wb.alloc (.cells #[] 60)).alloc (Obj.cells #[.int .i64 c.number, .int .i64 c.start, .int .i64 c.finish, .slice (some ⟨wb.heap.size, 0, none⟩) 0 0] 31)) (some ⟨wb.heap.size + 1, 0, none⟩) (.slice (some ⟨wb.heap.size, 0, none⟩) 0 0) := fun a e => by
      injection e with e
      subst e
      exact ⟨by simp, by simp [Value.ownBlock]⟩
    have HFZ := Lib.hid hfz0; clear hfz0
    clear hxc hxa H h rz
    go_wp2
    go_loopw [22] (fun i wr => ∃ (k : Nat) (v : Value), k ≤ c.ps.length ∧ i = .int .i64 k ∧ Ext wb wr ∧ Owns wr wb.heap.size 60 2 Pch.c v (mrU c k) ∧ Box4 wr (wb.heap.size + 1) (.int .i64 c.number) (.int .i64 c.start) (.int .i64 c.finish) v ∧ Hid (∀ j, wr.frozen? ⟨wb.heap.size + 1, j, none⟩ = false) ∧ Apart wr (some ⟨wb.heap.size + 1, 0, none⟩) v) (fun i _ => c.ps.length - (intOf i).toNat)
    case atStart => exact ⟨0, _, by omega, rfl, (by repeat (first | (with_reducible exact Ext.refl _) | (with_reducible assumption) | with_reducible refine Ext.drew ?_ | with_reducible refine Ext.alloc ?_ _ | with_reducible refine Ext.setCell ?_ (by first | (simp; done) | (simp; omega) | omega) _ | with_reducible refine Ext.trans ?_ (by with_reducible assumption))), hown0, hbx0, HFZ, hap0⟩
    case round =>
      clear hown0 hbx0 HFZ hap0
      obtain ⟨k, v, hk, rfl, hx, hown, hbx, HFZ, hap⟩ := hrel
      have hlen := mrU_len c k
      have g3 := hx.cells q3
      have gl := World.block_lt_of_cell? _ _ g3
      by_cases hlt : k < c.ps.length
      · obtain ⟨b, off, rfl, hcell⟩ := hrow (by omega)
        have d0 := hx.cells (hcell k hlt 0 (by decide))
        have d1 := hx.cells (hcell k hlt 1 (by decide))
        simp only [Pch.c0, Pch.c1, Nat.add_zero] at d0 d1
        by_cases hk0 : k = 0
        · have hst : stays c k = true := by simp [stays, hk0]
          have hki : ((k : Int) == 0) = true := by simp [hk0]
          clear hk0
          have hxp : Ext wr (wr.alloc (Obj.cells #[Value.int IntKind.i64 (nth c.ps k).code, Value.int IntKind.i64 (nth c.ps k).time] 60)) := (Ext.refl _).alloc _
          have hnx : mrU c (k + 1) = mrU c k ++ [nth c.ps k] := by rw [mrU, if_pos hst]
          have HN := Lib.hid hnx; clear hnx hst
          clear hcell
          go_wp2
          refine wp_region_ext (by kernel_rfl) (by kernel_rfl) ?_
          have e0 : ∀ x : Grow (wr.alloc (Obj.cells #[Value.int IntKind.i64 (nth c.ps k).code, Value.int IntKind.i64 (nth c.ps k).time] 60)), x.w.cell? ⟨wr.heap.size, 0, none⟩ = some (.int .i64 (nth c.ps k).code) := Grow.cells (by go_simp)
          have e3 : ∀ x : Grow (wr.alloc (Obj.cells #[Value.int IntKind.i64 (nth c.ps k).code, Value.int IntKind.i64 (nth c.ps k).time] 60)), x.w.cell? ⟨w.heap.size, 3, none⟩ = some (.slice (some ⟨b, off, none⟩) c.ps.length cap) := Grow.cells (hxp.cells g3)
          repeat (go_big_quiet_step (fail))
          refine wpQuiet_nil ?_
          rintro _ ⟨⟨w1, hx1⟩, rfl⟩
          clear e0 e3
          rename_i w1
          have hx2 : Ext wr w1 := hxp.trans hx1
          have p0 : w1.cell? ⟨wr.heap.size, 0, none⟩ = some (.int .i64 (nth c.ps k).code) := hx1.cells (by go_simp)
          have p1 : w1.cell? ⟨wr.heap.size, 1, none⟩ = some (.int .i64 (nth c.ps k).time) := hx1.cells (by go_simp)
          have pl := World.block_lt_of_cell? _ _ p0
          have hbx2 := hbx.ext hx2
          have b3 := hbx2.c3
          have bl := hbx2.lt
          have hap2 := hap.ext hx2
          have hown2 := hown.kept hx2
          have hxw := hx.trans hx2
          have hfz2 := fun j => (hx2.frozenr (wb.heap.size + 1) j (World.block_lt_of_cell? _ _ hbx.c0)).trans (HFZ.out j)
          have HFZ2 := Lib.hid hfz2; clear hfz2 HFZ hx1
          have hrow2 := fun x => row_lit (w := x) (cs := #[.int .i64 (nth c.ps k).code, .int .i64 (nth c.ps k).time]) (T := 60) (s := 2) (cc := Pch.c) (x := nth c.ps k) (by intro j hj; match j, hj with | 0, _ => rfl | 1, _ => rfl)
          go_wp2_with (at_builtin; refine wpList_append_form rfl _ _ 29 rfl wb 60 i0 _ 2 16 Try.underlying29 hi hz0 hz1 hz2 rfl (by decide) Pch.c pch_cells v (mrU c k) [nth c.ps k] (mrU c (k + 1)) HN rfl (hown2.kept ((Ext.refl _).alloc _)) ⟨w1.heap.size, 0, none⟩ 1 1 rfl rfl (hrow2 _) (by simp; omega) (by simp; omega) (hxw.alloc _) ?_; intro go1 gc1 w3 ho1 hx3 hg3 hv3; have hap3 := (hap2.ext ((Ext.refl _).alloc _)).append hg3 hv3; have hbx3 := (hbx2.ext ((Ext.refl _).alloc _)).grown hg3 (hap2 _ rfl).2; have hfz3 := fun j => (grown_frozen (b := wb.heap.size + 1) (o := j) hg3 (Nat.lt_of_lt_of_le bl (by simp)) (hap2 _ rfl).2).trans ((((Ext.refl w1).alloc _).frozenr _ _ bl).trans (HFZ2.out j)); have c3 := hbx3.c3; have z3 := hfz3 3; have bl3 := hbx3.lt; have HFZ3 := Lib.hid hfz3; clear hfz3 hg3 hv3 b3 bl)
          go_wp2
          have hap4 := hap3.mono (w' := w3.setCell ⟨wb.heap.size + 1, 3, none⟩ (.slice go1 (mrU c (k + 1)).length gc1)) (by simp [World.setCell])
          have hown4 := ho1.keptG (grown_put w3 ⟨wb.heap.size + 1, 3, none⟩ (.slice go1 (mrU c (k + 1)).length gc1)) (hap3 _ rfl).2
          have hbx4 := hbx3.put3 (.slice go1 (mrU c (k + 1)).length gc1)
          have hfz4 : ∀ j, (w3.setCell ⟨wb.heap.size + 1, 3, none⟩ (.slice go1 (mrU c (k + 1)).length gc1)).frozen? ⟨wb.heap.size + 1, j, none⟩ = false := fun j => by rw [World.frozen?_setCell]; exact HFZ3.out j
          have HFZ4 := Lib.hid hfz4; clear hfz4
          go_roundw
          case rel => exact ⟨k + 1, .slice go1 (mrU c (k + 1)).length gc1, by omega, by go_num, (by repeat (first | (with_reducible exact Ext.refl _) | (with_reducible assumption) | with_reducible refine Ext.drew ?_ | with_reducible refine Ext.alloc ?_ _ | with_reducible refine Ext.setCell ?_ (by first | (simp; done) | (simp; omega) | omega) _ | with_reducible refine Ext.trans ?_ (by with_reducible assumption))), hown4, hbx4, HFZ4, hap4⟩
          case measure => simp [intOf]; omega
        · have hki : ((k : Int) == 0) = false := by simpa using hk0
          have hk1 : 0 < k := by omega
          cases hne : ((nth c.ps (k - 1)).code != (nth c.ps k).code)
          · have hst : stays c k = false := by simp only [stays, hne, Bool.or_false]; simpa using hk0
            clear hk0
            have hxp : Ext wr (wr.alloc (Obj.cells #[Value.int IntKind.i64 (nth c.ps k).code, Value.int IntKind.i64 (nth c.ps k).time] 60)) := (Ext.refl _).alloc _
            have e1 : ∀ x : Grow (wr.alloc (Obj.cells #[Value.int IntKind.i64 (nth c.ps k).code, Value.int IntKind.i64 (nth c.ps k).time] 60)), x.w.cell? ⟨b, off + (k - 1) * 2, none⟩ = some (.int .i64 (nth c.ps (k - 1)).code) := Grow.cells (hxp.cells (hx.cells (hcell (k - 1) (by omega) 0 (by decide))))
            have hnx : mrU c (k + 1) = mrU c k := by rw [mrU, if_neg (by rw [hst]; decide)]
            have HN := Lib.hid hnx; clear hnx hst
            clear hcell
            go_wp2
            refine wp_region_ext (by kernel_rfl) (by kernel_rfl) ?_
            have e0 : ∀ x : Grow (wr.alloc (Obj.cells #[Value.int IntKind.i64 (nth c.ps k).code, Value.int IntKind.i64 (nth c.ps k).time] 60)), x.w.cell? ⟨wr.heap.size, 0, none⟩ = some (.int .i64 (nth c.ps k).code) := Grow.cells (by go_simp)
            have e3 : ∀ x : Grow (wr.alloc (Obj.cells #[Value.int IntKind.i64 (nth c.ps k).code, Value.int IntKind.i64 (nth c.ps k).time] 60)), x.w.cell? ⟨w.heap.size, 3, none⟩ = some (.slice (some ⟨b, off, none⟩) c.ps.length cap) := Grow.cells (hxp.cells g3)
            repeat (go_big_quiet_step (fail))
            refine wpQuiet_nil ?_
            rintro _ ⟨⟨w1, hx1⟩, rfl⟩
            clear e0 e3 e1
            rename_i w1
            have hx2 : Ext wr w1 := hxp.trans hx1
            have p0 : w1.cell? ⟨wr.heap.size, 0, none⟩ = some (.int .i64 (nth c.ps k).code) := hx1.cells (by go_simp)
            have p1 : w1.cell? ⟨wr.heap.size, 1, none⟩ = some (.int .i64 (nth c.ps k).time) := hx1.cells (by go_simp)
            have pl := World.block_lt_of_cell? _ _ p0
            have hfz2 := fun j => (hx2.frozenr (wb.heap.size + 1) j (World.block_lt_of_cell? _ _ hbx.c0)).trans (HFZ.out j)
            have HFZ2 := Lib.hid hfz2; clear hfz2 HFZ hx1
            go_wp2
            go_roundw
            case rel => exact ⟨k + 1, v, by omega, by go_num, hx.trans hx2, by rw [HN.out]; exact hown.kept hx2, hbx.ext hx2, HFZ2, hap.ext hx2⟩
            case measure => simp [intOf]; omega
          · have hst : stays c k = true := by simp only [stays, hne, Bool.or_true]
            clear hk0
            have hxp : Ext wr (wr.alloc (Obj.cells #[Value.int IntKind.i64 (nth c.ps k).code, Value.int IntKind.i64 (nth c.ps k).time] 60)) := (Ext.refl _).alloc _
            have e1 : ∀ x : Grow (wr.alloc (Obj.cells #[Value.int IntKind.i64 (nth c.ps k).code, Value.int IntKind.i64 (nth c.ps k).time] 60)), x.w.cell? ⟨b, off + (k - 1) * 2, none⟩ = some (.int .i64 (nth c.ps (k - 1)).code) := Grow.cells (hxp.cells (hx.cells (hcell (k - 1) (by omega) 0 (by decide))))
            have hnx : mrU c (k + 1) = mrU c k ++ [nth c.ps k] := by rw [mrU, if_pos hst]
            have HN := Lib.hid hnx; clear hnx hst
            clear hcell
            go_wp2
            refine wp_region_ext (by kernel_rfl) (by kernel_rfl) ?_
            have e0 : ∀ x : Grow (wr.alloc (Obj.cells #[Value.int IntKind.i64 (nth c.ps k).code, Value.int IntKind.i64 (nth c.ps k).time] 60)), x.w.cell? ⟨wr.heap.size, 0, none⟩ = some (.int .i64 (nth c.ps k).code) := Grow.cells (by go_simp)
            have e3 : ∀ x : Grow (wr.alloc (Obj.cells #[Value.int IntKind.i64 (nth c.ps k).code, Value.int IntKind.i64 (nth c.ps k).time] 60)), x.w.cell? ⟨w.heap.size, 3, none⟩ = some (.slice (some ⟨b, off, none⟩) c.ps.length cap) := Grow.cells (hxp.cells g3)
            repeat (go_big_quiet_step (fail))
            refine wpQuiet_nil ?_
            rintro _ ⟨⟨w1, hx1⟩, rfl⟩
            clear e0 e3 e1
            rename_i w1
            have hx2 : Ext wr w1 := hxp.trans hx1
            have p0 : w1.cell? ⟨wr.heap.size, 0, none⟩ = some (.int .i64 (nth c.ps k).code) := hx1.cells (by go_simp)
            have p1 : w1.cell? ⟨wr.heap.size, 1, none⟩ = some (.int .i64 (nth c.ps k).time) := hx1.cells (by go_simp)
            have pl := World.block_lt_of_cell? _ _ p0
            have hbx2 := hbx.ext hx2
            have b3 := hbx2.c3
            have bl := hbx2.lt
            have hap2 := hap.ext hx2
            have hown2 := hown.kept hx2
            have hxw := hx.trans hx2
            have hfz2 := fun j => (hx2.frozenr (wb.heap.size + 1) j (World.block_lt_of_cell? _ _ hbx.c0)).trans (HFZ.out j)
            have HFZ2 := Lib.hid hfz2; clear hfz2 HFZ hx1
            have hrow2 := fun x => row_lit (w := x) (cs := #[.int .i64 (nth c.ps k).code, .int .i64 (nth c.ps k).time]) (T := 60) (s := 2) (cc := Pch.c) (x := nth c.ps k) (by intro j hj; match j, hj with | 0, _ => rfl | 1, _ => rfl)
            go_wp2_with (at_builtin; refine wpList_append_form rfl _ _ 29 rfl wb 60 i0 _ 2 16 Try.underlying29 hi hz0 hz1 hz2 rfl (by decide) Pch.c pch_cells v (mrU c k) [nth c.ps k] (mrU c (k + 1)) HN rfl (hown2.kept ((Ext.refl _).alloc _)) ⟨w1.heap.size, 0, none⟩ 1 1 rfl rfl (hrow2 _) (by simp; omega) (by simp; omega) (hxw.alloc _) ?_; intro go1 gc1 w3 ho1 hx3 hg3 hv3; have hap3 := (hap2.ext ((Ext.refl _).alloc _)).append hg3 hv3; have hbx3 := (hbx2.ext ((Ext.refl _).alloc _)).grown hg3 (hap2 _ rfl).2; have hfz3 := fun j => (grown_frozen (b := wb.heap.size + 1) (o := j) hg3 (Nat.lt_of_lt_of_le bl (by simp)) (hap2 _ rfl).2).trans ((((Ext.refl w1).alloc _).frozenr _ _ bl).trans (HFZ2.out j)); have c3 := hbx3.c3; have z3 := hfz3 3; have bl3 := hbx3.lt; have HFZ3 := Lib.hid hfz3; clear hfz3 hg3 hv3 b3 bl)
            go_wp2
            have hap4 := hap3.mono (w' := w3.setCell ⟨wb.heap.size + 1, 3, none⟩ (.slice go1 (mrU c (k + 1)).length gc1)) (by simp [World.setCell])
            have hown4 := ho1.keptG (grown_put w3 ⟨wb.heap.size + 1, 3, none⟩ (.slice go1 (mrU c (k + 1)).length gc1)) (hap3 _ rfl).2
            have hbx4 := hbx3.put3 (.slice go1 (mrU c (k + 1)).length gc1)
            have hfz4 : ∀ j, (w3.setCell ⟨wb.heap.size + 1, 3, none⟩ (.slice go1 (mrU c (k + 1)).length gc1)).frozen? ⟨wb.heap.size + 1, j, none⟩ = false := fun j => by rw [World.frozen?_setCell]; exact HFZ3.out j
            have HFZ4 := Lib.hid hfz4; clear hfz4
            go_roundw
            case rel => exact ⟨k + 1, .slice go1 (mrU c (k + 1)).length gc1, by omega, by go_num, (by repeat (first | (with_reducible exact Ext.refl _) | (with_reducible assumption) | with_reducible refine Ext.drew ?_ | with_reducible refine Ext.alloc ?_ _ | with_reducible refine Ext.setCell ?_ (by first | (simp; done) | (simp; omega) | omega) _ | with_reducible refine Ext.trans ?_ (by with_reducible assumption))), hown4, hbx4, HFZ4, hap4⟩
            case measure => simp [intOf]; omega
      · have hkn : k = c.ps.length := by omega
        obtain ⟨go', gc', rfl, hFo, _, _, _⟩ := hown.fresh
        have r0 := hx.cells r0
        have r1 := hx.cells r1
        have r2 := hx.cells r2
        have r3 := hx.cells r3
        have f0 := (hx.frozenr _ 0 hwl).trans f0
        have f1 := (hx.frozenr _ 1 hwl).trans f1
        have f2 := (hx.frozenr _ 2 hwl).trans f2
        have f3 := (hx.frozenr _ 3 hwl).trans f3
        obtain ⟨b0, b1, b2, b3⟩ := hbx
        have hws := hx.size
        have rl : w.heap.size + 1 < wr.heap.size := by omega
        have bl : wb.heap.size + 1 < wr.heap.size := World.block_lt_of_cell? _ _ b0
        have HK := Lib.hid hkn; clear hkn
        clear hown hap HFZ
        go_wp2
        refine bodyPost_ret (v := .tuple #[.agg #[.int .i64 c.number, .int .i64 c.start, .int .i64 c.finish, .slice go' (mrU c k).length gc'], .bool true]) ?_ rfl ?_
        · simp [results, Try.results25, go_sem, cell_put, r0, r1, r2, r3]
        · rw [← HK.out]
          have hF' := (((hFo.setCell (p := ⟨w.heap.size + 1, 0, none⟩) hwl (.int .i64 c.number)).setCell (p := ⟨w.heap.size + 1, 1, none⟩) hwl (.int .i64 c.start)).setCell (p := ⟨w.heap.size + 1, 2, none⟩) hwl (.int .i64 c.finish)).setCell (p := ⟨w.heap.size + 1, 3, none⟩) hwl (.slice go' (mrU c k).length gc')
          first
            | exact ⟨go', gc', rfl, Ext.setCell (Ext.setCell (Ext.setCell (Ext.setCell (hx01.trans hx) (by simp) _) (by simp) _) (by simp) _) (by simp) _, hF'.mono hx01.size⟩
            | exact ⟨go', ⟨gc', rfl⟩, Ext.setCell (Ext.setCell (Ext.setCell (Ext.setCell (hx01.trans hx) (by simp) _) (by simp) _) (by simp) _) (by simp) _, hF'.mono hx01.size⟩
  · have hB' : cardB c = false := by simpa using hB
    have hC : mrC c = ⟨0, 0, 0, []⟩ := by simp [mrC, hB']
    rw [hC]
    rw [hB'] at H ⊢
    clear hC hB hB'
    unfold CardD.val at H ⊢
    dsimp only
    go_enter Try.func25, Try.ntmps25
    go_wp2_with fail
    refine (H _ (by repeat (first | (with_reducible exact Ext.refl _) | (with_reducible assumption) | with_reducible refine Ext.drew ?_ | with_reducible refine Ext.alloc ?_ _ | with_reducible refine Ext.setCell ?_ (by first | (simp; done) | (simp; omega) | omega) _ | with_reducible refine Ext.trans ?_ (by with_reducible assumption)))).mono ?_; rintro e wb ⟨rfl, hxc⟩
    have r0 : wb.cell? ⟨w.heap.size + 1, 0, none⟩ = some (.int .i64 0) := hxc.cells (by go_simp)
    have r1 : wb.cell? ⟨w.heap.size + 1, 1, none⟩ = some (.int .i64 0) := hxc.cells (by go_simp)
    have r2 : wb.cell? ⟨w.heap.size + 1, 2, none⟩ = some (.int .i64 0) := hxc.cells (by go_simp)
    have r3 : wb.cell? ⟨w.heap.size + 1, 3, none⟩ = some (.slice none 0 0) := hxc.cells (by go_simp)
    have rz : ∀ j, wb.frozen? ⟨w.heap.size + 1, j, none⟩ = false := fun j => (hxc.frozenr _ _ (by simp)).trans (by go_simp)
    have f0 := rz 0
    have f1 := rz 1
    have f2 := rz 2
    have f3 := rz 3
    have hwl : w.heap.size + 1 < wb.heap.size := World.block_lt_of_cell? _ _ r0
    have hx01 : Ext w wb := (by repeat (first | (with_reducible exact Ext.refl _) | (with_reducible assumption) | with_reducible refine Ext.drew ?_ | with_reducible refine Ext.alloc ?_ _ | with_reducible refine Ext.setCell ?_ (by first | (simp; done) | (simp; omega) | omega) _ | with_reducible refine Ext.trans ?_ (by with_reducible assumption)))
    clear rz H h hxc
    go_wp2
    refine bodyPost_ret (v := .tuple #[.agg #[.int .i64 0, .int .i64 0, .int .i64 0, .slice none 0 0], .bool false]) ?_ rfl ?_
    · simp [results, Try.results25, go_sem, cell_put, r0, r1, r2, r3]
    · exact ⟨none, 0, rfl, (by repeat (first | (with_reducible exact Ext.refl _) | (with_reducible assumption) | with_reducible refine Ext.drew ?_ | with_reducible refine Ext.alloc ?_ _ | with_reducible refine Ext.setCell ?_ (by first | (simp; done) | (simp; omega) | omega) _ | with_reducible refine Ext.trans ?_ (by with_reducible assumption))), ⟨fun hn => by simp at hn, fun a e => (by cases e), fun b off e => (by cases e)⟩⟩

set_option maxRecDepth 100000 in
set_option maxHeartbeats 4000000 in
theorem spec_MergeRepeats {c : CardD} {ao : Option Addr} {cap : Nat} {w : World} (h : RowAt w ao 2 c.ps.length (fun k => (nth c.ps k).c)) (hn : c.ps.length ≤ 9223372036854775807) :
    Calls Try.prog 24 #[c.val ao cap] w fun e w' => ∃ go gc, e = .returned (.tuple #[(mrC c).val go gc, .bool (cardB c)]) ∧ Ext w w' ∧ FreshAt w.heap.size w' go 2 (mrC c).ps.length (fun k => (nth (mrC c).ps k).c) := by
  obtain ⟨i0, hi, hz0, hz1, hz2⟩ := info_parts infoPch
  have H := fun x hx => spec_l12Card (w := x) (ao := ao) (cap := cap) (h.ext hx) hn
  by_cases hB : cardB c = true
  · have hC : mrC c = ⟨c.number, c.start, c.finish, mrU c c.ps.length⟩ := by simp [mrC, hB]
    have h12 : c.ps.length ≤ 12 := by
      simp only [cardB, headB, Bool.and_eq_true, decide_eq_true_eq] at hB
      exact hB.1.2
    rw [hC]
    rw [hB] at H ⊢
    clear hC hB
    unfold CardD.val at H ⊢
    dsimp only
    go_enter Try.func24, Try.ntmps24
    go_wp2_with fail
    refine (H _ (by repeat (first | (with_reducible exact Ext.refl _) | (with_reducible assumption) | with_reducible refine Ext.drew ?_ | with_reducible refine Ext.alloc ?_ _ | with_reducible refine Ext.setCell ?_ (by first | (simp; done) | (simp; omega) | omega) _ | with_reducible refine Ext.trans ?_ (by with_reducible assumption)))).mono ?_; rintro e wb ⟨rfl, hxc⟩
    have hxa : Ext (w.alloc (Obj.cells #[.int .i64 c.number, .int .i64 c.start, .int .i64 c.finish, .slice ao c.ps.length cap] 31)) wb := (by repeat (first | (with_reducible exact Ext.refl _) | (with_reducible assumption) | with_reducible refine Ext.drew ?_ | with_reducible refine Ext.alloc ?_ _ | with_reducible refine Ext.setCell ?_ (by first | (simp; done) | (simp; omega) | omega) _ | with_reducible refine Ext.trans ?_ (by with_reducible assumption)))
    have hx01 : Ext w wb := (by repeat (first | (with_reducible exact Ext.refl _) | (with_reducible assumption) | with_reducible refine Ext.drew ?_ | with_reducible refine Ext.alloc ?_ _ | with_reducible refine Ext.setCell ?_ (by first | (simp; done) | (simp; omega) | omega) _ | with_reducible refine Ext.trans ?_ (by with_reducible assumption)))
    obtain ⟨q0, q1, q2, q3⟩ := Box4.of hxa
    have r0 : wb.cell? ⟨w.heap.size + 1, 0, none⟩ = some (.int .i64 0) := hxc.cells (by go_simp)
    have r1 : wb.cell? ⟨w.heap.size + 1, 1, none⟩ = some (.int .i64 0) := hxc.cells (by go_simp)
    have r2 : wb.cell? ⟨w.heap.size + 1, 2, none⟩ = some (.int .i64 0) := hxc.cells (by go_simp)
    have r3 : wb.cell? ⟨w.heap.size + 1, 3, none⟩ = some (.slice none 0 0) := hxc.cells (by go_simp)
    have rz : ∀ j, wb.frozen? ⟨w.heap.size + 1, j, none⟩ = false := fun j => (hxc.frozenr _ _ (by simp)).trans (by go_simp)
    have f0 := rz 0
    have f1 := rz 1
    have f2 := rz 2
    have f3 := rz 3
    have hwl : w.heap.size + 1 < wb.heap.size := World.block_lt_of_cell? _ _ r0
    have hwl0 : w.heap.size < wb.heap.size := by omega
    have hown0 : Owns ((wb.alloc (.cells #[] 60)).alloc (Obj.cells #[.int .i64 c.number, .int .i64 c.start, .int .i64 c.finish, .slice (some ⟨wb.heap.size, 0, none⟩) 0 0] 31)) wb.heap.size 60 2 Pch.c (.slice (some ⟨wb.heap.size, 0, none⟩) 0 0) ([] : List Pch) := (Owns.start (Ext.refl wb)).ext' ((Ext.refl _).alloc _)
    have hrow := h.ext hx01
    have hbx0 : Box4 ((wb.alloc (.cells #[] 60)).alloc (Obj.cells #[.int .i64 c.number, .int .i64 c.start, .int .i64 c.finish, .slice (some ⟨wb.heap.size, 0, none⟩) 0 0] 31)) (wb.heap.size + 1) (.int .i64 c.number) (.int .i64 c.start) (.int .i64 c.finish) (.slice (some ⟨wb.heap.size, 0, none⟩) 0 0) := by
      have := Box4.of (Ext.refl ((wb.alloc (.cells #[] 60)).alloc (Obj.cells #[.int .i64 c.number, .int .i64 c.start, .int .i64 c.finish, .slice (some ⟨wb.heap.size, 0, none⟩) 0 0] 31)))
      rwa [World.size_alloc] at this
    have hfz0 : ∀ j, ((wb.alloc (.cells #[] 60)).alloc (Obj.cells #[.int .i64 c.number, .int .i64 c.start, .int .i64 c.finish, .slice (some ⟨wb.heap.size, 0, none⟩) 0 0] 31)).frozen? ⟨wb.heap.size + 1, j, none⟩ = false := fun j => by go_simp
    have hap0 : Apart ((wb.alloc (.cells #[] 60)).alloc (Obj.cells #[.int .i64 c.number, .int .i64 c.start, .int .i64 c.finish, .slice (some ⟨wb.heap.size, 0, none⟩) 0 0] 31)) (some ⟨wb.heap.size + 1, 0, none⟩) (.slice (some ⟨wb.heap.size, 0, none⟩) 0 0) := fun a e => by
      injection e with e
      subst e
      exact ⟨by simp, by simp [Value.ownBlock]⟩
    have HFZ := Lib.hid hfz0; clear hfz0
    clear hxc hxa H h rz
    go_wp2
    go_loopw [5] (fun i wr => ∃ (k : Nat) (v : Value), k ≤ c.ps.length ∧ i = .int .i64 k ∧ Ext wb wr ∧ Owns wr wb.heap.size 60 2 Pch.c v (mrU c k) ∧ Box4 wr (wb.heap.size + 1) (.int .i64 c.number) (.int .i64 c.start) (.int .i64 c.finish) v ∧ Hid (∀ j, wr.frozen? ⟨wb.heap.size + 1, j, none⟩ = false) ∧ Apart wr (some ⟨wb.heap.size + 1, 0, none⟩) v) (fun i _ => c.ps.length - (intOf i).toNat)
    case atStart => exact ⟨0, _, by omega, rfl, (by repeat (first | (with_reducible exact Ext.refl _) | (with_reducible assumption) | with_reducible refine Ext.drew ?_ | with_reducible refine Ext.alloc ?_ _ | with_reducible refine Ext.setCell ?_ (by first | (simp; done) | (simp; omega) | omega) _ | with_reducible refine Ext.trans ?_ (by with_reducible assumption))), hown0, hbx0, HFZ, hap0⟩
    case round =>
      clear hown0 hbx0 HFZ hap0
      obtain ⟨k, v, hk, rfl, hx, hown, hbx, HFZ, hap⟩ := hrel
      have hlen := mrU_len c k
      have g3 := hx.cells q3
      have gl := World.block_lt_of_cell? _ _ g3
      by_cases hlt : k < c.ps.length
      · obtain ⟨b, off, rfl, hcell⟩ := hrow (by omega)
        have d0 := hx.cells (hcell k hlt 0 (by decide))
        have d1 := hx.cells (hcell k hlt 1 (by decide))
        simp only [Pch.c0, Pch.c1, Nat.add_zero] at d0 d1
        have D0 := hcell k hlt 0 (by decide)
        have D1 := hcell k hlt 1 (by decide)
        simp only [Pch.c0, Pch.c1, Nat.add_zero] at D0 D1
        have hDl := World.block_lt_of_cell? _ _ D0
        have hn3 : (⟨wb.heap.size + 1, 3, none⟩ : Addr) ≠ ⟨w.heap.size, 3, none⟩ := fun e => by injection e with e; omega
        have hn4 : (⟨wb.heap.size + 1, 3, none⟩ : Addr) ≠ ⟨b, off + k * 2, none⟩ := fun e => by injection e with e; simp only at hDl; omega
        have hn5 : (⟨wb.heap.size + 1, 3, none⟩ : Addr) ≠ ⟨b, off + k * 2 + 1, none⟩ := fun e => by injection e with e; simp only at hDl; omega
        by_cases hk0 : k = 0
        · have hst : stays c k = true := by simp [stays, hk0]
          have hki : ((k : Int) == 0) = true := by simp [hk0]
          clear hk0
          have hnx : mrU c (k + 1) = mrU c k ++ [nth c.ps k] := by rw [mrU, if_pos hst]
          have HN := Lib.hid hnx; clear hnx hst
          clear hcell
          go_wp2
          refine wp_region_ext (by kernel_rfl) (by kernel_rfl) ?_
          have e0 : ∀ x : Grow wr, x.w.cell? ⟨b, off + k * 2, none⟩ = some (.int .i64 (nth c.ps k).code) := Grow.cells d0
          have e3 : ∀ x : Grow wr, x.w.cell? ⟨w.heap.size, 3, none⟩ = some (.slice (some ⟨b, off, none⟩) c.ps.length cap) := Grow.cells g3
          repeat (go_big_quiet_step (fail))
          refine wpQuiet_nil ?_
          rintro _ ⟨⟨w1, hx1⟩, rfl⟩
          clear e0 e3
          rename_i w1
          have hbx2 := hbx.ext hx1
          have b3 := hbx2.c3
          have bl := hbx2.lt
          have hap2 := hap.ext hx1
          have hown2 := hown.kept hx1
          have hxw := hx.trans hx1
          have hfz2 := fun j => (hx1.frozenr (wb.heap.size + 1) j (World.block_lt_of_cell? _ _ hbx.c0)).trans (HFZ.out j)
          have HFZ2 := Lib.hid hfz2; clear hfz2 HFZ
          have g3 := hx1.cells g3
          have gl := World.block_lt_of_cell? _ _ g3
          have d0 := hx1.cells d0
          have d1 := hx1.cells d1
          have dl := World.block_lt_of_cell? _ _ d0
          have hki0 : (0 : Int) ≤ (k : Int) := by omega
          have hki1 : (k : Int) < (c.ps.length : Int) := by omega
          have b3a : ∀ o, (w1.alloc o).cell? ⟨wb.heap.size + 1, 3, none⟩ = some v := fun o => ((Ext.refl w1).alloc o).cells b3
          have hrow2 := fun x => row_lit (w := x) (cs := #[.int .i64 (nth c.ps k).code, .int .i64 (nth c.ps k).time]) (T := 60) (s := 2) (cc := Pch.c) (x := nth c.ps k) (by intro j hj; match j, hj with | 0, _ => rfl | 1, _ => rfl)
          clear hbx hap hown hx hx1
          go_wp2_with fail
          go_region_law (first
            | (refine step_append_form (o := ⟨some 51, _, _, _, _, _⟩) (by rfl) _ _ 29 (by rfl) wb 60 i0 _ 2 16 Try.underlying29 hi hz0 hz1 hz2 rfl (by decide) Pch.c pch_cells v (mrU c k) [nth c.ps k] (mrU c (k + 1)) HN (by rfl) ((hown2.kept ((Ext.refl _).alloc _)).kept (Ext.refl _).drew) ⟨w1.heap.size, 0, none⟩ 1 1 (by rfl) (by rfl) ((hrow2 w1).ext (Ext.refl _).drew) (by simp; omega) (by simp; omega) (hxw.alloc _).drew ?_; intro go1 gc1 w3 ho1 hx3 hg3 hv3; have hap3 := ((hap2.ext ((Ext.refl w1).alloc _)).ext (Ext.refl _).drew).append hg3 hv3; have hbx3 := (((hbx2.ext ((Ext.refl w1).alloc _)).ext (Ext.refl _).drew)).grown hg3 (hap2 _ rfl).2; have hfz3 := fun j => (grown_frozen (b := wb.heap.size + 1) (o := j) hg3 (Nat.lt_of_lt_of_le bl (by simp)) (hap2 _ rfl).2).trans ((((Ext.refl w1).alloc _).drew.frozenr _ _ bl).trans (HFZ2.out j)); have c3 := hbx3.c3; have z3 := hfz3 3; have bl3 := hbx3.lt; have HFZ3 := Lib.hid hfz3; clear hfz3 hg3 hv3))
          all_goals
            have hap4 := hap3.mono (w' := w3.setCell ⟨wb.heap.size + 1, 3, none⟩ (.slice go1 (mrU c (k + 1)).length gc1)) (by simp [World.setCell])
            have hown4 := ho1.keptG (grown_put w3 ⟨wb.heap.size + 1, 3, none⟩ (.slice go1 (mrU c (k + 1)).length gc1)) (hap3 _ rfl).2
            have hbx4 := hbx3.put3 (.slice go1 (mrU c (k + 1)).length gc1)
            have hfz4 : ∀ j, (w3.setCell ⟨wb.heap.size + 1, 3, none⟩ (.slice go1 (mrU c (k + 1)).length gc1)).frozen? ⟨wb.heap.size + 1, j, none⟩ = false := fun j => by rw [World.frozen?_setCell]; exact HFZ3.out j
            have HFZ4 := Lib.hid hfz4; clear hfz4
            go_wp2
            go_roundw
            case rel => exact ⟨k + 1, .slice go1 (mrU c (k + 1)).length gc1, by omega, by go_num, (by repeat (first | (with_reducible exact Ext.refl _) | (with_reducible assumption) | with_reducible refine Ext.drew ?_ | with_reducible refine Ext.alloc ?_ _ | with_reducible refine Ext.setCell ?_ (by first | (simp; done) | (simp; omega) | omega) _ | with_reducible refine Ext.trans ?_ (by with_reducible assumption))), hown4, hbx4, HFZ4, hap4⟩
            case measure => simp [intOf]; omega
        · have hki : ((k : Int) == 0) = false := by simpa using hk0
          have hk1 : 0 < k := by omega
          cases hne : ((nth c.ps (k - 1)).code != (nth c.ps k).code)
          · have hst : stays c k = false := by simp only [stays, hne, Bool.or_false]; simpa using hk0
            clear hk0
            have e1 : ∀ x : Grow wr, x.w.cell? ⟨b, off + (k - 1) * 2, none⟩ = some (.int .i64 (nth c.ps (k - 1)).code) := Grow.cells (hx.cells (hcell (k - 1) (by omega) 0 (by decide)))
            have hnx : mrU c (k + 1) = mrU c k := by rw [mrU, if_neg (by rw [hst]; decide)]
            have HN := Lib.hid hnx; clear hnx hst
            clear hcell
            go_wp2
            refine wp_region_ext (by kernel_rfl) (by kernel_rfl) ?_
            have e0 : ∀ x : Grow wr, x.w.cell? ⟨b, off + k * 2, none⟩ = some (.int .i64 (nth c.ps k).code) := Grow.cells d0
            have e3 : ∀ x : Grow wr, x.w.cell? ⟨w.heap.size, 3, none⟩ = some (.slice (some ⟨b, off, none⟩) c.ps.length cap) := Grow.cells g3
            repeat (go_big_quiet_step (fail))
            refine wpQuiet_nil ?_
            rintro _ ⟨⟨w1, hx1⟩, rfl⟩
            clear e0 e3 e1
            rename_i w1
            have hfz2 := fun j => (hx1.frozenr (wb.heap.size + 1) j (World.block_lt_of_cell? _ _ hbx.c0)).trans (HFZ.out j)
            have HFZ2 := Lib.hid hfz2; clear hfz2 HFZ
            go_wp2
            go_roundw
            case rel => exact ⟨k + 1, v, by omega, by go_num, hx.trans hx1, by rw [HN.out]; exact hown.kept hx1, hbx.ext hx1, HFZ2, hap.ext hx1⟩
            case measure => simp [intOf]; omega
          · have hst : stays c k = true := by simp only [stays, hne, Bool.or_true]
            clear hk0
            have e1 : ∀ x : Grow wr, x.w.cell? ⟨b, off + (k - 1) * 2, none⟩ = some (.int .i64 (nth c.ps (k - 1)).code) := Grow.cells (hx.cells (hcell (k - 1) (by omega) 0 (by decide)))
            have hnx : mrU c (k + 1) = mrU c k ++ [nth c.ps k] := by rw [mrU, if_pos hst]
            have HN := Lib.hid hnx; clear hnx hst
            clear hcell
            go_wp2
            refine wp_region_ext (by kernel_rfl) (by kernel_rfl) ?_
            have e0 : ∀ x : Grow wr, x.w.cell? ⟨b, off + k * 2, none⟩ = some (.int .i64 (nth c.ps k).code) := Grow.cells d0
            have e3 : ∀ x : Grow wr, x.w.cell? ⟨w.heap.size, 3, none⟩ = some (.slice (some ⟨b, off, none⟩) c.ps.length cap) := Grow.cells g3
            repeat (go_big_quiet_step (fail))
            refine wpQuiet_nil ?_
            rintro _ ⟨⟨w1, hx1⟩, rfl⟩
            clear e0 e3 e1
            rename_i w1
            have hbx2 := hbx.ext hx1
            have b3 := hbx2.c3
            have bl := hbx2.lt
            have hap2 := hap.ext hx1
            have hown2 := hown.kept hx1
            have hxw := hx.trans hx1
            have hfz2 := fun j => (hx1.frozenr (wb.heap.size + 1) j (World.block_lt_of_cell? _ _ hbx.c0)).trans (HFZ.out j)
            have HFZ2 := Lib.hid hfz2; clear hfz2 HFZ
            have g3 := hx1.cells g3
            have gl := World.block_lt_of_cell? _ _ g3
            have d0 := hx1.cells d0
            have d1 := hx1.cells d1
            have dl := World.block_lt_of_cell? _ _ d0
            have hki0 : (0 : Int) ≤ (k : Int) := by omega
            have hki1 : (k : Int) < (c.ps.length : Int) := by omega
            have b3a : ∀ o, (w1.alloc o).cell? ⟨wb.heap.size + 1, 3, none⟩ = some v := fun o => ((Ext.refl w1).alloc o).cells b3
            have hrow2 := fun x => row_lit (w := x) (cs := #[.int .i64 (nth c.ps k).code, .int .i64 (nth c.ps k).time]) (T := 60) (s := 2) (cc := Pch.c) (x := nth c.ps k) (by intro j hj; match j, hj with | 0, _ => rfl | 1, _ => rfl)
            clear hbx hap hown hx hx1
            go_wp2_with fail
            go_region_law (first
              | (refine step_append_form (o := ⟨some 51, _, _, _, _, _⟩) (by rfl) _ _ 29 (by rfl) wb 60 i0 _ 2 16 Try.underlying29 hi hz0 hz1 hz2 rfl (by decide) Pch.c pch_cells v (mrU c k) [nth c.ps k] (mrU c (k + 1)) HN (by rfl) ((hown2.kept ((Ext.refl _).alloc _)).kept (Ext.refl _).drew) ⟨w1.heap.size, 0, none⟩ 1 1 (by rfl) (by rfl) ((hrow2 w1).ext (Ext.refl _).drew) (by simp; omega) (by simp; omega) (hxw.alloc _).drew ?_; intro go1 gc1 w3 ho1 hx3 hg3 hv3; have hap3 := ((hap2.ext ((Ext.refl w1).alloc _)).ext (Ext.refl _).drew).append hg3 hv3; have hbx3 := (((hbx2.ext ((Ext.refl w1).alloc _)).ext (Ext.refl _).drew)).grown hg3 (hap2 _ rfl).2; have hfz3 := fun j => (grown_frozen (b := wb.heap.size + 1) (o := j) hg3 (Nat.lt_of_lt_of_le bl (by simp)) (hap2 _ rfl).2).trans ((((Ext.refl w1).alloc _).drew.frozenr _ _ bl).trans (HFZ2.out j)); have c3 := hbx3.c3; have z3 := hfz3 3; have bl3 := hbx3.lt; have HFZ3 := Lib.hid hfz3; clear hfz3 hg3 hv3))
            all_goals
              have hap4 := hap3.mono (w' := w3.setCell ⟨wb.heap.size + 1, 3, none⟩ (.slice go1 (mrU c (k + 1)).length gc1)) (by simp [World.setCell])
              have hown4 := ho1.keptG (grown_put w3 ⟨wb.heap.size + 1, 3, none⟩ (.slice go1 (mrU c (k + 1)).length gc1)) (hap3 _ rfl).2
              have hbx4 := hbx3.put3 (.slice go1 (mrU c (k + 1)).length gc1)
              have hfz4 : ∀ j, (w3.setCell ⟨wb.heap.size + 1, 3, none⟩ (.slice go1 (mrU c (k + 1)).length gc1)).frozen? ⟨wb.heap.size + 1, j, none⟩ = false := fun j => by rw [World.frozen?_setCell]; exact HFZ3.out j
              have HFZ4 := Lib.hid hfz4; clear hfz4
              go_wp2
              go_roundw
              case rel => exact ⟨k + 1, .slice go1 (mrU c (k + 1)).length gc1, by omega, by go_num, (by repeat (first | (with_reducible exact Ext.refl _) | (with_reducible assumption) | with_reducible refine Ext.drew ?_ | with_reducible refine Ext.alloc ?_ _ | with_reducible refine Ext.setCell ?_ (by first | (simp; done) | (simp; omega) | omega) _ | with_reducible refine Ext.trans ?_ (by with_reducible assumption))), hown4, hbx4, HFZ4, hap4⟩
              case measure => simp [intOf]; omega
      · have hkn : k = c.ps.length := by omega
        obtain ⟨go', gc', rfl, hFo, _, _, _⟩ := hown.fresh
        have r0 := hx.cells r0
        have r1 := hx.cells r1
        have r2 := hx.cells r2
        have r3 := hx.cells r3
        have f0 := (hx.frozenr _ 0 hwl).trans f0
        have f1 := (hx.frozenr _ 1 hwl).trans f1
        have f2 := (hx.frozenr _ 2 hwl).trans f2
        have f3 := (hx.frozenr _ 3 hwl).trans f3
        obtain ⟨b0, b1, b2, b3⟩ := hbx
        have hws := hx.size
        have rl : w.heap.size + 1 < wr.heap.size := by omega
        have bl : wb.heap.size + 1 < wr.heap.size := World.block_lt_of_cell? _ _ b0
        have HK := Lib.hid hkn; clear hkn
        clear hown hap HFZ
        go_wp2
        refine bodyPost_ret (v := .tuple #[.agg #[.int .i64 c.number, .int .i64 c.start, .int .i64 c.finish, .slice go' (mrU c k).length gc'], .bool true]) ?_ rfl ?_
        · simp [results, Try.results24, go_sem, cell_put, r0, r1, r2, r3]
        · rw [← HK.out]
          have hF' := (((hFo.setCell (p := ⟨w.heap.size + 1, 0, none⟩) hwl (.int .i64 c.number)).setCell (p := ⟨w.heap.size + 1, 1, none⟩) hwl (.int .i64 c.start)).setCell (p := ⟨w.heap.size + 1, 2, none⟩) hwl (.int .i64 c.finish)).setCell (p := ⟨w.heap.size + 1, 3, none⟩) hwl (.slice go' (mrU c k).length gc')
          first
            | exact ⟨go', gc', rfl, Ext.setCell (Ext.setCell (Ext.setCell (Ext.setCell (hx01.trans hx) (by simp) _) (by simp) _) (by simp) _) (by simp) _, hF'.mono hx01.size⟩
            | exact ⟨go', ⟨gc', rfl⟩, Ext.setCell (Ext.setCell (Ext.setCell (Ext.setCell (hx01.trans hx) (by simp) _) (by simp) _) (by simp) _) (by simp) _, hF'.mono hx01.size⟩
  · have hB' : cardB c = false := by simpa using hB
    have hC : mrC c = ⟨0, 0, 0, []⟩ := by simp [mrC, hB']
    rw [hC]
    rw [hB'] at H ⊢
    clear hC hB hB'
    unfold CardD.val at H ⊢
    dsimp only
    go_enter Try.func24, Try.ntmps24
    go_wp2_with fail
    refine (H _ (by repeat (first | (with_reducible exact Ext.refl _) | (with_reducible assumption) | with_reducible refine Ext.drew ?_ | with_reducible refine Ext.alloc ?_ _ | with_reducible refine Ext.setCell ?_ (by first | (simp; done) | (simp; omega) | omega) _ | with_reducible refine Ext.trans ?_ (by with_reducible assumption)))).mono ?_; rintro e wb ⟨rfl, hxc⟩
    have r0 : wb.cell? ⟨w.heap.size + 1, 0, none⟩ = some (.int .i64 0) := hxc.cells (by go_simp)
    have r1 : wb.cell? ⟨w.heap.size + 1, 1, none⟩ = some (.int .i64 0) := hxc.cells (by go_simp)
    have r2 : wb.cell? ⟨w.heap.size + 1, 2, none⟩ = some (.int .i64 0) := hxc.cells (by go_simp)
    have r3 : wb.cell? ⟨w.heap.size + 1, 3, none⟩ = some (.slice none 0 0) := hxc.cells (by go_simp)
    have rz : ∀ j, wb.frozen? ⟨w.heap.size + 1, j, none⟩ = false := fun j => (hxc.frozenr _ _ (by simp)).trans (by go_simp)
    have f0 := rz 0
    have f1 := rz 1
    have f2 := rz 2
    have f3 := rz 3
    have hwl : w.heap.size + 1 < wb.heap.size := World.block_lt_of_cell? _ _ r0
    have hx01 : Ext w wb := (by repeat (first | (with_reducible exact Ext.refl _) | (with_reducible assumption) | with_reducible refine Ext.drew ?_ | with_reducible refine Ext.alloc ?_ _ | with_reducible refine Ext.setCell ?_ (by first | (simp; done) | (simp; omega) | omega) _ | with_reducible refine Ext.trans ?_ (by with_reducible assumption)))
    clear rz H h hxc
    go_wp2
    refine bodyPost_ret (v := .tuple #[.agg #[.int .i64 0, .int .i64 0, .int .i64 0, .slice none 0 0], .bool false]) ?_ rfl ?_
    · simp [results, Try.results24, go_sem, cell_put, r0, r1, r2, r3]
    · exact ⟨none, 0, rfl, (by repeat (first | (with_reducible exact Ext.refl _) | (with_reducible assumption) | with_reducible refine Ext.drew ?_ | with_reducible refine Ext.alloc ?_ _ | with_reducible refine Ext.setCell ?_ (by first | (simp; done) | (simp; omega) | omega) _ | with_reducible refine Ext.trans ?_ (by with_reducible assumption))), ⟨fun hn => by simp at hn, fun a e => (by cases e), fun b off e => (by cases e)⟩⟩

end Go.Proofs.Ytbpcejdpgckkoaa
