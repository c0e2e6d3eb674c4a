/-
  Proved here: what MissingCodes and its reference return.
  Conditions: the lengths fit.
-/
import Derived.Test.YtckgjpaccgpdpaaGreatDoorCards5
import Derived.Test.YtckgjpaccgpdpaaGreatDoorApart
import Derived.Test.YtckgjpaccgpdpaaGreatDoorSearch
namespace Go.Proofs.YtckgjpaccgpdpaaGreatDoor
open Go.RowKit

/-- the missing codes among the first -/
def miU (c : CardD) (cs : List Int) : Nat → List Int
  | 0 => []
  | i + 1 => if fI c cs i < 0 then miU c cs i ++ [nth cs i] else miU c cs i
def miL (c : CardD) (cs : List Int) : List Int := if askB c cs then miU c cs cs.length else []
theorem miU_len (c : CardD) (cs : List Int) (i : Nat) : (miU c cs i).length ≤ i := by
  induction i with
  | zero => simp [miU]
  | succ i ih => rw [miU]; split <;> (try simp) <;> omega
theorem miL_len (c : CardD) (cs : List Int) : (miL c cs).length ≤ 12 := by
  unfold miL
  split
  · rename_i h; have := miU_len c cs cs.length; have := (ask_bd h).2; omega
  · simp
theorem nth_last {α : Type} [Inhabited α] (xs : List α) (x : α) : nth (xs ++ [x]) xs.length = x := by simp [nth, List.getD]
theorem nth_init {α : Type} [Inhabited α] {xs ys : List α} {k : Nat} (h : k < xs.length) : nth (xs ++ ys) k = nth xs k := by simp only [nth, List.getD]; rw [List.getElem?_append_left h]
theorem fL_nth (c : CardD) (cs : List Int) {n k : Nat} (h : k < n) : nth (fL c cs n) k = fI c cs k := by
  induction n with
  | zero => omega
  | succ n ih =>
    rw [fL]
    by_cases e : k = n
    · subst e
      have := nth_last (fL c cs k) (fI c cs k)
      rwa [fL_len] at this
    · rw [nth_init (by rw [fL_len]; omega)]
      exact ih (by omega)

set_option maxRecDepth 100000 in
set_option maxHeartbeats 2000000 in
theorem impl_missingCodes {c : CardD} {b0 off0 cap : Nat} {cs : List Int} {bo : Option Addr} {bcap : Nat} {w : World} (h : RowAt w (some ⟨b0, off0, none⟩) 2 c.ps.length (fun k => (nth c.ps k).c)) (hn : c.ps.length ≤ 12) (hcap : c.ps.length ≤ cap ∧ cap ≤ 9223372036854775807)
    (h' : RowAt w bo 1 cs.length (ic cs)) (hcs : cs.length ≤ 12) :
    Calls Tryz.prog 35 #[c.val (some ⟨b0, off0, none⟩) cap, .slice bo cs.length bcap] w fun e w' => ∃ go gc, e = .returned (.slice go (miU c cs cs.length).length gc) ∧ Ext w w' ∧ FreshAt w.heap.size w' go 1 (miU c cs cs.length).length (ic (miU c cs cs.length)) := by
  obtain ⟨i0, hi, hz0, hz1, hz2⟩ := info_parts infoInt
  have HF := fun x hx => impl_foundAt (w := x) (cap := cap) (bo := bo) (bcap := bcap) (cs := cs) (h.ext hx) hn hcap (h'.ext hx) hcs
  simp only [fL_len] at HF
  have hx0 : Ext w (w.alloc (Obj.cells #[.int .i64 c.number, .int .i64 c.start, .int .i64 c.finish, .slice (some ⟨b0, off0, none⟩) c.ps.length cap] 26)) := (Ext.refl _).alloc _
  unfold CardD.val at HF ⊢
  go_enter Tryz.func35, Tryz.ntmps35
  go_wp2_with fail
  refine (HF _ (by repeat (first | (with_reducible exact Ext.refl _) | (with_reducible assumption) | with_reducible refine Ext.drew ?_ | with_reducible refine Ext.alloc ?_ _ | with_reducible refine Ext.setCell ?_ (by first | (simp; done) | (simp; omega) | omega) _ | with_reducible refine Ext.trans ?_ (by with_reducible assumption)))).mono ?_; rintro e w1 ⟨go, gc, rfl, hx1, hF⟩
  have hxb : Ext (w.alloc (Obj.cells #[.int .i64 c.number, .int .i64 c.start, .int .i64 c.finish, .slice (some ⟨b0, off0, none⟩) c.ps.length cap] 26)) w1 := (by repeat (first | (with_reducible exact Ext.refl _) | (with_reducible assumption) | with_reducible refine Ext.drew ?_ | with_reducible refine Ext.alloc ?_ _ | with_reducible refine Ext.setCell ?_ (by first | (simp; done) | (simp; omega) | omega) _ | with_reducible refine Ext.trans ?_ (by with_reducible assumption)))
  have hown0 := Owns.early (α := Int) (s := 1) (cc := icc) (Ext.refl (w.alloc (Obj.cells #[.int .i64 c.number, .int .i64 c.start, .int .i64 c.finish, .slice (some ⟨b0, off0, none⟩) c.ps.length cap] 26))) hx1
  have hap0 := Apart.new hF (v := .slice (some ⟨w.heap.size + 1, 0, none⟩) 0 0) (by simpa using early_block)
  have hrF := hF.row
  have hlt0 := hx0.size
  rw [show (w.alloc (Obj.cells #[.int .i64 c.number, .int .i64 c.start, .int .i64 c.finish, .slice (some ⟨b0, off0, none⟩) c.ps.length cap] 26)).heap.size = w.heap.size + 1 by simp] at hown0
  have hwl : (w.alloc (Obj.cells #[.int .i64 c.number, .int .i64 c.start, .int .i64 c.finish, .slice (some ⟨b0, off0, none⟩) c.ps.length cap] 26)).heap.size = w.heap.size + 1 := by simp
  obtain ⟨wb, hwb⟩ : ∃ wb, wb = (w.alloc (Obj.cells #[.int .i64 c.number, .int .i64 c.start, .int .i64 c.finish, .slice (some ⟨b0, off0, none⟩) c.ps.length cap] 26)) := ⟨_, rfl⟩
  rw [← hwb] at hx0 hxb hwl hlt0
  rw [← hwl] at hown0 hap0
  clear hF HF hx1 hwb h
  go_wp2
  rw [← hwl]
  clear hwl
  go_loopw [5, 13] (fun out i wr => ∃ k : Nat, k ≤ cs.length ∧ i = .int .i64 k ∧ Ext wb wr ∧ Owns wr wb.heap.size 3 1 icc out (miU c cs k) ∧ RowAt wr go 1 cs.length (ic (fL c cs cs.length)) ∧ Apart wr go out) (fun _ i _ => cs.length - (intOf i).toNat)
  case atStart => exact ⟨0, by omega, rfl, hxb, hown0, hrF, hap0⟩
  case round =>
    clear hown0 hap0 hrF hxb
    obtain ⟨k, hk, rfl, hx, hown, hrF, hap⟩ := hrel
    have hlen := miU_len c cs k
    by_cases hlt : k < cs.length
    · obtain ⟨b, off, rfl, hcell⟩ := ints_at' h' (by omega)
      have d0 := hx.cells (hx0.cells (hcell k hlt))
      obtain ⟨b1, off1, rfl, hc1⟩ := intsN hrF (by omega)
      have d1 := hc1 k hlt
      rw [fL_nth c cs hlt] at d1
      clear hcell hc1
      by_cases hneg : fI c cs k < 0
      · have hnx : miU c cs (k + 1) = miU c cs k ++ [nth cs k] := by rw [miU, if_pos hneg]
        have HN := Lib.hid hnx; clear hnx
        have hrow2 := fun x => row_lit (w := x) (cs := #[.int .i64 (nth cs k)]) (T := 3) (s := 1) (cc := icc) (x := nth cs k) (by intro j hj; obtain rfl : j = 0 := (by omega); rfl)
        go_wp2_with (at_builtin; refine wpList_append_where rfl _ _ 27 rfl wb 3 i0 _ 1 8 Tryz.underlying27 hi hz0 hz1 hz2 rfl (by decide) icc icc_one _ (miU c cs k) [nth cs k] rfl (hown.kept ((Ext.refl _).alloc _)) ⟨wr.heap.size, 0, none⟩ 1 1 rfl rfl (hrow2 _) (by simp; omega) (by simp; omega) (hx.alloc _) ?_; intro v1 w3 ho1 hx3 hg3 hv3)
        rw [← HN.out] at ho1
        have hap3 := (hap.ext ((Ext.refl _).alloc _)).append hg3 hv3
        have hrF3 := (hap.ext ((Ext.refl _).alloc _)).row (by decide) (hrF.ext ((Ext.refl _).alloc _)) hg3
        clear hg3 hv3
        go_wp2
        go_roundw
        case rel => exact ⟨k + 1, by omega, by go_num, hx3, ho1, hrF3, hap3⟩
        case measure => simp [intOf]; omega
      · have hnx : miU c cs (k + 1) = miU c cs k := by rw [miU, if_neg hneg]
        have HN := Lib.hid hnx; clear hnx
        have hneg' : 0 ≤ fI c cs k := by omega
        go_wp2
        go_roundw
        case rel => exact ⟨k + 1, by omega, by go_num, hx, by rw [HN.out]; exact hown, hrF, hap⟩
        case measure => simp [intOf]; omega
    · have hkn : k = cs.length := by omega
      subst hkn
      obtain ⟨go', gc', rfl, hFo, _, _, _⟩ := hown.fresh
      go_wp2
      go_ret
      exact ⟨go', gc', rfl, hx0.trans hx, hFo.mono hlt0⟩

set_option maxRecDepth 100000 in
set_option maxHeartbeats 2000000 in
theorem spec_l12Missing {c : CardD} {b0 off0 cap : Nat} {cs : List Int} {bo : Option Addr} {bcap : Nat} {w : World} (h : RowAt w (some ⟨b0, off0, none⟩) 2 c.ps.length (fun k => (nth c.ps k).c)) (hn : c.ps.length ≤ 12) (hcap : c.ps.length ≤ cap ∧ cap ≤ 9223372036854775807)
    (h' : RowAt w bo 1 cs.length (ic cs)) (hcs : cs.length ≤ 12) :
    Calls Tryz.prog 36 #[c.val (some ⟨b0, off0, none⟩) cap, .slice bo cs.length bcap] w fun e w' => ∃ go gc, e = .returned (.slice go (miU c cs cs.length).length gc) ∧ Ext w w' ∧ FreshAt w.heap.size w' go 1 (miU c cs cs.length).length (ic (miU c cs cs.length)) := by
  obtain ⟨i0, hi, hz0, hz1, hz2⟩ := info_parts infoInt
  have HF := fun x hx => spec_l12Found (w := x) (cap := cap) (bo := bo) (bcap := bcap) (cs := cs) (h.ext hx) hn hcap (h'.ext hx) hcs
  simp only [fL_len] at HF
  have hx0 : Ext w (w.alloc (Obj.cells #[.int .i64 c.number, .int .i64 c.start, .int .i64 c.finish, .slice (some ⟨b0, off0, none⟩) c.ps.length cap] 26)) := (Ext.refl _).alloc _
  unfold CardD.val at HF ⊢
  go_enter Tryz.func36, Tryz.ntmps36
  go_wp2_with fail
  refine (HF _ (by repeat (first | (with_reducible exact Ext.refl _) | (with_reducible assumption) | with_reducible refine Ext.drew ?_ | with_reducible refine Ext.alloc ?_ _ | with_reducible refine Ext.setCell ?_ (by first | (simp; done) | (simp; omega) | omega) _ | with_reducible refine Ext.trans ?_ (by with_reducible assumption)))).mono ?_; rintro e w1 ⟨go, gc, rfl, hx1, hF⟩
  have hxb : Ext (w.alloc (Obj.cells #[.int .i64 c.number, .int .i64 c.start, .int .i64 c.finish, .slice (some ⟨b0, off0, none⟩) c.ps.length cap] 26)) w1 := (by repeat (first | (with_reducible exact Ext.refl _) | (with_reducible assumption) | with_reducible refine Ext.drew ?_ | with_reducible refine Ext.alloc ?_ _ | with_reducible refine Ext.setCell ?_ (by first | (simp; done) | (simp; omega) | omega) _ | with_reducible refine Ext.trans ?_ (by with_reducible assumption)))
  have hown0 := Owns.early (α := Int) (s := 1) (cc := icc) (Ext.refl (w.alloc (Obj.cells #[.int .i64 c.number, .int .i64 c.start, .int .i64 c.finish, .slice (some ⟨b0, off0, none⟩) c.ps.length cap] 26))) hx1
  have hap0 := Apart.new hF (v := .slice (some ⟨w.heap.size + 1, 0, none⟩) 0 0) (by simpa using early_block)
  have hrF := hF.row
  have hlt0 := hx0.size
  rw [show (w.alloc (Obj.cells #[.int .i64 c.number, .int .i64 c.start, .int .i64 c.finish, .slice (some ⟨b0, off0, none⟩) c.ps.length cap] 26)).heap.size = w.heap.size + 1 by simp] at hown0
  have hwl : (w.alloc (Obj.cells #[.int .i64 c.number, .int .i64 c.start, .int .i64 c.finish, .slice (some ⟨b0, off0, none⟩) c.ps.length cap] 26)).heap.size = w.heap.size + 1 := by simp
  obtain ⟨wb, hwb⟩ : ∃ wb, wb = (w.alloc (Obj.cells #[.int .i64 c.number, .int .i64 c.start, .int .i64 c.finish, .slice (some ⟨b0, off0, none⟩) c.ps.length cap] 26)) := ⟨_, rfl⟩
  rw [← hwb] at hx0 hxb hwl hlt0
  rw [← hwl] at hown0 hap0
  clear hF HF hx1 hwb h
  go_wp2
  rw [← hwl]
  clear hwl
  go_loopw [5, 7] (fun out i wr => ∃ k : Nat, k ≤ cs.length ∧ i = .int .i64 k ∧ Ext wb wr ∧ Owns wr wb.heap.size 3 1 icc out (miU c cs k) ∧ RowAt wr go 1 cs.length (ic (fL c cs cs.length)) ∧ Apart wr go out) (fun _ i _ => cs.length - (intOf i).toNat)
  case atStart => exact ⟨0, by omega, rfl, hxb, hown0, hrF, hap0⟩
  case round =>
    clear hown0 hap0 hrF hxb
    obtain ⟨k, hk, rfl, hx, hown, hrF, hap⟩ := hrel
    have hlen := miU_len c cs k
    by_cases hlt : k < cs.length
    · obtain ⟨b, off, rfl, hcell⟩ := ints_at' h' (by omega)
      have d0 := hx.cells (hx0.cells (hcell k hlt))
      obtain ⟨b1, off1, rfl, hc1⟩ := intsN hrF (by omega)
      have d1 := hc1 k hlt
      rw [fL_nth c cs hlt] at d1
      clear hcell hc1
      by_cases hneg : fI c cs k < 0
      · have hnx : miU c cs (k + 1) = miU c cs k ++ [nth cs k] := by rw [miU, if_pos hneg]
        have HN := Lib.hid hnx; clear hnx
        have hrow2 := fun x => row_lit (w := x) (cs := #[.int .i64 (nth cs k)]) (T := 3) (s := 1) (cc := icc) (x := nth cs k) (by intro j hj; obtain rfl : j = 0 := (by omega); rfl)
        go_wp2_with (at_builtin; refine wpList_append_where rfl _ _ 27 rfl wb 3 i0 _ 1 8 Tryz.underlying27 hi hz0 hz1 hz2 rfl (by decide) icc icc_one _ (miU c cs k) [nth cs k] rfl (hown.kept ((Ext.refl _).alloc _)) ⟨wr.heap.size, 0, none⟩ 1 1 rfl rfl (hrow2 _) (by simp; omega) (by simp; omega) (hx.alloc _) ?_; intro v1 w3 ho1 hx3 hg3 hv3)
        rw [← HN.out] at ho1
        have hap3 := (hap.ext ((Ext.refl _).alloc _)).append hg3 hv3
        have hrF3 := (hap.ext ((Ext.refl _).alloc _)).row (by decide) (hrF.ext ((Ext.refl _).alloc _)) hg3
        clear hg3 hv3
        go_wp2
        go_roundw
        case rel => exact ⟨k + 1, by omega, by go_num, hx3, ho1, hrF3, hap3⟩
        case measure => simp [intOf]; omega
      · have hnx : miU c cs (k + 1) = miU c cs k := by rw [miU, if_neg hneg]
        have HN := Lib.hid hnx; clear hnx
        have hneg' : 0 ≤ fI c cs k := by omega
        go_wp2
        go_roundw
        case rel => exact ⟨k + 1, by omega, by go_num, hx, by rw [HN.out]; exact hown, hrF, hap⟩
        case measure => simp [intOf]; omega
    · have hkn : k = cs.length := by omega
      subst hkn
      obtain ⟨go', gc', rfl, hFo, _, _, _⟩ := hown.fresh
      go_wp2
      go_ret
      exact ⟨go', gc', rfl, hx0.trans hx, hFo.mono hlt0⟩

set_option maxHeartbeats 1000000 in
theorem impl_MissingCodes {c : CardD} {b0 off0 cap : Nat} {cs : List Int} {bo : Option Addr} {bcap : Nat} {w : World} (h : RowAt w (some ⟨b0, off0, none⟩) 2 c.ps.length (fun k => (nth c.ps k).c)) (hn : c.ps.length ≤ cap ∧ cap ≤ 9223372036854775807)
    (h' : RowAt w bo 1 cs.length (ic cs)) (hcs : cs.length ≤ 1048576) :
    Calls Tryz.prog 11 #[c.val (some ⟨b0, off0, none⟩) cap, .slice bo cs.length bcap] w fun e w' => ∃ go gc, e = .returned (.tuple #[.slice go (miL c cs).length gc, .bool (askB c cs)]) ∧ Ext w w' ∧ FreshAt w.heap.size w' go 1 (miL c cs).length (ic (miL c cs)) := by
  have H := fun x hx => impl_IsCard (w := x) (ao := some ⟨b0, off0, none⟩) (cap := cap) (h.ext hx) (by omega)
  have HC := fun x hx => impl_areCodes (w := x) (ao := bo) (cap := bcap) (h'.ext hx) (by omega)
  have hx0 : Ext w (w.alloc (Obj.cells #[.int .i64 c.number, .int .i64 c.start, .int .i64 c.finish, .slice (some ⟨b0, off0, none⟩) c.ps.length cap] 26)) := (Ext.refl _).alloc _
  by_cases hb : cardB c = true
  · rw [hb] at H
    by_cases hc : codesB cs = true
    · rw [hc] at HC
      have hB : askB c cs = true := by simp [askB, hb, hc]
      have hL : miL c cs = miU c cs cs.length := by simp [miL, hB]
      have hbd := ask_bd hB
      rw [hL, hB]
      have HF := fun x hx => impl_missingCodes (w := x) (cap := cap) (bo := bo) (bcap := bcap) (cs := cs) (h.ext hx) hbd.1 hn (h'.ext hx) hbd.2
      clear hL hB hb hc hbd
      unfold CardD.val at H HF ⊢
      go_enter Tryz.func11, Tryz.ntmps11
      go_wp2_with fail
      refine (H _ (by repeat (first | (with_reducible exact Ext.refl _) | (with_reducible assumption) | with_reducible refine Ext.drew ?_ | with_reducible refine Ext.alloc ?_ _ | with_reducible refine Ext.setCell ?_ (by first | (simp; done) | (simp; omega) | omega) _ | with_reducible refine Ext.trans ?_ (by with_reducible assumption)))).mono ?_; rintro e w1 ⟨rfl, hx1⟩
      have hc := hx1.cellr
      go_wp2_with fail
      refine (HC _ (by repeat (first | (with_reducible exact Ext.refl _) | (with_reducible assumption) | with_reducible refine Ext.drew ?_ | with_reducible refine Ext.alloc ?_ _ | with_reducible refine Ext.setCell ?_ (by first | (simp; done) | (simp; omega) | omega) _ | with_reducible refine Ext.trans ?_ (by with_reducible assumption)))).mono ?_; rintro e w2 ⟨rfl, hx2⟩
      have hx3 := hx1.trans hx2
      clear hc hx1; have hc := hx3.cellr
      go_wp2_with fail
      refine (HF _ (by repeat (first | (with_reducible exact Ext.refl _) | (with_reducible assumption) | with_reducible refine Ext.drew ?_ | with_reducible refine Ext.alloc ?_ _ | with_reducible refine Ext.setCell ?_ (by first | (simp; done) | (simp; omega) | omega) _ | with_reducible refine Ext.trans ?_ (by with_reducible assumption)))).mono ?_; rintro e w3 ⟨go, gc, rfl, hx4, hF⟩
      clear hc
      go_wp2
      go_ret2
      exact ⟨go, gc, rfl, (by repeat (first | (with_reducible exact Ext.refl _) | (with_reducible assumption) | with_reducible refine Ext.drew ?_ | with_reducible refine Ext.alloc ?_ _ | with_reducible refine Ext.setCell ?_ (by first | (simp; done) | (simp; omega) | omega) _ | with_reducible refine Ext.trans ?_ (by with_reducible assumption))), hF.mono (Nat.le_trans hx0.size hx3.size)⟩
    · have hc' : codesB cs = false := by simpa using hc
      rw [hc'] at HC
      have hB : askB c cs = false := by simp [askB, hb, hc']
      have hL : miL c cs = [] := by simp [miL, hB]
      rw [hL, hB]
      clear hL hB hb hc hc'
      unfold CardD.val at H ⊢
      go_enter Tryz.func11, Tryz.ntmps11
      go_wp2_with fail
      refine (H _ (by repeat (first | (with_reducible exact Ext.refl _) | (with_reducible assumption) | with_reducible refine Ext.drew ?_ | with_reducible refine Ext.alloc ?_ _ | with_reducible refine Ext.setCell ?_ (by first | (simp; done) | (simp; omega) | omega) _ | with_reducible refine Ext.trans ?_ (by with_reducible assumption)))).mono ?_; rintro e w1 ⟨rfl, hx1⟩
      have hc := hx1.cellr
      go_wp2_with fail
      refine (HC _ (by repeat (first | (with_reducible exact Ext.refl _) | (with_reducible assumption) | with_reducible refine Ext.drew ?_ | with_reducible refine Ext.alloc ?_ _ | with_reducible refine Ext.setCell ?_ (by first | (simp; done) | (simp; omega) | omega) _ | with_reducible refine Ext.trans ?_ (by with_reducible assumption)))).mono ?_; rintro e w2 ⟨rfl, hx2⟩
      clear hc
      go_wp2
      go_ret2
      exact ⟨none, 0, rfl, (by repeat (first | (with_reducible exact Ext.refl _) | (with_reducible assumption) | with_reducible refine Ext.drew ?_ | with_reducible refine Ext.alloc ?_ _ | with_reducible refine Ext.setCell ?_ (by first | (simp; done) | (simp; omega) | omega) _ | with_reducible refine Ext.trans ?_ (by with_reducible assumption))), ⟨fun hn => by simp at hn, fun a e => (by cases e), fun b off e => (by cases e)⟩⟩
  · have hb' : cardB c = false := by simpa using hb
    rw [hb'] at H
    have hB : askB c cs = false := by simp [askB, hb']
    have hL : miL c cs = [] := by simp [miL, hB]
    rw [hL, hB]
    clear hL hB hb hb'
    unfold CardD.val at H ⊢
    go_enter Tryz.func11, Tryz.ntmps11
    go_wp2_with fail
    refine (H _ (by repeat (first | (with_reducible exact Ext.refl _) | (with_reducible assumption) | with_reducible refine Ext.drew ?_ | with_reducible refine Ext.alloc ?_ _ | with_reducible refine Ext.setCell ?_ (by first | (simp; done) | (simp; omega) | omega) _ | with_reducible refine Ext.trans ?_ (by with_reducible assumption)))).mono ?_; rintro e w1 ⟨rfl, hx1⟩
    go_wp2
    go_ret2
    exact ⟨none, 0, rfl, (by repeat (first | (with_reducible exact Ext.refl _) | (with_reducible assumption) | with_reducible refine Ext.drew ?_ | with_reducible refine Ext.alloc ?_ _ | with_reducible refine Ext.setCell ?_ (by first | (simp; done) | (simp; omega) | omega) _ | with_reducible refine Ext.trans ?_ (by with_reducible assumption))), ⟨fun hn => by simp at hn, fun a e => (by cases e), fun b off e => (by cases e)⟩⟩

set_option maxHeartbeats 1000000 in
theorem spec_MissingCodes {c : CardD} {b0 off0 cap : Nat} {cs : List Int} {bo : Option Addr} {bcap : Nat} {w : World} (h : RowAt w (some ⟨b0, off0, none⟩) 2 c.ps.length (fun k => (nth c.ps k).c)) (hn : c.ps.length ≤ cap ∧ cap ≤ 9223372036854775807)
    (h' : RowAt w bo 1 cs.length (ic cs)) (hcs : cs.length ≤ 1048576) :
    Calls Tryz.prog 12 #[c.val (some ⟨b0, off0, none⟩) cap, .slice bo cs.length bcap] w fun e w' => ∃ go gc, e = .returned (.tuple #[.slice go (miL c cs).length gc, .bool (askB c cs)]) ∧ Ext w w' ∧ FreshAt w.heap.size w' go 1 (miL c cs).length (ic (miL c cs)) := by
  have H := fun x hx => spec_l12Asked (w := x) (ao := some ⟨b0, off0, none⟩) (cap := cap) (bo := bo) (bcap := bcap) (cs := cs) (h.ext hx) (by omega) (h'.ext hx) hcs
  have hx0 : Ext w (w.alloc (Obj.cells #[.int .i64 c.number, .int .i64 c.start, .int .i64 c.finish, .slice (some ⟨b0, off0, none⟩) c.ps.length cap] 26)) := (Ext.refl _).alloc _
  by_cases hB : askB c cs = true
  · have hL : miL c cs = miU c cs cs.length := by simp [miL, hB]
    have hbd := ask_bd hB
    rw [hL, hB]
    rw [hB] at H
    have HF := fun x hx => spec_l12Missing (w := x) (cap := cap) (bo := bo) (bcap := bcap) (cs := cs) (h.ext hx) hbd.1 hn (h'.ext hx) hbd.2
    clear hL hB hbd
    unfold CardD.val at H HF ⊢
    go_enter Tryz.func12, Tryz.ntmps12
    go_wp2_with fail
    refine (H _ (by repeat (first | (with_reducible exact Ext.refl _) | (with_reducible assumption) | with_reducible refine Ext.drew ?_ | with_reducible refine Ext.alloc ?_ _ | with_reducible refine Ext.setCell ?_ (by first | (simp; done) | (simp; omega) | omega) _ | with_reducible refine Ext.trans ?_ (by with_reducible assumption)))).mono ?_; rintro e w1 ⟨rfl, hx1⟩
    have hc := hx1.cellr
    go_wp2_with fail
    refine (HF _ (by repeat (first | (with_reducible exact Ext.refl _) | (with_reducible assumption) | with_reducible refine Ext.drew ?_ | with_reducible refine Ext.alloc ?_ _ | with_reducible refine Ext.setCell ?_ (by first | (simp; done) | (simp; omega) | omega) _ | with_reducible refine Ext.trans ?_ (by with_reducible assumption)))).mono ?_; rintro e w3 ⟨go, gc, rfl, hx4, hF⟩
    clear hc
    go_wp2
    go_ret2
    exact ⟨go, gc, rfl, (by repeat (first | (with_reducible exact Ext.refl _) | (with_reducible assumption) | with_reducible refine Ext.drew ?_ | with_reducible refine Ext.alloc ?_ _ | with_reducible refine Ext.setCell ?_ (by first | (simp; done) | (simp; omega) | omega) _ | with_reducible refine Ext.trans ?_ (by with_reducible assumption))), hF.mono (Nat.le_trans hx0.size hx1.size)⟩
  · have hB' : askB c cs = false := by simpa using hB
    have hL : miL c cs = [] := by simp [miL, hB']
    rw [hL, hB']
    rw [hB'] at H
    clear hL hB hB'
    unfold CardD.val at H ⊢
    go_enter Tryz.func12, Tryz.ntmps12
    go_wp2_with fail
    refine (H _ (by repeat (first | (with_reducible exact Ext.refl _) | (with_reducible assumption) | with_reducible refine Ext.drew ?_ | with_reducible refine Ext.alloc ?_ _ | with_reducible refine Ext.setCell ?_ (by first | (simp; done) | (simp; omega) | omega) _ | with_reducible refine Ext.trans ?_ (by with_reducible assumption)))).mono ?_; rintro e w1 ⟨rfl, hx1⟩
    go_wp2
    go_ret2
    exact ⟨_, _, rfl, (by repeat (first | (with_reducible exact Ext.refl _) | (with_reducible assumption) | with_reducible refine Ext.drew ?_ | with_reducible refine Ext.alloc ?_ _ | with_reducible refine Ext.setCell ?_ (by first | (simp; done) | (simp; omega) | omega) _ | with_reducible refine Ext.trans ?_ (by with_reducible assumption))), (Owns.start (α := Int) (e := 3) (s := 1) (cc := icc) hx1).fresh0.mono (by first | exact Nat.le_refl _ | (simp; done) | exact hx0.size)⟩

end Go.Proofs.YtckgjpaccgpdpaaGreatDoor
