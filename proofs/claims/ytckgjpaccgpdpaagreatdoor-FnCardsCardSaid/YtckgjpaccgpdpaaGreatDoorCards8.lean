/-
  Proved here: what ExtraPunches and its reference return.
  Conditions: the lengths fit.
-/
import Derived.Test.YtckgjpaccgpdpaaGreatDoorCards6
import Derived.Test.YtckgjpaccgpdpaaGreatDoorSearch
namespace Go.Proofs.YtckgjpaccgpdpaaGreatDoor
open Go.RowKit

/-- the places among the first that no code is found at -/
def exU (c : CardD) (cs : List Int) : Nat → List Int
  | 0 => []
  | k + 1 => if hasI (fL c cs cs.length) cs.length k then exU c cs k else exU c cs k ++ [(k : Int)]
def exL (c : CardD) (cs : List Int) : List Int := if askB c cs then exU c cs c.ps.length else []
theorem exU_len (c : CardD) (cs : List Int) (i : Nat) : (exU c cs i).length ≤ i := by
  induction i with
  | zero => simp [exU]
  | succ i ih => rw [exU]; split <;> (try simp) <;> omega
theorem exL_len (c : CardD) (cs : List Int) : (exL c cs).length ≤ 12 := by
  unfold exL
  split
  · rename_i h; have := exU_len c cs c.ps.length; have := (ask_bd h).1; omega
  · simp

set_option maxRecDepth 100000 in
set_option maxHeartbeats 2000000 in
theorem impl_ExtraPunches {c : CardD} {b0 off0 cap : Nat} {cs : List Int} {bo : Option Addr} {bcap : Nat} {w : World} (h : RowAt w (some ⟨b0, off0, none⟩) 2 c.ps.length (fun k => (nth c.ps k).c)) (hn : c.ps.length ≤ cap ∧ cap ≤ 9223372036854775807)
    (h' : RowAt w bo 1 cs.length (ic cs)) (hcs : cs.length ≤ 1048576) :
    Calls Tryz.prog 13 #[c.val (some ⟨b0, off0, none⟩) cap, .slice bo cs.length bcap] w fun e w' => ∃ go gc, e = .returned (.tuple #[.slice go (exL c cs).length gc, .bool (askB c cs)]) ∧ Ext w w' ∧ FreshAt w.heap.size w' go 1 (exL c cs).length (ic (exL c cs)) := by
  obtain ⟨i0, hi, hz0, hz1, hz2⟩ := info_parts infoInt
  have hx0 : Ext w (w.alloc (Obj.cells #[.int .i64 c.number, .int .i64 c.start, .int .i64 c.finish, .slice (some ⟨b0, off0, none⟩) c.ps.length cap] 26)) := (Ext.refl _).alloc _
  have H := fun x hx => impl_FoundAt (w := x) (cap := cap) (bo := bo) (bcap := bcap) (cs := cs) (h.ext hx) hn (h'.ext hx) hcs
  by_cases hB : askB c cs = true
  · have hL : exL c cs = exU c cs c.ps.length := by simp [exL, hB]
    have hbd := ask_bd hB
    rw [hL, hB]
    rw [hB] at H
    rw [show foL c cs = fL c cs cs.length by simp [foL, hB]] at H
    simp only [fL_len] at H
    clear hL hB
    unfold CardD.val at H ⊢
    go_enter Tryz.func13, Tryz.ntmps13
    go_wp2_with fail
    refine (H _ (by repeat (first | (with_reducible exact Ext.refl _) | (with_reducible assumption) | with_reducible refine Ext.drew ?_ | with_reducible refine Ext.alloc ?_ _ | with_reducible refine Ext.setCell ?_ (by first | (simp; done) | (simp; omega) | omega) _ | with_reducible refine Ext.trans ?_ (by with_reducible assumption)))).mono ?_; rintro e w1 ⟨go, gc, rfl, hx1, hF⟩
    have f3 : w1.cell? ⟨w.heap.size, 3, none⟩ = some (.slice (some ⟨b0, off0, none⟩) c.ps.length cap) := hx1.cells (by go_simp)
    have hwl : w.heap.size < w1.heap.size := Nat.lt_of_lt_of_le (by simp) hx1.size
    have hown0 := Owns.start (α := Int) (e := 3) (s := 1) (cc := icc) (Ext.refl w1)
    have hrF := hF.row
    have hx01 := hx0.trans hx1
    clear hF H h hx1 hx0
    go_wp2
    obtain ⟨wb, hwb⟩ : ∃ wb, wb = w1 := ⟨_, rfl⟩
    rw [← hwb]
    rw [← hwb] at hx01 hrF hown0 hwl f3
    clear hwb
    go_loopw [8, 22] (fun out i wr => ∃ k : Nat, k ≤ c.ps.length ∧ i = .int .i64 k ∧ Ext wb wr ∧ Owns wr wb.heap.size 3 1 icc out (exU c cs k)) (fun _ i _ => c.ps.length - (intOf i).toNat)
    case atStart => exact ⟨0, by omega, rfl, (by repeat (first | (with_reducible exact Ext.refl _) | (with_reducible assumption) | with_reducible refine Ext.drew ?_ | with_reducible refine Ext.alloc ?_ _ | with_reducible refine Ext.setCell ?_ (by first | (simp; done) | (simp; omega) | omega) _ | with_reducible refine Ext.trans ?_ (by with_reducible assumption))), hown0⟩
    case round =>
      clear hown0
      obtain ⟨k, hk, rfl, hx, hown⟩ := hrel
      have hrk := hrF.ext hx
      have g3 := hx.cells f3
      have g3l := World.block_lt_of_cell? _ _ g3
      have hlen := exU_len c cs k
      by_cases hlt : k < c.ps.length
      · have HH := slices_Contains (cap := gc) (v := (k : Int)) hrk (by omega)
        cases hh : hasI (fL c cs cs.length) cs.length (k : Int)
        · rw [hh] at HH
          have hnx : exU c cs (k + 1) = exU c cs k ++ [(k : Int)] := by rw [exU, hh]; rfl
          have HN := Lib.hid hnx; clear hnx hh
          have hrow2 := fun x => row_lit (w := x) (cs := #[.int .i64 ((k : Int))]) (T := 3) (s := 1) (cc := icc) (x := (k : Int)) (by intro j hj; obtain rfl : j = 0 := (by omega); rfl)
          go_wp2_with fail
          refine HH.mono ?_; rintro e w2 ⟨rfl, hx2⟩
          have hown2 := hown.kept hx2
          have hxw := hx.trans hx2
          go_wp2_with (at_builtin; refine wpList_append_rows rfl _ _ 27 rfl wb 3 i0 _ 1 8 Tryz.underlying27 hi hz0 hz1 hz2 rfl (by decide) icc icc_one _ (exU c cs k) [(k : Int)] rfl (hown2.kept ((Ext.refl _).alloc _)) (some ⟨w2.heap.size, 0, none⟩) 1 1 rfl rfl (fun h => by cases h) (hrow2 _) (by simp; omega) (by simp; omega) (hxw.alloc _) ?_; intro v1 w3 ho1 hx3)
          rw [← HN.out] at ho1
          go_wp2
          go_roundw
          case rel => exact ⟨k + 1, by omega, by go_num, hx3, ho1⟩
          case measure => simp [intOf]; omega
        · rw [hh] at HH
          have hnx : exU c cs (k + 1) = exU c cs k := by rw [exU, hh]; rfl
          have HN := Lib.hid hnx; clear hnx hh
          go_wp2_with fail
          refine HH.mono ?_; rintro e w2 ⟨rfl, hx2⟩
          have hown2 := hown.kept hx2
          have hxw := hx.trans hx2
          go_wp2
          go_roundw
          case rel => exact ⟨k + 1, by omega, by go_num, hxw, by rw [HN.out]; exact hown2⟩
          case measure => simp [intOf]; omega
      · have hkn : k = c.ps.length := by omega
        obtain ⟨go', gc', rfl, hFo, _, _, _⟩ := hown.fresh
        have HK := Lib.hid hkn; clear hkn
        go_wp2
        go_ret2
        rw [← HK.out]
        first
          | exact ⟨go', gc', rfl, hx01.trans hx, hFo.mono hx01.size⟩
          | exact ⟨go', ⟨gc', rfl⟩, hx01.trans hx, hFo.mono hx01.size⟩
  · have hB' : askB c cs = false := by simpa using hB
    have hL : exL c cs = [] := by simp [exL, hB']
    rw [hL, hB']
    rw [hB'] at H
    rw [show foL c cs = [] by simp [foL, hB']] at H
    clear hL hB hB'
    unfold CardD.val at H ⊢
    go_enter Tryz.func13, Tryz.ntmps13
    go_wp2_with fail
    refine (H _ (by repeat (first | (with_reducible exact Ext.refl _) | (with_reducible assumption) | with_reducible refine Ext.drew ?_ | with_reducible refine Ext.alloc ?_ _ | with_reducible refine Ext.setCell ?_ (by first | (simp; done) | (simp; omega) | omega) _ | with_reducible refine Ext.trans ?_ (by with_reducible assumption)))).mono ?_; rintro e w1 ⟨go, gc, rfl, hx1, hF⟩
    go_wp2
    go_ret2
    exact ⟨none, 0, rfl, (by repeat (first | (with_reducible exact Ext.refl _) | (with_reducible assumption) | with_reducible refine Ext.drew ?_ | with_reducible refine Ext.alloc ?_ _ | with_reducible refine Ext.setCell ?_ (by first | (simp; done) | (simp; omega) | omega) _ | with_reducible refine Ext.trans ?_ (by with_reducible assumption))), ⟨fun hn => by simp at hn, fun a e => (by cases e), fun b off e => (by cases e)⟩⟩

set_option maxRecDepth 100000 in
set_option maxHeartbeats 2000000 in
theorem spec_ExtraPunches {c : CardD} {b0 off0 cap : Nat} {cs : List Int} {bo : Option Addr} {bcap : Nat} {w : World} (h : RowAt w (some ⟨b0, off0, none⟩) 2 c.ps.length (fun k => (nth c.ps k).c)) (hn : c.ps.length ≤ cap ∧ cap ≤ 9223372036854775807)
    (h' : RowAt w bo 1 cs.length (ic cs)) (hcs : cs.length ≤ 1048576) :
    Calls Tryz.prog 14 #[c.val (some ⟨b0, off0, none⟩) cap, .slice bo cs.length bcap] w fun e w' => ∃ go gc, e = .returned (.tuple #[.slice go (exL c cs).length gc, .bool (askB c cs)]) ∧ Ext w w' ∧ FreshAt w.heap.size w' go 1 (exL c cs).length (ic (exL c cs)) := by
  obtain ⟨i0, hi, hz0, hz1, hz2⟩ := info_parts infoInt
  have hx0 : Ext w (w.alloc (Obj.cells #[.int .i64 c.number, .int .i64 c.start, .int .i64 c.finish, .slice (some ⟨b0, off0, none⟩) c.ps.length cap] 26)) := (Ext.refl _).alloc _
  have H := fun x hx => spec_l12Asked (w := x) (ao := some ⟨b0, off0, none⟩) (cap := cap) (bo := bo) (bcap := bcap) (cs := cs) (h.ext hx) (by omega) (h'.ext hx) hcs
  by_cases hB : askB c cs = true
  · have hL : exL c cs = exU c cs c.ps.length := by simp [exL, hB]
    have hbd := ask_bd hB
    rw [hL, hB]
    rw [hB] at H
    have HF := fun x hx => spec_l12Found (w := x) (cap := cap) (bo := bo) (bcap := bcap) (cs := cs) (h.ext hx) hbd.1 hn (h'.ext hx) hbd.2
    simp only [fL_len] at HF
    clear hL hB
    unfold CardD.val at H HF ⊢
    go_enter Tryz.func14, Tryz.ntmps14
    go_wp2_with fail
    refine (H _ (by repeat (first | (with_reducible exact Ext.refl _) | (with_reducible assumption) | with_reducible refine Ext.drew ?_ | with_reducible refine Ext.alloc ?_ _ | with_reducible refine Ext.setCell ?_ (by first | (simp; done) | (simp; omega) | omega) _ | with_reducible refine Ext.trans ?_ (by with_reducible assumption)))).mono ?_; rintro e w0 ⟨rfl, hxa⟩
    have hc := hxa.cellr
    go_wp2_with fail
    refine (HF _ (by repeat (first | (with_reducible exact Ext.refl _) | (with_reducible assumption) | with_reducible refine Ext.drew ?_ | with_reducible refine Ext.alloc ?_ _ | with_reducible refine Ext.setCell ?_ (by first | (simp; done) | (simp; omega) | omega) _ | with_reducible refine Ext.trans ?_ (by with_reducible assumption)))).mono ?_; rintro e w1 ⟨go, gc, rfl, hxc, hF⟩
    clear hc
    have hx1 := hxa.trans hxc
    have hxb : Ext (w.alloc (Obj.cells #[.int .i64 c.number, .int .i64 c.start, .int .i64 c.finish, .slice (some ⟨b0, off0, none⟩) c.ps.length cap] 26)) w1 := (by repeat (first | (with_reducible exact Ext.refl _) | (with_reducible assumption) | with_reducible refine Ext.drew ?_ | with_reducible refine Ext.alloc ?_ _ | with_reducible refine Ext.setCell ?_ (by first | (simp; done) | (simp; omega) | omega) _ | with_reducible refine Ext.trans ?_ (by with_reducible assumption)))
    have hown0 := Owns.early (α := Int) (s := 1) (cc := icc) (Ext.refl (w.alloc (Obj.cells #[.int .i64 c.number, .int .i64 c.start, .int .i64 c.finish, .slice (some ⟨b0, off0, none⟩) c.ps.length cap] 26))) hx1
    have hwa := hxa.size
    rw [World.size_alloc, World.size_alloc] at hwa
    have hF' := hF.mono hwa
    have hap0 := Apart.new hF' (v := .slice (some ⟨w.heap.size + 1, 0, none⟩) 0 0) (by simpa using early_block)
    have hrF := hF.row
    have hlt0 := hx0.size
    rw [show (w.alloc (Obj.cells #[.int .i64 c.number, .int .i64 c.start, .int .i64 c.finish, .slice (some ⟨b0, off0, none⟩) c.ps.length cap] 26)).heap.size = w.heap.size + 1 by simp] at hown0
    have hwl2 : (w.alloc (Obj.cells #[.int .i64 c.number, .int .i64 c.start, .int .i64 c.finish, .slice (some ⟨b0, off0, none⟩) c.ps.length cap] 26)).heap.size = w.heap.size + 1 := by simp
    have f3b : (w.alloc (Obj.cells #[.int .i64 c.number, .int .i64 c.start, .int .i64 c.finish, .slice (some ⟨b0, off0, none⟩) c.ps.length cap] 26)).cell? ⟨w.heap.size, 3, none⟩ = some (.slice (some ⟨b0, off0, none⟩) c.ps.length cap) := by go_simp
    obtain ⟨wb, hwb⟩ : ∃ wb, wb = (w.alloc (Obj.cells #[.int .i64 c.number, .int .i64 c.start, .int .i64 c.finish, .slice (some ⟨b0, off0, none⟩) c.ps.length cap] 26)) := ⟨_, rfl⟩
    rw [← hwb] at hx0 hxb hwl2 hlt0 f3b
    rw [← hwl2] at hown0 hap0
    clear hF hF' HF H hx1 hwb h hxa hxc
    have hwb2 : w.heap.size < wb.heap.size := by omega
    go_wp2
    rw [← hwl2]
    clear hwl2
    go_loopw [6, 8] (fun out i wr => ∃ k : Nat, k ≤ c.ps.length ∧ i = .int .i64 k ∧ Ext wb wr ∧ Owns wr wb.heap.size 3 1 icc out (exU c cs k) ∧ RowAt wr go 1 cs.length (ic (fL c cs cs.length)) ∧ Apart wr go out) (fun _ i _ => c.ps.length - (intOf i).toNat)
    case atStart => exact ⟨0, by omega, rfl, hxb, hown0, hrF, hap0⟩
    case round =>
      clear hown0 hap0 hrF hxb
      obtain ⟨k, hk, rfl, hx, hown, hrF, hap⟩ := hrel
      have hrk := hrF
      have g3 := hx.cells f3b
      have g3l := World.block_lt_of_cell? _ _ g3
      have hlen := exU_len c cs k
      by_cases hlt : k < c.ps.length
      · have HH := spec_l1Has (cap := gc) (v := (k : Int)) hrk (by omega)
        cases hh : hasI (fL c cs cs.length) cs.length (k : Int)
        · rw [hh] at HH
          have hnx : exU c cs (k + 1) = exU c cs k ++ [(k : Int)] := by rw [exU, hh]; rfl
          have HN := Lib.hid hnx; clear hnx hh
          have hrow2 := fun x => row_lit (w := x) (cs := #[.int .i64 ((k : Int))]) (T := 3) (s := 1) (cc := icc) (x := (k : Int)) (by intro j hj; obtain rfl : j = 0 := (by omega); rfl)
          go_wp2_with fail
          refine HH.mono ?_; rintro e w2 ⟨rfl, hx2⟩
          have hown2 := hown.kept hx2
          have hxw := hx.trans hx2
          have hap2 := fun o => (hap.ext hx2).ext ((Ext.refl _).alloc o)
          have hrF2 := fun o => (hrF.ext hx2).ext ((Ext.refl _).alloc o)
          go_wp2_with (at_builtin; refine wpList_append_where rfl _ _ 27 rfl wb 3 i0 _ 1 8 Tryz.underlying27 hi hz0 hz1 hz2 rfl (by decide) icc icc_one _ (exU c cs k) [(k : Int)] rfl (hown2.kept ((Ext.refl _).alloc _)) ⟨w2.heap.size, 0, none⟩ 1 1 rfl rfl (hrow2 _) (by simp; omega) (by simp; omega) (hxw.alloc _) ?_; intro v1 w3 ho1 hx3 hg3 hv3)
          rw [← HN.out] at ho1
          have hap3 := (hap2 _).append hg3 hv3
          have hrF3 := (hap2 _).row (by decide) (hrF2 _) hg3
          clear hg3 hv3
          go_wp2
          go_roundw
          case rel => exact ⟨k + 1, by omega, by go_num, hx3, ho1, hrF3, hap3⟩
          case measure => simp [intOf]; omega
        · rw [hh] at HH
          have hnx : exU c cs (k + 1) = exU c cs k := by rw [exU, hh]; rfl
          have HN := Lib.hid hnx; clear hnx hh
          go_wp2_with fail
          refine HH.mono ?_; rintro e w2 ⟨rfl, hx2⟩
          have hown2 := hown.kept hx2
          have hxw := hx.trans hx2
          go_wp2
          go_roundw
          case rel => exact ⟨k + 1, by omega, by go_num, hxw, by rw [HN.out]; exact hown2, hrF.ext hx2, hap.ext hx2⟩
          case measure => simp [intOf]; omega
      · have hkn : k = c.ps.length := by omega
        obtain ⟨go', gc', rfl, hFo, _, _, _⟩ := hown.fresh
        have HK := Lib.hid hkn; clear hkn
        go_wp2
        go_ret2
        rw [← HK.out]
        first
          | exact ⟨go', gc', rfl, hx0.trans hx, hFo.mono hlt0⟩
          | exact ⟨go', ⟨gc', rfl⟩, hx0.trans hx, hFo.mono hlt0⟩
  · have hB' : askB c cs = false := by simpa using hB
    have hL : exL c cs = [] := by simp [exL, hB']
    rw [hL, hB']
    rw [hB'] at H
    clear hL hB hB'
    unfold CardD.val at H ⊢
    go_enter Tryz.func14, Tryz.ntmps14
    go_wp2_with fail
    refine (H _ (by repeat (first | (with_reducible exact Ext.refl _) | (with_reducible assumption) | with_reducible refine Ext.drew ?_ | with_reducible refine Ext.alloc ?_ _ | with_reducible refine Ext.setCell ?_ (by first | (simp; done) | (simp; omega) | omega) _ | with_reducible refine Ext.trans ?_ (by with_reducible assumption)))).mono ?_; rintro e w1 ⟨rfl, hx1⟩
    go_wp2
    go_ret2
    have ho := Owns.early (α := Int) (s := 1) (cc := icc) (Ext.refl (w.alloc (Obj.cells #[.int .i64 c.number, .int .i64 c.start, .int .i64 c.finish, .slice (some ⟨b0, off0, none⟩) c.ps.length cap] 26))) hx1
    rw [World.size_alloc] at ho
    exact ⟨_, _, rfl, (by repeat (first | (with_reducible exact Ext.refl _) | (with_reducible assumption) | with_reducible refine Ext.drew ?_ | with_reducible refine Ext.alloc ?_ _ | with_reducible refine Ext.setCell ?_ (by first | (simp; done) | (simp; omega) | omega) _ | with_reducible refine Ext.trans ?_ (by with_reducible assumption))), ho.fresh0.mono (by omega)⟩

end Go.Proofs.YtckgjpaccgpdpaaGreatDoor
