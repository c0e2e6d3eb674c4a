/-
  Proved here: what l12Found returns.
  Conditions: the number of punches and of codes is at most 12.
-/
import Derived.Test.YtckgjpaccgpdpaaGreatDoorCards3
namespace Go.Proofs.YtckgjpaccgpdpaaGreatDoor
open Go.RowKit

set_option maxRecDepth 100000 in
set_option maxHeartbeats 2000000 in
theorem spec_l12Found {c : CardD} {b0 off0 cap : Nat} {cs : List Int} {bo : Option Addr} {bcap : Nat} {w : World} (h : RowAt w (some ⟨b0, off0, none⟩) 2 c.ps.length (fun k => (nth c.ps k).c)) (hn : c.ps.length ≤ 12) (hcap : c.ps.length ≤ cap ∧ cap ≤ 9223372036854775807)
    (h' : RowAt w bo 1 cs.length (ic cs)) (hcs : cs.length ≤ 12) :
    Calls Tryz.prog 30 #[c.val (some ⟨b0, off0, none⟩) cap, .slice bo cs.length bcap] w fun e w' => ∃ go gc, e = .returned (.slice go (fL c cs cs.length).length gc) ∧ Ext w w' ∧ FreshAt w.heap.size w' go 1 (fL c cs cs.length).length (ic (fL c cs cs.length)) := by
  obtain ⟨i0, hi, hz0, hz1, hz2⟩ := info_parts infoInt
  have hx0 : Ext w (w.alloc (Obj.cells #[.int .i64 c.number, .int .i64 c.start, .int .i64 c.finish, .slice (some ⟨b0, off0, none⟩) c.ps.length cap] 26)) := (Ext.refl _).alloc _
  have f3 : (w.alloc (Obj.cells #[.int .i64 c.number, .int .i64 c.start, .int .i64 c.finish, .slice (some ⟨b0, off0, none⟩) c.ps.length cap] 26)).cell? ⟨w.heap.size, 3, none⟩ = some (.slice (some ⟨b0, off0, none⟩) c.ps.length cap) := by go_simp
  have hwl : w.heap.size < (w.alloc (Obj.cells #[.int .i64 c.number, .int .i64 c.start, .int .i64 c.finish, .slice (some ⟨b0, off0, none⟩) c.ps.length cap] 26)).heap.size := by simp
  have hws : (w.alloc (Obj.cells #[.int .i64 c.number, .int .i64 c.start, .int .i64 c.finish, .slice (some ⟨b0, off0, none⟩) c.ps.length cap] 26)).heap.size = w.heap.size + 1 := by simp
  unfold CardD.val
  go_enter Tryz.func30, Tryz.ntmps30
  go_wp2
  generalize hwb : w.alloc (Obj.cells #[.int .i64 c.number, .int .i64 c.start, .int .i64 c.finish, .slice (some ⟨b0, off0, none⟩) c.ps.length cap] 26) = wb at hx0 f3 hwl hws ⊢
  clear hwb
  go_loopw [5, 6, 7] (fun out fr i wr => ∃ k : Nat, k ≤ cs.length ∧ i = .int .i64 k ∧ fr = .int .i64 (fN c cs k) ∧ Ext wb wr ∧ Owns wr wb.heap.size 3 1 icc out (fL c cs k)) (fun _ _ i _ => cs.length - (intOf i).toNat)
  case atStart => exact ⟨0, by omega, rfl, rfl, (by repeat (first | (with_reducible exact Ext.refl _) | (with_reducible assumption) | with_reducible refine Ext.drew ?_ | with_reducible refine Ext.alloc ?_ _ | with_reducible refine Ext.setCell ?_ (by first | (simp; done) | (simp; omega) | omega) _ | with_reducible refine Ext.trans ?_ (by with_reducible assumption))), by rw [show (⟨w.heap.size + 1, 0, none⟩ : Addr) = ⟨wb.heap.size, 0, none⟩ by rw [hws]]; exact Owns.start (Ext.refl _)⟩
  case round =>
    obtain ⟨k, hk, rfl, rfl, hx, hown⟩ := hrel
    have f3 := hx.cells f3
    have hsz : w.heap.size < wr.heap.size := Nat.lt_of_lt_of_le hwl hx.size
    have hlen := fL_len c cs k
    by_cases hlt : k < cs.length
    · obtain ⟨b, off, rfl, hcell⟩ := ints_at' h' (by omega)
      have d0 := hx.cells (hx0.cells (hcell k hlt))
      have hrow := (h.ext hx0).ext hx
      have hm := fN_le c cs k
      clear hcell h h'
      obtain ⟨wo, rfl⟩ : ∃ wo : World, wo = wr := ⟨_, rfl⟩
      go_wp2
      go_loopw [6, 8, 9] (fun fr ati j wi => Ext wo wi ∧ ((∃ q : Nat, fN c cs k ≤ q ∧ q ≤ c.ps.length ∧ fr = .int .i64 (fN c cs k) ∧ ati = .int .i64 (-1) ∧ j = .int .i64 q ∧ ∀ p, fN c cs k ≤ p → p < q → ((nth c.ps p).code == nth cs k) = false) ∨ (∃ q : Nat, atU c (nth cs k) (fN c cs k) = some q ∧ fr = .int .i64 ((q : Int) + 1) ∧ ati = .int .i64 q ∧ j = .int .i64 ((q : Int) + 1)))) (fun _ _ j _ => c.ps.length - (intOf j).toNat)
      case atStart => exact ⟨Ext.refl _, .inl ⟨_, Nat.le_refl _, hm, rfl, rfl, rfl, fun p h1 h2 => by omega⟩⟩
      case round =>
        obtain ⟨hX, hh⟩ := hrel
        have f3 := hX.cells f3
        have hsz := Nat.lt_of_lt_of_le hsz hX.size
        have d0 := hX.cells d0
        have hbl := World.block_lt_of_cell? _ _ d0
        rcases hh with ⟨q, hq1, hq2, rfl, rfl, rfl, hno⟩ | ⟨q, hat, rfl, rfl, rfl⟩
        · have HNO := Lib.hid hno; clear hno
          by_cases hqn : q < c.ps.length
          · obtain ⟨b1, off1, hb1, hpc⟩ := hrow (by omega)
            injection hb1 with hb1
            injection hb1 with e1 e2
            subst e1 e2
            have p0 : wr.cell? ⟨b0, off0 + q * 2, none⟩ = some (.int .i64 (nth c.ps q).code) := hX.cells (hpc q hqn 0 (by decide))
            have hbl1 := World.block_lt_of_cell? _ _ p0
            clear hpc
            have g0 := Grow.cells d0
            have g1 := Grow.cells p0
            have g2 := Grow.cells f3
            cases hcd : ((nth c.ps q).code == nth cs k)
            · go_wp2
              refine wp_region_ext (by kernel_rfl) (by kernel_rfl) ?_
              repeat (go_big_quiet_step (fail))
              refine wpQuiet_nil ?_
              rintro _ ⟨⟨w1, hx1⟩, rfl⟩
              clear g0 g1 g2
              go_wp2
              go_roundw
              case rel => exact ⟨(by repeat (first | (with_reducible exact Ext.refl _) | (with_reducible assumption) | with_reducible refine Ext.drew ?_ | with_reducible refine Ext.alloc ?_ _ | with_reducible refine Ext.setCell ?_ (by first | (simp; done) | (simp; omega) | omega) _ | with_reducible refine Ext.trans ?_ (by with_reducible assumption))), .inl ⟨q + 1, by omega, by omega, rfl, rfl, by go_num, fun p h1 h2 => by by_cases e : p = q; (subst e; exact hcd); exact HNO.out p h1 (by omega)⟩⟩
              case measure => simp [intOf]; omega
            · have hat := Lib.hid (atU_some hq1 hqn hcd HNO.out)
              go_wp2
              refine wp_region_ext (by kernel_rfl) (by kernel_rfl) ?_
              repeat (go_big_quiet_step (fail))
              refine wpQuiet_nil ?_
              rintro _ ⟨⟨w1, hx1⟩, rfl⟩
              clear g0 g1 g2
              go_wp2
              go_roundw
              case rel => exact ⟨(by repeat (first | (with_reducible exact Ext.refl _) | (with_reducible assumption) | with_reducible refine Ext.drew ?_ | with_reducible refine Ext.alloc ?_ _ | with_reducible refine Ext.setCell ?_ (by first | (simp; done) | (simp; omega) | omega) _ | with_reducible refine Ext.trans ?_ (by with_reducible assumption))), .inr ⟨q, hat.out, by go_num, rfl, by go_num⟩⟩
              case measure => simp [intOf]; omega
          · have hqe : q = c.ps.length := by omega
            have hat := atU_none (c := c) (code := nth cs k) (m := fN c cs k) (fun j h1 h2 => HNO.out j h1 (by omega))
            subst hqe
            have hnx : fL c cs (k + 1) = fL c cs k ++ [-1] := by rw [fL, fI, hat]
            have hfn : fN c cs (k + 1) = fN c cs k := by rw [fN, hat]
            have HN := Lib.hid hnx; clear hnx
            have HFN := Lib.hid hfn; clear hfn
            have hrow2 := fun x => row_lit (w := x) (cs := #[.int .i64 (-1)]) (T := 3) (s := 1) (cc := icc) (x := (-1)) (by intro j hj; obtain rfl : j = 0 := (by omega); rfl)
            have hown2 := hown.kept hX
            have hxw := hx.trans hX
            go_wp2_with (at_builtin; refine wpList_append_rows rfl _ _ 27 rfl wb 3 i0 _ 1 8 Tryz.underlying27 hi hz0 hz1 hz2 rfl (by decide) icc icc_one _ (fL c cs k) [-1] rfl (hown2.kept ((Ext.refl _).alloc _)) (some ⟨wr.heap.size, 0, none⟩) 1 1 rfl rfl (fun h => by cases h) (hrow2 _) (by simp; omega) (by simp; omega) (hxw.alloc _) ?_; intro v1 w3 ho1 hx3)
            rw [← HN.out] at ho1
            go_wp2
            go_roundw
            case rel => exact ⟨k + 1, by omega, by go_num, by rw [HFN.out] <;> first | rfl | go_num | (congr 1; omega), (by repeat (first | (with_reducible exact Ext.refl _) | (with_reducible assumption) | with_reducible refine Ext.drew ?_ | with_reducible refine Ext.alloc ?_ _ | with_reducible refine Ext.setCell ?_ (by first | (simp; done) | (simp; omega) | omega) _ | with_reducible refine Ext.trans ?_ (by with_reducible assumption))), ho1⟩
            case measure => simp [intOf]; omega
        · have hql := atU_lt hat
          by_cases hqn : q + 1 < c.ps.length
          all_goals
            have hnx : fL c cs (k + 1) = fL c cs k ++ [(q : Int)] := by rw [fL, fI, hat]
            have hfn : fN c cs (k + 1) = q + 1 := by rw [fN, hat]
            have HN := Lib.hid hnx; clear hnx
            have HFN := Lib.hid hfn; clear hfn
            have hrow2 := fun x => row_lit (w := x) (cs := #[.int .i64 ((q : Int))]) (T := 3) (s := 1) (cc := icc) (x := ((q : Int))) (by intro j hj; obtain rfl : j = 0 := (by omega); rfl)
            have hown2 := hown.kept hX
            have hxw := hx.trans hX
            go_wp2_with (at_builtin; refine wpList_append_rows rfl _ _ 27 rfl wb 3 i0 _ 1 8 Tryz.underlying27 hi hz0 hz1 hz2 rfl (by decide) icc icc_one _ (fL c cs k) [(q : Int)] rfl (hown2.kept ((Ext.refl _).alloc _)) (some ⟨wr.heap.size, 0, none⟩) 1 1 rfl rfl (fun h => by cases h) (hrow2 _) (by simp; omega) (by simp; omega) (hxw.alloc _) ?_; intro v1 w3 ho1 hx3)
            rw [← HN.out] at ho1
            go_wp2
            go_roundw
            case rel => exact ⟨k + 1, by omega, by go_num, by rw [HFN.out] <;> first | rfl | go_num | (congr 1; omega), (by repeat (first | (with_reducible exact Ext.refl _) | (with_reducible assumption) | with_reducible refine Ext.drew ?_ | with_reducible refine Ext.alloc ?_ _ | with_reducible refine Ext.setCell ?_ (by first | (simp; done) | (simp; omega) | omega) _ | with_reducible refine Ext.trans ?_ (by with_reducible assumption))), ho1⟩
            case measure => simp [intOf]; omega
    · have hkn : k = cs.length := by omega
      subst hkn
      obtain ⟨go, gc, rfl, hF, _, _, _⟩ := hown.fresh
      go_wp2
      go_ret
      exact ⟨go, gc, rfl, (by repeat (first | (with_reducible exact Ext.refl _) | (with_reducible assumption) | with_reducible refine Ext.drew ?_ | with_reducible refine Ext.alloc ?_ _ | with_reducible refine Ext.setCell ?_ (by first | (simp; done) | (simp; omega) | omega) _ | with_reducible refine Ext.trans ?_ (by with_reducible assumption))), hF.mono (Nat.le_of_lt hwl)⟩

end Go.Proofs.YtckgjpaccgpdpaaGreatDoor
