/-
  Proved here: what l2Map, isCell, isOpen, l2Cell, l2Open return.
  Conditions: the lengths fit an int.
-/
import Derived.Test.YtidcfohlhamgmaaMap1
namespace Go.Proofs.Ytidcfohlhamgmaa
open Go.RowKit

def bothB (m : MapD) (k : Nat) : Bool := inB (nth m.rise k) 0 9 && inB (nth m.cost k) 0 9
theorem both_all {m : MapD} (h : m.cost.length = m.rise.length) : upto (bothB m) m.rise.length = (riseB m && costB m) := by
  rw [Bool.eq_iff_iff, Bool.and_eq_true, riseB, costB, h]
  simp only [upto_true, bothB, Bool.and_eq_true]
  exact ⟨fun H => ⟨fun k hk => (H k hk).1, fun k hk => (H k hk).2⟩, fun H k hk => ⟨H.1 k hk, H.2 k hk⟩⟩

set_option maxRecDepth 100000 in
set_option maxHeartbeats 2000000 in
theorem spec_l2Map {m : MapD} {ao bo : Option Addr} {ac bc : Nat} {w : World} (hr : RowAt w ao 1 m.rise.length (ic m.rise)) (ht : RowAt w bo 1 m.cost.length (ic m.cost)) (hn : m.rise.length ≤ 9223372036854775807) (hn' : m.cost.length ≤ 9223372036854775807) :
    Calls Try.prog 96 #[m.val ao ac bo bc] w fun e w' => e = .returned (.bool (mapB m)) ∧ Ext w w' := by
  unfold MapD.val
  cases hw : inB m.wid 1 6
  · have hfin : mapB m = false := by simp [mapB, sizeB, hw]
    rw [hfin]; clear hfin
    go_enter Try.func96, Try.ntmps96
    go_wp2_with fail
    refine spec_l1In.mono ?_; rintro e w1 ⟨rfl, rfl⟩
    rw [hw]
    go_wp2
    go_ret
    exact ⟨rfl, (by repeat (first | (with_reducible exact Ext.refl _) | (with_reducible assumption) | with_reducible refine Ext.drew ?_ | with_reducible refine Ext.alloc ?_ _ | with_reducible refine Ext.setCell ?_ (by first | (simp; done) | (simp; omega) | omega) _ | with_reducible refine Ext.trans ?_ (by with_reducible assumption)))⟩
  · cases hh : inB m.hei 1 6
    · have hfin : mapB m = false := by simp [mapB, sizeB, hh]
      rw [hfin]; clear hfin
      go_enter Try.func96, Try.ntmps96
      go_wp2_with fail
      refine spec_l1In.mono ?_; rintro e w1 ⟨rfl, rfl⟩
      rw [hw]
      go_wp2_with fail
      refine spec_l1In.mono ?_; rintro e w1 ⟨rfl, rfl⟩
      rw [hh]
      go_wp2
      go_ret
      exact ⟨rfl, (by repeat (first | (with_reducible exact Ext.refl _) | (with_reducible assumption) | with_reducible refine Ext.drew ?_ | with_reducible refine Ext.alloc ?_ _ | with_reducible refine Ext.setCell ?_ (by first | (simp; done) | (simp; omega) | omega) _ | with_reducible refine Ext.trans ?_ (by with_reducible assumption)))⟩
    · have hP := size_bd hw hh
      have hPw2 : wrap64 (m.wid * m.hei) = m.wid * m.hei := IntWalk.wrap64_in _ (by omega)
      by_cases h3 : (m.rise.length : Int) = m.wid * m.hei
      · by_cases h4 : m.cost.length = m.rise.length
        · have hfin : mapB m = upto (bothB m) m.rise.length := by rw [both_all h4]; simp [mapB, sizeB, hw, hh, h3, h4]
          have HF := Lib.hid hfin; clear hfin
          have H4 := Lib.hid h4
          have t3 : ((m.rise.length : Int) != m.wid * m.hei) = false := by simp [h3]
          have t4 : ((m.cost.length : Int) != (m.rise.length : Int)) = false := by simp [h4]
          have h36 : m.rise.length ≤ 36 := by omega
          clear h3 h4
          go_enter Try.func96, Try.ntmps96
          go_wp2_with fail
          refine spec_l1In.mono ?_; rintro e w1 ⟨rfl, rfl⟩
          rw [hw]
          go_wp2_with fail
          refine spec_l1In.mono ?_; rintro e w1 ⟨rfl, rfl⟩
          rw [hh]
          clear hw hh
          go_wp2
          clear t3 t4 hPw2 hP
          have hx0 : Ext w (w.alloc (Obj.cells #[.int .i64 m.wid, .int .i64 m.hei, .slice ao m.rise.length ac, .slice bo m.cost.length bc] 30)) := (Ext.refl _).alloc _
          have g2 : (w.alloc (Obj.cells #[.int .i64 m.wid, .int .i64 m.hei, .slice ao m.rise.length ac, .slice bo m.cost.length bc] 30)).cell? ⟨w.heap.size, 2, none⟩ = some (.slice ao m.rise.length ac) := by go_simp
          have g3 : (w.alloc (Obj.cells #[.int .i64 m.wid, .int .i64 m.hei, .slice ao m.rise.length ac, .slice bo m.cost.length bc] 30)).cell? ⟨w.heap.size, 3, none⟩ = some (.slice bo m.cost.length bc) := by go_simp
          go_loopw [3] (fun i wr => ∃ k : Nat, k ≤ m.rise.length ∧ i = .int .i64 k ∧ Ext (w.alloc (Obj.cells #[.int .i64 m.wid, .int .i64 m.hei, .slice ao m.rise.length ac, .slice bo m.cost.length bc] 30)) wr ∧ upto (bothB m) k = true) (fun i _ => m.rise.length - (intOf i).toNat)
          case atStart => exact ⟨0, by omega, rfl, Ext.refl _, rfl⟩
          case round =>
            obtain ⟨k, hk, rfl, hx, hu⟩ := hrel
            have HU := Lib.hid hu; clear hu
            have f2 := hx.cells g2
            have f3 := hx.cells g3
            have gl := World.block_lt_of_cell? _ _ f2
            by_cases hlt : k < m.rise.length
            · have hlc : k < m.cost.length := by rw [H4.out]; exact hlt
              obtain ⟨b, off, rfl, hcell⟩ := ints_at' hr (by omega)
              obtain ⟨b', off', rfl, hcell'⟩ := ints_at' ht (by omega)
              have d0 := hx.cells (hx0.cells (hcell k hlt))
              have d1 := hx.cells (hx0.cells (hcell' k hlc))
              clear hcell hcell'
              cases hA : inB (nth m.rise k) 0 9
              · go_wp2_with fail
                refine spec_l1In.mono ?_; rintro e w1 ⟨rfl, rfl⟩
                rw [hA]
                go_wp2
                go_ret
                exact ⟨ret_b (by rw [HF.out, upto_false hlt (by simp [bothB, hA])]), (by repeat (first | (with_reducible exact Ext.refl _) | (with_reducible assumption) | with_reducible refine Ext.drew ?_ | with_reducible refine Ext.alloc ?_ _ | with_reducible refine Ext.setCell ?_ (by first | (simp; done) | (simp; omega) | omega) _ | with_reducible refine Ext.trans ?_ (by with_reducible assumption)))⟩
              · cases hB : inB (nth m.cost k) 0 9
                all_goals
                  go_wp2_with fail
                  refine spec_l1In.mono ?_; rintro e w1 ⟨rfl, rfl⟩
                  rw [hA]
                  go_wp2_with fail
                  refine spec_l1In.mono ?_; rintro e w1 ⟨rfl, rfl⟩
                  rw [hB]
                  go_wp2
                · go_ret
                  exact ⟨ret_b (by rw [HF.out, upto_false hlt (by simp [bothB, hB])]), (by repeat (first | (with_reducible exact Ext.refl _) | (with_reducible assumption) | with_reducible refine Ext.drew ?_ | with_reducible refine Ext.alloc ?_ _ | with_reducible refine Ext.setCell ?_ (by first | (simp; done) | (simp; omega) | omega) _ | with_reducible refine Ext.trans ?_ (by with_reducible assumption)))⟩
                · go_roundw
                  case rel => exact ⟨k + 1, by omega, by go_num, (by repeat (first | (with_reducible exact Ext.refl _) | (with_reducible assumption) | with_reducible refine Ext.drew ?_ | with_reducible refine Ext.alloc ?_ _ | with_reducible refine Ext.setCell ?_ (by first | (simp; done) | (simp; omega) | omega) _ | with_reducible refine Ext.trans ?_ (by with_reducible assumption))), upto_succ HU.out (by simp [bothB, hA, hB])⟩
                  case measure => simp [intOf] <;> omega
            · have hkn : k = m.rise.length := by omega
              have HK := Lib.hid hkn; clear hkn
              go_wp2
              go_ret
              exact ⟨ret_b (by rw [HF.out, ← HK.out, HU.out]), (by repeat (first | (with_reducible exact Ext.refl _) | (with_reducible assumption) | with_reducible refine Ext.drew ?_ | with_reducible refine Ext.alloc ?_ _ | with_reducible refine Ext.setCell ?_ (by first | (simp; done) | (simp; omega) | omega) _ | with_reducible refine Ext.trans ?_ (by with_reducible assumption)))⟩
        · have hfin : mapB m = false := by simp [mapB, sizeB, h4]
          rw [hfin]
          have t3 : ((m.rise.length : Int) != m.wid * m.hei) = false := by simp [h3]
          have t4 : ((m.cost.length : Int) != (m.rise.length : Int)) = true := by simp; omega
          clear hfin h3
          go_enter Try.func96, Try.ntmps96
          go_wp2_with fail
          refine spec_l1In.mono ?_; rintro e w1 ⟨rfl, rfl⟩
          rw [hw]
          go_wp2_with fail
          refine spec_l1In.mono ?_; rintro e w1 ⟨rfl, rfl⟩
          rw [hh]
          clear hw hh
          go_wp2
          go_ret
          exact ⟨rfl, (by repeat (first | (with_reducible exact Ext.refl _) | (with_reducible assumption) | with_reducible refine Ext.drew ?_ | with_reducible refine Ext.alloc ?_ _ | with_reducible refine Ext.setCell ?_ (by first | (simp; done) | (simp; omega) | omega) _ | with_reducible refine Ext.trans ?_ (by with_reducible assumption)))⟩
      · have hfin : mapB m = false := by simp [mapB, sizeB, h3]
        rw [hfin]
        have t3 : ((m.rise.length : Int) != m.wid * m.hei) = true := by simpa using h3
        clear hfin
        go_enter Try.func96, Try.ntmps96
        go_wp2_with fail
        refine spec_l1In.mono ?_; rintro e w1 ⟨rfl, rfl⟩
        rw [hw]
        go_wp2_with fail
        refine spec_l1In.mono ?_; rintro e w1 ⟨rfl, rfl⟩
        rw [hh]
        clear hw hh
        go_wp2
        go_ret
        exact ⟨rfl, (by repeat (first | (with_reducible exact Ext.refl _) | (with_reducible assumption) | with_reducible refine Ext.drew ?_ | with_reducible refine Ext.alloc ?_ _ | with_reducible refine Ext.setCell ?_ (by first | (simp; done) | (simp; omega) | omega) _ | with_reducible refine Ext.trans ?_ (by with_reducible assumption)))⟩

set_option maxHeartbeats 1000000 in
theorem impl_isCell {m : MapD} {ao bo : Option Addr} {ac bc : Nat} {x : Int} {w : World} (hr : RowAt w ao 1 m.rise.length (ic m.rise)) (ht : RowAt w bo 1 m.cost.length (ic m.cost)) (hn : m.rise.length ≤ 9223372036854775807) (hn' : m.cost.length ≤ 9223372036854775807) :
    Calls Try.prog 106 #[m.val ao ac bo bc, .int .i64 x] w fun e w' => e = .returned (.bool (cellB m x)) ∧ Ext w w' := by
  have H := fun y hx => impl_IsMap (w := y) (ac := ac) (bc := bc) (hr.ext hx) (ht.ext hx) hn hn'
  cases hm : mapB m
  · have hfin : cellB m x = false := by simp [cellB, hm]
    rw [hfin]; clear hfin
    rw [hm] at H
    clear hm
    unfold MapD.val at H ⊢
    go_enter Try.func106, Try.ntmps106
    go_wp2_with fail
    refine (H _ (by repeat (first | (with_reducible exact Ext.refl _) | (with_reducible assumption) | with_reducible refine Ext.drew ?_ | with_reducible refine Ext.alloc ?_ _ | with_reducible refine Ext.setCell ?_ (by first | (simp; done) | (simp; omega) | omega) _ | with_reducible refine Ext.trans ?_ (by with_reducible assumption)))).mono ?_; rintro e w1 ⟨rfl, hx1⟩
    go_wp2
    go_ret
    exact ⟨rfl, (by repeat (first | (with_reducible exact Ext.refl _) | (with_reducible assumption) | with_reducible refine Ext.drew ?_ | with_reducible refine Ext.alloc ?_ _ | with_reducible refine Ext.setCell ?_ (by first | (simp; done) | (simp; omega) | omega) _ | with_reducible refine Ext.trans ?_ (by with_reducible assumption)))⟩
  · have hfin : cellB m x = inB x 0 ((m.cost.length : Int) - 1) := by simp [cellB, hm]
    rw [hfin]; clear hfin
    have hl := map_len hm
    have h36 := hl.2.2.1
    have h37 := hl.2.1
    rw [hm] at H
    clear hm hl
    unfold MapD.val at H ⊢
    go_enter Try.func106, Try.ntmps106
    go_wp2_with fail
    refine (H _ (by repeat (first | (with_reducible exact Ext.refl _) | (with_reducible assumption) | with_reducible refine Ext.drew ?_ | with_reducible refine Ext.alloc ?_ _ | with_reducible refine Ext.setCell ?_ (by first | (simp; done) | (simp; omega) | omega) _ | with_reducible refine Ext.trans ?_ (by with_reducible assumption)))).mono ?_; rintro e w1 ⟨rfl, hx1⟩
    have q3 : w1.cell? ⟨w.heap.size, 3, none⟩ = some (.slice bo m.cost.length bc) := hx1.cells (by go_simp)
    have ql := World.block_lt_of_cell? _ _ q3
    have hE : Ext w w1 := (by repeat (first | (with_reducible exact Ext.refl _) | (with_reducible assumption) | with_reducible refine Ext.drew ?_ | with_reducible refine Ext.alloc ?_ _ | with_reducible refine Ext.setCell ?_ (by first | (simp; done) | (simp; omega) | omega) _ | with_reducible refine Ext.trans ?_ (by with_reducible assumption)))
    clear hx1
    go_wp2_with fail
    refine impl_inside.mono ?_; rintro e w2 ⟨rfl, rfl⟩
    go_wp2
    go_ret
    exact ⟨rfl, hE⟩

theorem spec_l2Cell {m : MapD} {ao bo : Option Addr} {ac bc : Nat} {x : Int} {w : World} (hm : mapB m = true) :
    Calls Try.prog 98 #[m.val ao ac bo bc, .int .i64 x] w fun e w' => e = .returned (.bool (cellB m x)) ∧ Ext w w' := by
  have hl := map_len hm
  have hfin : cellB m x = inB x 0 ((m.cost.length : Int) - 1) := by simp [cellB, hm]
  rw [hfin, hl.2.2.2.1]; clear hfin
  have hP : 1 ≤ m.wid * m.hei ∧ m.wid * m.hei ≤ 36 := by rw [← hl.2.2.2.1]; omega
  have hPw2 : wrap64 (m.wid * m.hei) = m.wid * m.hei := IntWalk.wrap64_in _ (by omega)
  clear hl hm
  unfold MapD.val
  go_enter Try.func98, Try.ntmps98
  go_wp2_with fail
  refine spec_l1In.mono ?_; rintro e w2 ⟨rfl, rfl⟩
  clear hPw2
  go_wp2
  go_ret
  exact ⟨rfl, (by repeat (first | (with_reducible exact Ext.refl _) | (with_reducible assumption) | with_reducible refine Ext.drew ?_ | with_reducible refine Ext.alloc ?_ _ | with_reducible refine Ext.setCell ?_ (by first | (simp; done) | (simp; omega) | omega) _ | with_reducible refine Ext.trans ?_ (by with_reducible assumption)))⟩

theorem cell_at {m : MapD} {x : Int} (h : cellB m x = true) : ∃ k : Nat, k < m.cost.length ∧ x = k := by
  simp only [cellB, Bool.and_eq_true, inB_iff] at h
  exact ⟨x.toNat, by omega, by omega⟩

set_option maxHeartbeats 1000000 in
theorem impl_isOpen {m : MapD} {ao bo : Option Addr} {ac bc : Nat} {x : Int} {w : World} (hr : RowAt w ao 1 m.rise.length (ic m.rise)) (ht : RowAt w bo 1 m.cost.length (ic m.cost)) (hn : m.rise.length ≤ 9223372036854775807) (hn' : m.cost.length ≤ 9223372036854775807) :
    Calls Try.prog 64 #[m.val ao ac bo bc, .int .i64 x] w fun e w' => e = .returned (.bool (openB m x)) ∧ Ext w w' := by
  have H := fun y hx => impl_isCell (w := y) (ac := ac) (bc := bc) (x := x) (hr.ext hx) (ht.ext hx) hn hn'
  cases hm : cellB m x
  · have hfin : openB m x = false := by simp [openB, hm]
    rw [hfin]; clear hfin
    rw [hm] at H
    clear hm
    unfold MapD.val at H ⊢
    go_enter Try.func64, Try.ntmps64
    go_wp2_with fail
    refine (H _ (by repeat (first | (with_reducible exact Ext.refl _) | (with_reducible assumption) | with_reducible refine Ext.drew ?_ | with_reducible refine Ext.alloc ?_ _ | with_reducible refine Ext.setCell ?_ (by first | (simp; done) | (simp; omega) | omega) _ | with_reducible refine Ext.trans ?_ (by with_reducible assumption)))).mono ?_; rintro e w1 ⟨rfl, hx1⟩
    go_wp2
    go_ret
    exact ⟨rfl, (by repeat (first | (with_reducible exact Ext.refl _) | (with_reducible assumption) | with_reducible refine Ext.drew ?_ | with_reducible refine Ext.alloc ?_ _ | with_reducible refine Ext.setCell ?_ (by first | (simp; done) | (simp; omega) | omega) _ | with_reducible refine Ext.trans ?_ (by with_reducible assumption)))⟩
  · obtain ⟨k, hk, rfl⟩ := cell_at hm
    have hfin : openB m k = decide (0 < nth m.cost k) := by simp [openB, hm]
    rw [hfin]; clear hfin
    rw [hm] at H
    clear hm
    unfold MapD.val at H ⊢
    go_enter Try.func64, Try.ntmps64
    go_wp2_with fail
    refine (H _ (by repeat (first | (with_reducible exact Ext.refl _) | (with_reducible assumption) | with_reducible refine Ext.drew ?_ | with_reducible refine Ext.alloc ?_ _ | with_reducible refine Ext.setCell ?_ (by first | (simp; done) | (simp; omega) | omega) _ | with_reducible refine Ext.trans ?_ (by with_reducible assumption)))).mono ?_; rintro e w1 ⟨rfl, hx1⟩
    have q3 : w1.cell? ⟨w.heap.size, 3, none⟩ = some (.slice bo m.cost.length bc) := hx1.cells (by go_simp)
    have ql := World.block_lt_of_cell? _ _ q3
    have hE : Ext w w1 := (by repeat (first | (with_reducible exact Ext.refl _) | (with_reducible assumption) | with_reducible refine Ext.drew ?_ | with_reducible refine Ext.alloc ?_ _ | with_reducible refine Ext.setCell ?_ (by first | (simp; done) | (simp; omega) | omega) _ | with_reducible refine Ext.trans ?_ (by with_reducible assumption)))
    obtain ⟨b, off, rfl, hcell⟩ := ints_at' ht (by omega)
    have d0 := hE.cells (hcell k hk)
    clear hcell hx1 H ht hr
    go_wp2
    go_ret
    exact ⟨rfl, hE⟩

set_option maxHeartbeats 1000000 in
theorem spec_l2Open {m : MapD} {ao bo : Option Addr} {ac bc : Nat} {x : Int} {w : World} (hm : mapB m = true) (ht : RowAt w bo 1 m.cost.length (ic m.cost)) :
    Calls Try.prog 51 #[m.val ao ac bo bc, .int .i64 x] w fun e w' => e = .returned (.bool (openB m x)) ∧ Ext w w' := by
  have H := fun y => spec_l2Cell (w := y) (ao := ao) (bo := bo) (ac := ac) (bc := bc) (x := x) hm
  have h36 := (map_len hm).2.2.1
  clear hm
  cases hm : cellB m x
  · have hfin : openB m x = false := by simp [openB, hm]
    rw [hfin]; clear hfin
    rw [hm] at H
    clear hm
    unfold MapD.val at H ⊢
    go_enter Try.func51, Try.ntmps51
    go_wp2_with fail
    refine (H _).mono ?_; rintro e w1 ⟨rfl, hx1⟩
    go_wp2
    go_ret
    exact ⟨rfl, (by repeat (first | (with_reducible exact Ext.refl _) | (with_reducible assumption) | with_reducible refine Ext.drew ?_ | with_reducible refine Ext.alloc ?_ _ | with_reducible refine Ext.setCell ?_ (by first | (simp; done) | (simp; omega) | omega) _ | with_reducible refine Ext.trans ?_ (by with_reducible assumption)))⟩
  · obtain ⟨k, hk, rfl⟩ := cell_at hm
    have hfin : openB m k = decide (0 < nth m.cost k) := by simp [openB, hm]
    rw [hfin]; clear hfin
    rw [hm] at H
    clear hm
    unfold MapD.val at H ⊢
    go_enter Try.func51, Try.ntmps51
    go_wp2_with fail
    refine (H _).mono ?_; rintro e w1 ⟨rfl, hx1⟩
    have q3 : w1.cell? ⟨w.heap.size, 3, none⟩ = some (.slice bo m.cost.length bc) := hx1.cells (by go_simp)
    have ql := World.block_lt_of_cell? _ _ q3
    have hE : Ext w w1 := (by repeat (first | (with_reducible exact Ext.refl _) | (with_reducible assumption) | with_reducible refine Ext.drew ?_ | with_reducible refine Ext.alloc ?_ _ | with_reducible refine Ext.setCell ?_ (by first | (simp; done) | (simp; omega) | omega) _ | with_reducible refine Ext.trans ?_ (by with_reducible assumption)))
    obtain ⟨b, off, rfl, hcell⟩ := ints_at' ht (by omega)
    have d0 := hE.cells (hcell k hk)
    clear hcell hx1 H ht
    go_wp2
    go_ret
    exact ⟨rfl, hE⟩

end Go.Proofs.Ytidcfohlhamgmaa
