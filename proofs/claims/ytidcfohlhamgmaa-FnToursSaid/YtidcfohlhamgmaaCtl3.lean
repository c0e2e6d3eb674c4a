/-
  Proved here: what l6Good returns.
  Conditions: the lengths fit an int.
-/
import Derived.Test.YtidcfohlhamgmaaCtl2
namespace Go.Proofs.Ytidcfohlhamgmaa
open Go.RowKit

theorem inI_no {xs : List Ctl} {k : Nat} {x : Int} (h : ∀ j, j < k → ((nth xs j).cell == x) = false) : decide (0 ≤ inI xs k x) = false := by
  rw [inI, idxU_none h]; rfl
theorem inI_yes {xs : List Ctl} {k j : Nat} {x : Int} (hj : j < k) (h : ((nth xs j).cell == x) = true) : decide (0 ≤ inI xs k x) = true := by
  rw [inI, idxU_nonneg, upto_false hj (by simp [h])]; rfl

set_option maxRecDepth 100000 in
set_option maxHeartbeats 4000000 in
theorem spec_l6Good {m : MapD} {ao bo : Option Addr} {ac bc : Nat} {co : Option Addr} {cap : Nat} {xs : List Ctl} {w : World} (hr : RowAt w ao 1 m.rise.length (ic m.rise)) (ht : RowAt w bo 1 m.cost.length (ic m.cost)) (hn : m.rise.length ≤ 9223372036854775807) (hn' : m.cost.length ≤ 9223372036854775807)
    (h : RowAt w co 2 xs.length (fun k => (nth xs k).c)) (hx' : xs.length ≤ 9223372036854775807) :
    Calls Try.prog 50 #[m.val ao ac bo bc, .slice co xs.length cap] w fun e w' => e = .returned (.bool (ctlsB m xs)) ∧ Ext w w' := by
  have H := fun y hx => spec_l2Map (w := y) (ac := ac) (bc := bc) (hr.ext hx) (ht.ext hx) hn hn'
  cases hm : mapB m
  · have hfin : ctlsB m xs = false := by simp [ctlsB, hm]
    rw [hfin]; clear hfin
    rw [hm] at H
    clear hm
    unfold MapD.val at H ⊢
    go_enter Try.func50, Try.ntmps50
    go_wp2_with fail
    refine (H _ (by repeat (first | (with_reducible exact Ext.refl _) | (with_reducible assumption) | with_reducible refine Ext.drew ?_ | with_reducible refine Ext.alloc ?_ _ | with_reducible refine Ext.setCell ?_ (by first | (simp; done) | (simp; omega) | omega) _ | with_reducible refine Ext.trans ?_ (by with_reducible assumption)))).mono ?_; rintro e w1 ⟨rfl, hx1⟩
    go_wp2
    go_ret
    exact ⟨rfl, (by repeat (first | (with_reducible exact Ext.refl _) | (with_reducible assumption) | with_reducible refine Ext.drew ?_ | with_reducible refine Ext.alloc ?_ _ | with_reducible refine Ext.setCell ?_ (by first | (simp; done) | (simp; omega) | omega) _ | with_reducible refine Ext.trans ?_ (by with_reducible assumption)))⟩
  · have HO := fun y x (hx : Ext w y) => spec_l2Open (w := y) (ao := ao) (ac := ac) (bc := bc) (x := x) hm (ht.ext hx)
    rw [hm] at H
    by_cases h10 : xs.length ≤ 10
    · have hfin : ctlsB m xs = upto (okCtl m xs) xs.length := by simp [ctlsB, hm, h10]
      have HF := Lib.hid hfin; clear hfin hm
      obtain ⟨n, hN⟩ : ∃ n, n = xs.length := ⟨_, rfl⟩
      rw [← hN] at h10 h hx' HF ⊢
      clear hN
      unfold MapD.val at H HO ⊢
      go_enter Try.func50, Try.ntmps50
      go_wp2_with fail
      refine (H _ (by repeat (first | (with_reducible exact Ext.refl _) | (with_reducible assumption) | with_reducible refine Ext.drew ?_ | with_reducible refine Ext.alloc ?_ _ | with_reducible refine Ext.setCell ?_ (by first | (simp; done) | (simp; omega) | omega) _ | with_reducible refine Ext.trans ?_ (by with_reducible assumption)))).mono ?_; rintro e wb ⟨rfl, hxb⟩
      obtain ⟨q0, q1, q2, q3⟩ := Box4.of hxb
      have hx0 : Ext w wb := (by repeat (first | (with_reducible exact Ext.refl _) | (with_reducible assumption) | with_reducible refine Ext.drew ?_ | with_reducible refine Ext.alloc ?_ _ | with_reducible refine Ext.setCell ?_ (by first | (simp; done) | (simp; omega) | omega) _ | with_reducible refine Ext.trans ?_ (by with_reducible assumption)))
      have zq : w.heap.size < wb.heap.size := World.block_lt_of_cell? _ _ q0
      clear hxb H
      go_wp2
      go_loopw [5] (fun i wr => ∃ k : Nat, k ≤ n ∧ i = .int .i64 k ∧ Ext wb wr ∧ upto (okCtl m xs) k = true) (fun i _ => n - (intOf i).toNat)
      case atStart => exact ⟨0, by omega, rfl, (by repeat (first | (with_reducible exact Ext.refl _) | (with_reducible assumption) | with_reducible refine Ext.drew ?_ | with_reducible refine Ext.alloc ?_ _ | with_reducible refine Ext.setCell ?_ (by first | (simp; done) | (simp; omega) | omega) _ | with_reducible refine Ext.trans ?_ (by with_reducible assumption))), rfl⟩
      case round =>
        obtain ⟨k, hk, rfl, hx, hu⟩ := hrel
        have HU := Lib.hid hu; clear hu
        by_cases hlt : k < n
        · have hX := hx0.trans hx
          obtain ⟨b, off, rfl, hcell⟩ := (h.ext hX) (by omega)
          have d0 : wr.cell? ⟨b, off + k * 2, none⟩ = some (.int .i64 (nth xs k).code) := hcell k hlt 0 (by decide)
          have d1 : wr.cell? ⟨b, off + k * 2 + 1, none⟩ = some (.int .i64 (nth xs k).cell) := hcell k hlt 1 (by decide)
          have HO2 := fun y (hy : Ext wr y) => HO y (nth xs k).cell (hX.trans hy)
          have g0 := Grow.cells (hx.cells q0)
          have g1 := Grow.cells (hx.cells q1)
          have g2 := Grow.cells (hx.cells q2)
          have g3 := Grow.cells (hx.cells q3)
          have e0 := Grow.cells d0
          have e1 := Grow.cells d1
          have p0 : ∀ x : Grow wr, 0 < k → x.w.cell? ⟨b, off + (k - 1) * 2, none⟩ = some (.int .i64 (nth xs (k - 1)).code) :=
            fun x hk0 => x.h.cells (hcell (k - 1) (by omega) 0 (by decide))
          have hki0 : (0 : Int) ≤ (k : Int) := by omega
          have hki1 : (k : Int) < (n : Int) := by omega
          go_wp2
          refine wp_region_ext (by kernel_rfl) (by kernel_rfl) ?_
          by_cases hA : inB (nth xs k).code 31 99 = true
          · by_cases hB : openB m (nth xs k).cell = true
            · have hok : (decide (0 < k) && decide ((nth xs k).code ≤ (nth xs (k - 1)).code)) = true ∨ ((decide (0 < k) && decide ((nth xs k).code ≤ (nth xs (k - 1)).code)) = false ∧ (0 < k → ¬ (nth xs k).code ≤ (nth xs (k - 1)).code)) := by
                by_cases a : 0 < k <;> by_cases c : (nth xs k).code ≤ (nth xs (k - 1)).code <;> simp [a, c]
              rcases hok with hok | ⟨hok, hnok⟩
              · have hC : 0 < k := by simp only [Bool.and_eq_true, decide_eq_true_eq] at hok; exact hok.1
                have hD : (nth xs k).code ≤ (nth xs (k - 1)).code := by simp only [Bool.and_eq_true, decide_eq_true_eq] at hok; exact hok.2
                have HOK := Lib.hid hok; clear hok
                repeat (go_big_quiet_step (first | (go_at_call 97; exact Calls.ext_of_same (spec_l6Code)) | (go_at_call 51; exact Calls.ext_of ((HO2 _ (Grow.h _))))))
                refine wpQuiet_nil ?_
                rintro _ ⟨⟨w1, hx1⟩, rfl⟩
                clear g0 g1 g2 g3 p0 e0 e1
                go_wp2
                go_ret
                exact ⟨ret_b (by rw [HF.out, upto_false hlt (by simp only [okCtl, HOK.out]; simp)]), hX.trans hx1⟩
              · have HOK := Lib.hid hok; clear hok
                by_cases hC : 0 < k
                all_goals
                  have hD' : 0 < k → decide ((nth xs k).code ≤ (nth xs (k - 1)).code) = false := fun h0 => by simpa using hnok h0
                  have hd : ¬ 0 < k → decide ((0 : Int) < (k : Int)) = false := fun h0 => by simpa using h0
                  first | (have hD2 := hD' hC) | (have hd2 := hd hC)
                  have HNOK := Lib.hid hnok; clear hnok hD' hd
                  repeat (go_big_quiet_step (first | (go_at_call 97; exact Calls.ext_of_same (spec_l6Code)) | (go_at_call 51; exact Calls.ext_of ((HO2 _ (Grow.h _))))))
                  refine wpQuiet_nil ?_
                  rintro _ ⟨⟨w1, hx1⟩, rfl⟩
                  clear g0 g1 g2 g3 p0 e0 e1
                  rename_i w2
                  have hxx := hx1
                  have hrow2 := (h.ext hX).ext hx1
                  clear hx1
                  obtain ⟨wo, rfl⟩ : ∃ wo : World, wo = w2 := ⟨_, rfl⟩
                  go_wp2
                  go_loopw [6] (fun j wi => ∃ q : Nat, q ≤ k ∧ j = .int .i64 q ∧ Ext wo wi ∧ ∀ t, t < q → ((nth xs t).cell == (nth xs k).cell) = false) (fun j _ => k - (intOf j).toNat)
                  case atStart => exact ⟨0, by omega, rfl, Ext.refl _, fun t ht => by omega⟩
                  case round =>
                    obtain ⟨q, hq, rfl, hXi, hb⟩ := hrel
                    have HB := Lib.hid hb; clear hb
                    by_cases hqk : q < k
                    · obtain ⟨b2, off2, eb2, hc2⟩ := hrow2 (by omega)
                      injection eb2 with eb2
                      injection eb2 with eb3 eb4
                      subst eb3 eb4
                      have f0 := Grow.cells (hXi.cells (show wo.cell? ⟨b, off + q * 2 + 1, none⟩ = some (.int .i64 (nth xs q).cell) from hc2 q (by omega) 1 (by decide)))
                      have f1 := Grow.cells (hXi.cells (show wo.cell? ⟨b, off + k * 2 + 1, none⟩ = some (.int .i64 (nth xs k).cell) from hc2 k hlt 1 (by decide)))
                      have hqn : q < n := by omega
                      have hqi0 : (0 : Int) ≤ (q : Int) := by omega
                      have hqi : (q : Int) < (n : Int) := by omega
                      clear hc2
                      try (exfalso; omega)
                      all_goals
                        cases hE : ((nth xs q).cell == (nth xs k).cell)
                        · go_wp2
                          refine wp_region_ext (by kernel_rfl) (by kernel_rfl) ?_
                          repeat (go_big_quiet_step (fail))
                          refine wpQuiet_nil ?_
                          rintro _ ⟨⟨w1, hx1⟩, rfl⟩
                          clear f0 f1
                          go_wp2
                          go_roundw
                          case rel => exact ⟨q + 1, by omega, by go_num, (by repeat (first | (with_reducible exact Ext.refl _) | (with_reducible assumption) | with_reducible refine Ext.drew ?_ | with_reducible refine Ext.alloc ?_ _ | with_reducible refine Ext.setCell ?_ (by first | (simp; done) | (simp; omega) | omega) _ | with_reducible refine Ext.trans ?_ (by with_reducible assumption))), fun t ht => by by_cases e : t = q; (subst e; exact hE); exact HB.out t (by omega)⟩
                          case measure => simp [intOf] <;> omega
                        · have hno := inI_yes hqk hE
                          have HNO := Lib.hid hno; clear hno
                          go_wp2
                          refine wp_region_ext (by kernel_rfl) (by kernel_rfl) ?_
                          repeat (go_big_quiet_step (fail))
                          refine wpQuiet_nil ?_
                          rintro _ ⟨⟨w1, hx1⟩, rfl⟩
                          clear f0 f1
                          go_wp2
                          go_ret
                          exact ⟨ret_b (by rw [HF.out, upto_false hlt (by simp only [okCtl, HNO.out]; simp)]), hX.trans (hxx.trans (hXi.trans hx1))⟩
                    · have hqe : q = k := by omega
                      have hno := inI_no (k := k) (fun t ht => HB.out t (by omega))
                      have HNO := Lib.hid hno; clear hno
                      clear hqe
                      go_wp2
                      go_roundw
                      case rel => exact ⟨k + 1, by omega, by go_num, hx.trans (hxx.trans hXi), upto_succ HU.out (by simp only [okCtl, HOK.out, HNO.out, hA, hB]; rfl)⟩
                      case measure => simp [intOf] <;> omega
            · have hB' : openB m (nth xs k).cell = false := by simpa using hB
              repeat (go_big_quiet_step (first | (go_at_call 97; exact Calls.ext_of_same (spec_l6Code)) | (go_at_call 51; exact Calls.ext_of ((HO2 _ (Grow.h _))))))
              refine wpQuiet_nil ?_
              rintro _ ⟨⟨w1, hx1⟩, rfl⟩
              clear g0 g1 g2 g3 p0 e0 e1
              go_wp2
              go_ret
              exact ⟨ret_b (by rw [HF.out, upto_false hlt (by simp [okCtl, hB'])]), hX.trans hx1⟩
          · have hA' : inB (nth xs k).code 31 99 = false := by simpa using hA
            repeat (go_big_quiet_step ((go_at_call 97; exact Calls.ext_of_same (spec_l6Code))))
            refine wpQuiet_nil ?_
            rintro _ ⟨⟨w1, hx1⟩, rfl⟩
            clear g0 g1 g2 g3 p0 e0 e1
            go_wp2
            go_ret
            exact ⟨ret_b (by rw [HF.out, upto_false hlt (by simp [okCtl, hA'])]), hX.trans hx1⟩
        · have hkn : k = n := by omega
          have HK := Lib.hid hkn; clear hkn
          go_wp2
          go_ret
          exact ⟨ret_b (by rw [HF.out, ← HK.out, HU.out]), hx0.trans hx⟩
    · have hfin : ctlsB m xs = false := by simp [ctlsB, h10]
      rw [hfin]; clear hfin hm HO
      unfold MapD.val at H ⊢
      go_enter Try.func50, Try.ntmps50
      go_wp2_with fail
      refine (H _ (by repeat (first | (with_reducible exact Ext.refl _) | (with_reducible assumption) | with_reducible refine Ext.drew ?_ | with_reducible refine Ext.alloc ?_ _ | with_reducible refine Ext.setCell ?_ (by first | (simp; done) | (simp; omega) | omega) _ | with_reducible refine Ext.trans ?_ (by with_reducible assumption)))).mono ?_; rintro e w1 ⟨rfl, hx1⟩
      go_wp2
      go_ret
      exact ⟨rfl, (by repeat (first | (with_reducible exact Ext.refl _) | (with_reducible assumption) | with_reducible refine Ext.drew ?_ | with_reducible refine Ext.alloc ?_ _ | with_reducible refine Ext.setCell ?_ (by first | (simp; done) | (simp; omega) | omega) _ | with_reducible refine Ext.trans ?_ (by with_reducible assumption)))⟩

end Go.Proofs.Ytidcfohlhamgmaa
