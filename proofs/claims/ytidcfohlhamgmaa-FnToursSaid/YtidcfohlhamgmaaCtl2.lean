/-
  Proved here: what AreControls and its reference return.
  Conditions: the lengths fit an int.
-/
import Derived.Test.YtidcfohlhamgmaaCtl1
import Derived.Test.YtidcfohlhamgmaaMap2
import Derived.Test.YtidcfohlhamgmaaOwn3
namespace Go.Proofs.Ytidcfohlhamgmaa
open Go.RowKit

theorem RowAt.takeC {w : World} {ao : Option Addr} {s n m : Nat} {c : Nat → Nat → Value} (h : RowAt w ao s n c) (hm : m ≤ n) : RowAt w ao s m c := fun h0 => by
  obtain ⟨b, off, e, H⟩ := h (by omega)
  exact ⟨b, off, e, fun k hk j hj => H k (by omega) j hj⟩
def okCtl (m : MapD) (xs : List Ctl) (k : Nat) : Bool :=
  inB (nth xs k).code 31 99 && openB m (nth xs k).cell && !(decide (0 < k) && decide ((nth xs k).code ≤ (nth xs (k - 1)).code)) && !decide (0 ≤ inI xs k (nth xs k).cell)
def ctlsB (m : MapD) (xs : List Ctl) : Bool := mapB m && decide (xs.length ≤ 10) && upto (okCtl m xs) xs.length

set_option maxRecDepth 100000 in
set_option maxHeartbeats 4000000 in
theorem impl_AreControls {m : MapD} {ao bo : Option Addr} {ac bc : Nat} {co : Option Addr} {cap : Nat} {xs : List Ctl} {w : World} (hr : RowAt w ao 1 m.rise.length (ic m.rise)) (ht : RowAt w bo 1 m.cost.length (ic m.cost)) (hn : m.rise.length ≤ 9223372036854775807) (hn' : m.cost.length ≤ 9223372036854775807)
    (h : RowAt w co 2 xs.length (fun k => (nth xs k).c)) (hx' : xs.length ≤ 9223372036854775807) (hcap : xs.length ≤ cap) :
    Calls Try.prog 86 #[m.val ao ac bo bc, .slice co xs.length cap] w fun e w' => e = .returned (.bool (ctlsB m xs)) ∧ Ext w w' := by
  have H := fun y hx => impl_IsMap (w := y) (ac := ac) (bc := bc) (hr.ext hx) (ht.ext hx) hn hn'
  have HO := fun y x hx => impl_isOpen (w := y) (ac := ac) (bc := bc) (x := x) (hr.ext hx) (ht.ext hx) hn hn'
  cases hm : mapB m
  · have hfin : ctlsB m xs = false := by simp [ctlsB, hm]
    rw [hfin]; clear hfin
    rw [hm] at H
    clear hm HO
    unfold MapD.val at H ⊢
    go_enter Try.func86, Try.ntmps86
    go_wp2_with fail
    refine (H _ (by repeat (first | (with_reducible exact Ext.refl _) | (with_reducible assumption) | with_reducible refine Ext.drew ?_ | with_reducible refine Ext.alloc ?_ _ | with_reducible refine Ext.setCell ?_ (by first | (simp; done) | (simp; omega) | omega) _ | with_reducible refine Ext.trans ?_ (by with_reducible assumption)))).mono ?_; rintro e w1 ⟨rfl, hx1⟩
    go_wp2
    go_ret
    exact ⟨rfl, (by repeat (first | (with_reducible exact Ext.refl _) | (with_reducible assumption) | with_reducible refine Ext.drew ?_ | with_reducible refine Ext.alloc ?_ _ | with_reducible refine Ext.setCell ?_ (by first | (simp; done) | (simp; omega) | omega) _ | with_reducible refine Ext.trans ?_ (by with_reducible assumption)))⟩
  · rw [hm] at H
    by_cases h10 : xs.length ≤ 10
    · have hfin : ctlsB m xs = upto (okCtl m xs) xs.length := by simp [ctlsB, hm, h10]
      have HF := Lib.hid hfin; clear hfin hm
      obtain ⟨n, hN⟩ : ∃ n, n = xs.length := ⟨_, rfl⟩
      rw [← hN] at h10 h hx' hcap HF ⊢
      clear hN
      unfold MapD.val at H HO ⊢
      go_enter Try.func86, Try.ntmps86
      go_wp2_with fail
      refine (H _ (by repeat (first | (with_reducible exact Ext.refl _) | (with_reducible assumption) | with_reducible refine Ext.drew ?_ | with_reducible refine Ext.alloc ?_ _ | with_reducible refine Ext.setCell ?_ (by first | (simp; done) | (simp; omega) | omega) _ | with_reducible refine Ext.trans ?_ (by with_reducible assumption)))).mono ?_; rintro e wb ⟨rfl, hx1⟩
      obtain ⟨q0, q1, q2, q3⟩ := Box4.of hx1
      have hx0 : Ext w wb := (by repeat (first | (with_reducible exact Ext.refl _) | (with_reducible assumption) | with_reducible refine Ext.drew ?_ | with_reducible refine Ext.alloc ?_ _ | with_reducible refine Ext.setCell ?_ (by first | (simp; done) | (simp; omega) | omega) _ | with_reducible refine Ext.trans ?_ (by with_reducible assumption)))
      have zq : w.heap.size < wb.heap.size := World.block_lt_of_cell? _ _ q0
      clear hx1 H
      go_wp2
      go_loopw [17] (fun i wr => ∃ k : Nat, k ≤ n ∧ i = .int .i64 k ∧ Ext wb wr ∧ upto (okCtl m xs) k = true) (fun i _ => n - (intOf i).toNat)
      case atStart => exact ⟨0, by omega, rfl, (by repeat (first | (with_reducible exact Ext.refl _) | (with_reducible assumption) | with_reducible refine Ext.drew ?_ | with_reducible refine Ext.alloc ?_ _ | with_reducible refine Ext.setCell ?_ (by first | (simp; done) | (simp; omega) | omega) _ | with_reducible refine Ext.trans ?_ (by with_reducible assumption))), rfl⟩
      case round =>
        obtain ⟨k, hk, rfl, hx, hu⟩ := hrel
        have HU := Lib.hid hu; clear hu
        by_cases hlt : k < n
        · obtain ⟨b, off, rfl, hcell⟩ := h (by omega)
          have d0 : wr.cell? ⟨b, off + k * 2, none⟩ = some (.int .i64 (nth xs k).code) := hx.cells (hx0.cells (hcell k hlt 0 (by decide)))
          have d1 : wr.cell? ⟨b, off + k * 2 + 1, none⟩ = some (.int .i64 (nth xs k).cell) := hx.cells (hx0.cells (hcell k hlt 1 (by decide)))
          have hxp : Ext wr (wr.alloc (Obj.cells #[Value.int IntKind.i64 (nth xs k).code, Value.int IntKind.i64 (nth xs k).cell] 75)) := (Ext.refl _).alloc _
          have hx2 := hx0.trans (hx.trans hxp)
          have HO2 := fun y (hy : Ext (wr.alloc (Obj.cells #[Value.int IntKind.i64 (nth xs k).code, Value.int IntKind.i64 (nth xs k).cell] 75)) y) => HO y (nth xs k).cell (hx2.trans hy)
          have hpre : RowAt (wr.alloc (Obj.cells #[Value.int IntKind.i64 (nth xs k).code, Value.int IntKind.i64 (nth xs k).cell] 75)) (some ⟨b, off, none⟩) 2 k (fun k => (nth xs k).c) := (h.ext hx2).takeC hk
          have HI := fun y (hy : Ext (wr.alloc (Obj.cells #[Value.int IntKind.i64 (nth xs k).code, Value.int IntKind.i64 (nth xs k).cell] 75)) y) => impl_controlIn (w := y) (cap := cap) (x := (nth xs k).cell) (hpre.ext hy) (by omega)
          have g0 := Grow.cells (hxp.cells (hx.cells q0))
          have g1 := Grow.cells (hxp.cells (hx.cells q1))
          have g2 := Grow.cells (hxp.cells (hx.cells q2))
          have g3 := Grow.cells (hxp.cells (hx.cells q3))
          have p0 : ∀ x : Grow (wr.alloc (Obj.cells #[Value.int IntKind.i64 (nth xs k).code, Value.int IntKind.i64 (nth xs k).cell] 75)), 0 < k → x.w.cell? ⟨b, off + (k - 1) * 2, none⟩ = some (.int .i64 (nth xs (k - 1)).code) :=
            fun x hk0 => x.h.cells (hx2.cells (hcell (k - 1) (by omega) 0 (by decide)))
          have hkc : k ≤ cap := by omega
          have hki0 : (0 : Int) ≤ (k : Int) := by omega
          have hki1 : (k : Int) ≤ (cap : Int) := by omega
          clear hcell
          go_wp2
          refine wp_region_ext (by kernel_rfl) (by kernel_rfl) ?_
          have e0 : ∀ x : Grow (wr.alloc (Obj.cells #[Value.int IntKind.i64 (nth xs k).code, Value.int IntKind.i64 (nth xs k).cell] 75)), x.w.cell? ⟨wr.heap.size, 0, none⟩ = some (.int .i64 (nth xs k).code) := Grow.cells (by go_simp)
          have e1 : ∀ x : Grow (wr.alloc (Obj.cells #[Value.int IntKind.i64 (nth xs k).code, Value.int IntKind.i64 (nth xs k).cell] 75)), x.w.cell? ⟨wr.heap.size, 1, none⟩ = some (.int .i64 (nth xs k).cell) := Grow.cells (by go_simp)
          by_cases hA : inB (nth xs k).code 31 99 = true
          · by_cases hB : openB m (nth xs k).cell = true
            · by_cases hC : 0 < k
              · by_cases hD : (nth xs k).code ≤ (nth xs (k - 1)).code
                · repeat (go_big_quiet_step (first | (go_at_call 117; exact Calls.ext_of_same (impl_isCode)) | (go_at_call 64; exact Calls.ext_of ((HO2 _ (Grow.h _))))))
                  refine wpQuiet_nil ?_
                  rintro _ ⟨⟨w1, hx1⟩, rfl⟩
                  clear g0 g1 g2 g3 p0 e0 e1
                  go_wp2
                  go_ret
                  exact ⟨ret_b (by rw [HF.out, upto_false hlt (by simp [okCtl, hC, hD])]), hx2.trans hx1⟩
                · have hD' : decide ((nth xs k).code ≤ (nth xs (k - 1)).code) = false := by simpa using hD
                  by_cases hE : 0 ≤ inI xs k (nth xs k).cell
                  · repeat (go_big_quiet_step (first | (go_at_call 117; exact Calls.ext_of_same (impl_isCode)) | (go_at_call 64; exact Calls.ext_of ((HO2 _ (Grow.h _)))) | (go_at_call 118; exact Calls.ext_of ((HI _ (Grow.h _))))))
                    refine wpQuiet_nil ?_
                    rintro _ ⟨⟨w1, hx1⟩, rfl⟩
                    clear g0 g1 g2 g3 p0 e0 e1
                    go_wp2
                    go_ret
                    exact ⟨ret_b (by rw [HF.out, upto_false hlt (by simp [okCtl, hE])]), hx2.trans hx1⟩
                  · have hE' : decide (0 ≤ inI xs k (nth xs k).cell) = false := by simpa using hE
                    repeat (go_big_quiet_step (first | (go_at_call 117; exact Calls.ext_of_same (impl_isCode)) | (go_at_call 64; exact Calls.ext_of ((HO2 _ (Grow.h _)))) | (go_at_call 118; exact Calls.ext_of ((HI _ (Grow.h _))))))
                    refine wpQuiet_nil ?_
                    rintro _ ⟨⟨w1, hx1⟩, rfl⟩
                    clear g0 g1 g2 g3 p0 e0 e1
                    go_wp2
                    go_roundw
                    case rel => exact ⟨k + 1, by omega, by go_num, hx.trans (hxp.trans hx1), upto_succ HU.out (by simp [okCtl, hA, hB, hD', hE'])⟩
                    case measure => simp [intOf] <;> omega
              · have hd : decide ((0 : Int) < (k : Int)) = false := by simpa using hC
                have hC' : decide (0 < k) = false := by simpa using hC
                by_cases hE : 0 ≤ inI xs k (nth xs k).cell
                · repeat (go_big_quiet_step (first | (go_at_call 117; exact Calls.ext_of_same (impl_isCode)) | (go_at_call 64; exact Calls.ext_of ((HO2 _ (Grow.h _)))) | (go_at_call 118; exact Calls.ext_of ((HI _ (Grow.h _))))))
                  refine wpQuiet_nil ?_
                  rintro _ ⟨⟨w1, hx1⟩, rfl⟩
                  clear g0 g1 g2 g3 p0 e0 e1
                  go_wp2
                  go_ret
                  exact ⟨ret_b (by rw [HF.out, upto_false hlt (by simp [okCtl, hE])]), hx2.trans hx1⟩
                · have hE' : decide (0 ≤ inI xs k (nth xs k).cell) = false := by simpa using hE
                  repeat (go_big_quiet_step (first | (go_at_call 117; exact Calls.ext_of_same (impl_isCode)) | (go_at_call 64; exact Calls.ext_of ((HO2 _ (Grow.h _)))) | (go_at_call 118; exact Calls.ext_of ((HI _ (Grow.h _))))))
                  refine wpQuiet_nil ?_
                  rintro _ ⟨⟨w1, hx1⟩, rfl⟩
                  clear g0 g1 g2 g3 p0 e0 e1
                  go_wp2
                  go_roundw
                  case rel => exact ⟨k + 1, by omega, by go_num, hx.trans (hxp.trans hx1), upto_succ HU.out (by simp [okCtl, hA, hB, hC', hE'])⟩
                  case measure => simp [intOf] <;> omega
            · have hB' : openB m (nth xs k).cell = false := by simpa using hB
              repeat (go_big_quiet_step (first | (go_at_call 117; exact Calls.ext_of_same (impl_isCode)) | (go_at_call 64; exact Calls.ext_of ((HO2 _ (Grow.h _))))))
              refine wpQuiet_nil ?_
              rintro _ ⟨⟨w1, hx1⟩, rfl⟩
              clear g0 g1 g2 g3 p0 e0 e1
              go_wp2
              go_ret
              exact ⟨ret_b (by rw [HF.out, upto_false hlt (by simp [okCtl, hB'])]), hx2.trans hx1⟩
          · have hA' : inB (nth xs k).code 31 99 = false := by simpa using hA
            repeat (go_big_quiet_step ((go_at_call 117; exact Calls.ext_of_same (impl_isCode))))
            refine wpQuiet_nil ?_
            rintro _ ⟨⟨w1, hx1⟩, rfl⟩
            clear g0 g1 g2 g3 p0 e0 e1
            go_wp2
            go_ret
            exact ⟨ret_b (by rw [HF.out, upto_false hlt (by simp [okCtl, hA'])]), hx2.trans hx1⟩
        · have hkn : k = n := by omega
          have HK := Lib.hid hkn; clear hkn
          go_wp2
          go_ret
          exact ⟨ret_b (by rw [HF.out, ← HK.out, HU.out]), hx0.trans hx⟩
    · have hfin : ctlsB m xs = false := by simp [ctlsB, h10]
      rw [hfin]; clear hfin hm HO
      unfold MapD.val at H ⊢
      go_enter Try.func86, Try.ntmps86
      go_wp2_with fail
      refine (H _ (by repeat (first | (with_reducible exact Ext.refl _) | (with_reducible assumption) | with_reducible refine Ext.drew ?_ | with_reducible refine Ext.alloc ?_ _ | with_reducible refine Ext.setCell ?_ (by first | (simp; done) | (simp; omega) | omega) _ | with_reducible refine Ext.trans ?_ (by with_reducible assumption)))).mono ?_; rintro e w1 ⟨rfl, hx1⟩
      go_wp2
      go_ret
      exact ⟨rfl, (by repeat (first | (with_reducible exact Ext.refl _) | (with_reducible assumption) | with_reducible refine Ext.drew ?_ | with_reducible refine Ext.alloc ?_ _ | with_reducible refine Ext.setCell ?_ (by first | (simp; done) | (simp; omega) | omega) _ | with_reducible refine Ext.trans ?_ (by with_reducible assumption)))⟩

end Go.Proofs.Ytidcfohlhamgmaa
