/-
  Proved here: what isTour, TourTime and the reference's l8Twice, l17Tour, TourTime return.
  Conditions: the lengths fit an int.
-/
import Derived.Test.YtidcfohlhamgmaaTour8
import Derived.Test.YtidcfohlhamgmaaCtl3
namespace Go.Proofs.Ytidcfohlhamgmaa
open Go.RowKit

theorem spec_l8Twice {ao : Option Addr} {cap n : Nat} {xs : List Int} {w : World} (h : RowAt w ao 1 n (ic xs)) (hn : n ≤ 9223372036854775807) (hc : n ≤ cap) :
    Calls Try.prog 99 #[.slice ao n cap] w fun e w' => e = .returned (.bool (!onceU xs n)) ∧ Ext w w' := by
  have hfin : ∀ k, onceU xs k = upto (fun k => !hasI xs k (nth xs k)) k := fun _ => rfl
  have HFN := Lib.hid hfin; clear hfin
  go_enter Try.func99, Try.ntmps99
  go_wp2
  go_loopw [3] (fun i wr => ∃ k : Nat, k ≤ n ∧ i = .int .i64 k ∧ Ext w wr ∧ upto (fun k => !hasI xs k (nth xs k)) k = true) (fun i _ => n - (intOf i).toNat)
  case atStart => exact ⟨0, Nat.zero_le _, rfl, Ext.refl _, rfl⟩
  case round =>
    obtain ⟨k, hk, rfl, hx, hu⟩ := hrel
    have HU := Lib.hid hu; clear hu
    by_cases hlt : k < n
    · obtain ⟨b, off, rfl, hcell⟩ := intsN (h.ext hx) (by omega)
      have d0 := hcell k hlt
      have HH := Lib.hid (fun y (hx2 : Ext wr y) => spec_l1Has (w := y) (cap := cap) (n := k) (v := nth xs k) (((h.ext hx).take (by omega)).ext hx2) (by omega))
      have g0 := Grow.cells d0
      have hk0 : (0 : Int) ≤ (k : Int) := by omega
      have hk1 : (k : Int) < (n : Int) := by omega
      have hk2 : (k : Int) ≤ (cap : Int) := by omega
      have HXW := Lib.hid hx
      clear hcell d0 hx
      cases hh : hasI xs k (nth xs k)
      all_goals
        rw [hh] at HH
        have HHH := Lib.hid hh
        clear hh
        generalize nth xs k = v at g0 HH ⊢
        go_wp2
        refine wp_region_ext (by kernel_rfl) (by kernel_rfl) ?_
        repeat (go_big_quiet_step ((go_at_call 62; with_reducible exact Calls.ext_of (HH.out _ (Grow.h _)))))
        refine wpQuiet_nil ?_
        rintro _ ⟨⟨w1, hx1⟩, rfl⟩
        clear g0
        have HX1 := Lib.hid (HXW.out.trans hx1)
        clear hx1
        go_wp2
      · go_roundw
        case rel => exact ⟨k + 1, by omega, by go_num, HX1.out, upto_succ HU.out (by simp [HHH.out])⟩
        case measure => simp [intOf] <;> omega
      · go_ret
        exact ⟨ret_b (by rw [HFN.out, upto_false hlt (by simp [HHH.out])]; rfl), HX1.out⟩
    · have hkn : k = n := by omega
      subst hkn
      go_wp2
      go_ret
      exact ⟨ret_b (by rw [HFN.out, HU.out]; rfl), hx⟩

/-- a tour, apart from its routes -/
def tourB (m : MapD) (xs : List Ctl) (center : Int) (cs : List Int) : Bool := ctlsB m xs && openB m center && decide (cs.length ≤ 8) && onceU cs cs.length && ofB xs cs
theorem open_nat {m : MapD} {x : Int} (h : openB m x = true) : ∃ q : Nat, x = (q : Int) ∧ q < m.cost.length := by
  simp only [openB, Bool.and_eq_true] at h
  obtain ⟨q, hq, e⟩ := cell_at h.1
  exact ⟨q, e, hq⟩
theorem tour_open {m : MapD} {xs : List Ctl} {center : Int} {cs : List Int} (h : tourB m xs center cs = true) : ctlsB m xs = true ∧ cs.length ≤ 8 ∧ ofB xs cs = true ∧ ∃ q : Nat, center = (q : Int) ∧ q < m.cost.length := by
  simp only [tourB, Bool.and_eq_true, decide_eq_true_eq] at h
  exact ⟨h.1.1.1.1, h.1.1.2, h.2, open_nat h.1.1.1.2⟩

set_option maxHeartbeats 2000000 in
theorem impl_isTour {m : MapD} {ao bo : Option Addr} {ac bc : Nat} {xs : List Ctl} {co : Option Addr} {cap : Nat} {qo : Option Addr} {qc : Nat} {cs : List Int} {center : Int} {w : World} (h : Site w m ao bo xs co cap) (hq : RowAt w qo 1 cs.length (ic cs)) (hn : cs.length ≤ 9223372036854775807) (hcap : cs.length ≤ qc) :
    Calls Try.prog 55 #[m.val ao ac bo bc, .slice co xs.length cap, .int .i64 center, .slice qo cs.length qc] w fun e w' => e = .returned (.bool (tourB m xs center cs)) ∧ Ext w w' := by
  have h3 := h.n3
  have hX := (Ext.refl w).alloc (.cells #[.int .i64 m.wid, .int .i64 m.hei, .slice ao m.rise.length ac, .slice bo m.cost.length bc] 30)
  have p0 : (w.alloc (.cells #[.int .i64 m.wid, .int .i64 m.hei, .slice ao m.rise.length ac, .slice bo m.cost.length bc] 30)).cell? ⟨w.heap.size, 0, none⟩ = some (.int .i64 m.wid) := by go_simp
  have p1 : (w.alloc (.cells #[.int .i64 m.wid, .int .i64 m.hei, .slice ao m.rise.length ac, .slice bo m.cost.length bc] 30)).cell? ⟨w.heap.size, 1, none⟩ = some (.int .i64 m.hei) := by go_simp
  have p2 : (w.alloc (.cells #[.int .i64 m.wid, .int .i64 m.hei, .slice ao m.rise.length ac, .slice bo m.cost.length bc] 30)).cell? ⟨w.heap.size, 2, none⟩ = some (.slice ao m.rise.length ac) := by go_simp
  have p3 : (w.alloc (.cells #[.int .i64 m.wid, .int .i64 m.hei, .slice ao m.rise.length ac, .slice bo m.cost.length bc] 30)).cell? ⟨w.heap.size, 3, none⟩ = some (.slice bo m.cost.length bc) := by go_simp
  have HQ := Lib.hid (show _ ∧ _ ∧ _ ∧ _ from ⟨p0, p1, p2, p3⟩)
  have HX := Lib.hid hX
  have HA := Lib.hid (fun y (hx : Ext w y) => impl_AreControls (w := y) (ac := ac) (bc := bc) (cap := cap) (h.rise.ext hx) (h.cost.ext hx) h.n1 h.n2 (h.ctls.ext hx) h.n3 h.cap)
  have HO := Lib.hid (fun y (hx : Ext w y) => impl_isOpen (w := y) (ac := ac) (bc := bc) (x := center) (h.rise.ext hx) (h.cost.ext hx) h.n1 h.n2)
  have HT := Lib.hid (fun y (hx : Ext w y) => impl_hasTwice (w := y) (hq.ext hx) hn hcap)
  have HC := Lib.hid (fun y (hx : Ext w y) => impl_areCodesOf (w := y) (cap := cap) (ac := qc) (h.ctls.ext hx) h.n3 (hq.ext hx) hn)
  have HF : Hid (tourB m xs center cs = (ctlsB m xs && openB m center && decide (cs.length ≤ 8) && onceU cs cs.length && ofB xs cs)) := Lib.hid rfl
  generalize tourB m xs center cs = RB at *
  generalize ctlsB m xs = b1 at *
  generalize openB m center = b2 at *
  generalize onceU cs cs.length = b3 at *
  generalize ofB xs cs = b4 at *
  unfold MapD.val at *
  clear h hq hX p0 p1 p2 p3
  go_enter Try.func55, Try.ntmps55
  have p0 := HQ.out.1
  have p1 := HQ.out.2.1
  have p2 := HQ.out.2.2.1
  have p3 := HQ.out.2.2.2
  go_wp2_with fail
  refine (HA.out _ HX.out).mono ?_; rintro e w1 ⟨rfl, hx1⟩
  have HX1 := Lib.hid (HX.out.trans hx1)
  have q0 := hx1.cells p0
  have q1 := hx1.cells p1
  have q2 := hx1.cells p2
  have q3 := hx1.cells p3
  clear hx1 p0 p1 p2 p3 HA
  cases b1
  · go_wp2
    go_ret
    exact ⟨ret_b (by rw [HF.out]; rfl), HX1.out⟩
  · go_wp2_with fail
    refine (HO.out _ HX1.out).mono ?_; rintro e w2 ⟨rfl, hx2⟩
    have HX2 := Lib.hid (HX1.out.trans hx2)
    clear hx2 HO q0 q1 q2 q3
    cases b2
    · go_wp2
      go_ret
      exact ⟨ret_b (by rw [HF.out]; rfl), HX2.out⟩
    · by_cases h8 : cs.length ≤ 8
      · have h8i : (cs.length : Int) ≤ 8 := by omega
        have HD : Hid (decide (cs.length ≤ 8) = true) := Lib.hid (by simpa using h8)
        go_wp2_with fail
        refine (HT.out _ HX2.out).mono ?_; rintro e w3 ⟨rfl, hx3⟩
        have HX3 := Lib.hid (HX2.out.trans hx3)
        clear hx3 HT
        cases b3
        · go_wp2
          go_ret
          exact ⟨ret_b (by rw [HF.out, HD.out]; rfl), HX3.out⟩
        · go_wp2_with fail
          refine (HC.out _ HX3.out).mono ?_; rintro e w4 ⟨rfl, hx4⟩
          have HX4 := Lib.hid (HX3.out.trans hx4)
          clear hx4 HC
          go_wp2
          go_ret
          exact ⟨ret_b (by rw [HF.out, HD.out]; simp), HX4.out⟩
      · have h8i : ¬ (cs.length : Int) ≤ 8 := by omega
        have HD : Hid (decide (cs.length ≤ 8) = false) := Lib.hid (by simpa using h8)
        go_wp2
        go_ret
        exact ⟨ret_b (by rw [HF.out, HD.out]; rfl), HX2.out⟩

theorem spec_l17Tour {xs : List Ctl} {co : Option Addr} {cap : Nat} {qo : Option Addr} {qc : Nat} {cs : List Int} {w : World} (h : RowAt w co 2 xs.length (fun k => (nth xs k).c)) (h3 : xs.length ≤ 9223372036854775807) (hq : RowAt w qo 1 cs.length (ic cs)) (hn : cs.length ≤ 9223372036854775807) (hcap : cs.length ≤ qc) :
    Calls Try.prog 52 #[.slice co xs.length cap, .slice qo cs.length qc] w fun e w' => e = .returned (.bool (ofB xs cs && onceU cs cs.length && decide (cs.length ≤ 8))) ∧ Ext w w' := by
  have HC := Lib.hid (spec_l17Codes (cap := cap) (ac := qc) h h3 hq hn)
  have HT := Lib.hid (fun y (hx : Ext w y) => spec_l8Twice (w := y) (hq.ext hx) hn hcap)
  generalize onceU cs cs.length = b3 at *
  generalize ofB xs cs = b4 at *
  clear h hq
  go_enter Try.func52, Try.ntmps52
  go_wp2_with fail
  refine HC.out.mono ?_; rintro e w1 ⟨rfl, hx1⟩
  have HX1 := Lib.hid hx1
  clear hx1 HC
  cases b4
  · go_wp2
    go_ret
    exact ⟨rfl, HX1.out⟩
  · go_wp2_with fail
    refine (HT.out _ HX1.out).mono ?_; rintro e w2 ⟨rfl, hx2⟩
    have HX2 := Lib.hid (HX1.out.trans hx2)
    clear hx2 HT
    cases b3
    · go_wp2
      go_ret
      exact ⟨rfl, HX2.out⟩
    · go_wp2
      go_ret
      exact ⟨ret_b (by simp; omega), HX2.out⟩

end Go.Proofs.Ytidcfohlhamgmaa
