/-
  Proved here: slices of heats: how they are read, copied, compared, measured.
  Conditions: the lengths fit an int.
-/
import Derived.Test.YtdbibdecnepobaaGRow
import Derived.Test.YtdbibdecnepobaaHeat3
namespace Go.Proofs.Ytdbibdecnepobaa
open Go.ChangeShapes Go.WideShapes Go.ChangeAt Go.RowKit Go.Joins Go.Deep

def HeatD.cd (x : HeatD) : Nat → CD
  | 0 => .l x.rs
  | _ => .l x.ts
def hsC (hs : List HeatD) : Nat → Nat → CD := fun k => (nth hs k).cd
theorem heats_at {w : World} {b off k : Nat} {hs : List HeatD} (H : ∀ j, j < 2 → CellIs w ⟨b, off + k * 2 + j, none⟩ (hsC hs k j)) :
    ∃ ao ac bo bc, w.cell? ⟨b, off + k * 2, none⟩ = some (.slice ao (nth hs k).rs.length ac) ∧ w.cell? ⟨b, off + k * 2 + 1, none⟩ = some (.slice bo (nth hs k).ts.length bc) ∧
      RowAt w ao 1 (nth hs k).rs.length (ic (nth hs k).rs) ∧ RowAt w bo 1 (nth hs k).ts.length (ic (nth hs k).ts) ∧ (nth hs k).rs.length ≤ 9223372036854775807 ∧ (nth hs k).ts.length ≤ 9223372036854775807 ∧ (nth hs k).rs.length ≤ ac ∧ (nth hs k).ts.length ≤ bc := by
  obtain ⟨ao, ac, e1, r1, c1, n1⟩ := H 0 (by decide)
  obtain ⟨bo, bc, e2, r2, c2, n2⟩ := H 1 (by decide)
  exact ⟨ao, ac, bo, bc, e1, e2, r1, r2, n1, n2, c1, c2⟩

theorem infoHeat : (Try.prog.info? 27).map (fun i => (i.zero, i.size, i.bytes)) = some (some (.agg #[.slice none 0 0, .slice none 0 0]), 2, 48) := by kernel_rfl

set_option maxHeartbeats 1000000 in
theorem laws_toHeatS {ao : Option Addr} {cap : Nat} {hs : List HeatD} {w : World} (h : GRow w ao 2 hs.length (hsC hs)) (hn : hs.length ≤ 1048576) (hb : ∀ k, k < hs.length → (nth hs k).rs.length ≤ 1048576 ∧ (nth hs k).ts.length ≤ 1048576) :
    Calls Try.prog 24 #[.slice ao hs.length cap] w fun e w' => ∃ B, e = .returned (.slice (some ⟨B, 0, none⟩) hs.length hs.length) ∧ Ext w w' ∧ GRow w' (some ⟨B, 0, none⟩) 2 hs.length (hsC hs) := by
  obtain ⟨i0, hi, hz0, hz1, hz2⟩ := info_parts infoHeat
  obtain ⟨n, hN⟩ : ∃ n, n = hs.length := ⟨_, rfl⟩
  rw [← hN] at hn h hb ⊢
  clear hN
  go_enter Try.func24, Try.ntmps24
  go_wp2_with (refine wpList_make_full _ rfl _ _ _ rfl (w.heap.size) 27 i0 _ 2 Try.underlying46 hi hz0 hz1 .i64 .i64 n n n rfl rfl rfl rfl (by rw [hz2]; omega) (by unfold maxLen; omega) (by simp) ?_; intro w1 hown hgrow)
  have hF := GFill.start (c := hsC hs) hown hgrow
  clear hown hgrow hi hz0 hz1 hz2
  go_loopw [4] (fun i wr => ∃ k : Nat, k ≤ n ∧ i = .int .i64 k ∧ GFill w wr w.heap.size 2 n (k * 2) (hsC hs)) (fun i _ => n - (intOf i).toNat)
  case atStart => exact ⟨0, Nat.zero_le _, rfl, by simpa using hF⟩
  case round =>
    clear hF
    obtain ⟨k, hk, rfl, hF⟩ := hrel
    by_cases hlt : k < n
    · obtain ⟨b, off, rfl, hcell⟩ := h (by omega)
      obtain ⟨a1, c1, a2, c2, d0, d1, r1, r2, n1, n2, l1, l2⟩ := heats_at (fun j hj => (hcell k hlt j hj).ext hF.ext)
      obtain ⟨u0, e0⟩ := hF.cell (k * 2) (by omega)
      obtain ⟨u1, e1⟩ := hF.cell (k * 2 + 1) (by omega)
      have f0 := hF.free (k * 2)
      have f1 := hF.free (k * 2 + 1)
      have hsz := hF.size
      have hto := fun x hx => laws_toHeat (w := x) (h := nth hs k) (ac := c1) (bc := c2) (r1.ext hx) (r2.ext hx) (hb k hlt).1 (hb k hlt).2
      unfold HeatD.val at hto
      clear hcell h
      go_wp2_with fail
      refine (hto _ (Ext.refl _)).mono ?_; rintro e w2 ⟨A, D, rfl, hx2, hA, hD, _⟩
      have hc2 := hx2.cellr
      have hf2 := hx2.frozenr
      have hz2 := hx2.size
      clear hto r1 r2
      go_wp2
      have R0 := hF.kept hx2
      have R1 := R0.put_l (i := k) (j := 0) (by decide) (by omega) hlt rfl (hA.mono (by omega)) (Nat.le_refl _) n1
      have R2 := R1.put_l (i := k) (j := 1) (by decide) (by omega) hlt rfl ((hD.mono (B1 := w.heap.size + 1) (by omega)).setCell (by simp) _) (Nat.le_refl _) n2
      go_roundw
      case rel => exact ⟨k + 1, by omega, by go_num, by rw [show (k + 1) * 2 = k * 2 + 1 + 1 by omega]; exact R2⟩
      case measure => simp [intOf]; omega
    · obtain rfl : k = n := by omega
      go_wp2
      go_ret
      exact ⟨_, rfl, hF.ext, hF.row rfl⟩

set_option maxHeartbeats 1000000 in
theorem laws_eqHeatS {ao bo : Option Addr} {cap cap' : Nat} {xs ys : List HeatD} {w : World} (h : GRow w ao 2 xs.length (hsC xs)) (h' : GRow w bo 2 ys.length (hsC ys)) (hn : xs.length ≤ 9223372036854775807) (hn' : ys.length ≤ 9223372036854775807) :
    Calls Try.prog 26 #[.slice ao xs.length cap, .slice bo ys.length cap'] w fun e w' => e = .returned (.bool (eqL HeatD.eqB xs ys)) ∧ Ext w w' := by
  obtain ⟨n, hN⟩ : ∃ n, n = xs.length := ⟨_, rfl⟩
  obtain ⟨m, hM⟩ : ∃ m, m = ys.length := ⟨_, rfl⟩
  have hfin : eqL HeatD.eqB xs ys = (decide (n = m) && upto (fun k => (nth xs k).eqB (nth ys k)) n) := by rw [hN, hM]; rfl
  have HF := Lib.hid hfin; clear hfin
  rw [← hN] at hn h ⊢
  rw [← hM] at hn' h' ⊢
  clear hN hM
  by_cases hnm : n = m
  · subst hnm
    go_enter Try.func26, Try.ntmps26
    go_wp2
    go_loopw [5] (fun i wr => ∃ k : Nat, k ≤ n ∧ i = .int .i64 k ∧ Ext w wr ∧ upto (fun k => (nth xs k).eqB (nth ys k)) k = true) (fun i _ => n - (intOf i).toNat)
    case atStart => exact ⟨0, Nat.zero_le _, rfl, Ext.refl _, rfl⟩
    case round =>
      obtain ⟨k, hk, rfl, hx, hu⟩ := hrel
      have HU := Lib.hid hu; clear hu
      by_cases hlt : k < n
      · obtain ⟨b, off, rfl, hcell⟩ := h (by omega)
        obtain ⟨b', off', rfl, hcell'⟩ := h' (by omega)
        obtain ⟨a1, c1, a2, c2, d0, d1, r1, r2, n1, n2, l1, l2⟩ := heats_at (fun j hj => (hcell k hlt j hj).ext hx)
        obtain ⟨a3, c3, a4, c4, d2, d3, r3, r4, n3, n4, l3, l4⟩ := heats_at (fun j hj => (hcell' k hlt j hj).ext hx)
        have hq := fun x (hX : Ext wr x) => laws_eqHeat (w := x) (x := nth xs k) (y := nth ys k) (ac := c1) (bc := c2) (ac' := c3) (bc' := c4) (r1.ext hX) (r2.ext hX) (r3.ext hX) (r4.ext hX) n1 n2 n3 n4
        unfold HeatD.val at hq
        have g0 := Grow.cells d0
        have g1 := Grow.cells d1
        have g2 := Grow.cells d2
        have g3 := Grow.cells d3
        clear hcell hcell' h h' d0 d1 d2 d3
        cases ht : (nth xs k).eqB (nth ys k)
        all_goals
          rw [ht] at hq
          go_wp2
          refine wp_region_ext (by kernel_rfl) (by kernel_rfl) ?_
          repeat (go_big_quiet_step ((go_at_call 11; with_reducible exact Calls.ext_of (hq _ (Grow.h _)))))
          refine wpQuiet_nil ?_
          rintro _ ⟨⟨w1, hx1⟩, rfl⟩
          clear g0 g1 g2 g3
          go_wp2
        · go_ret
          exact ⟨ret_b (by rw [HF.out, upto_false hlt ht]; simp), (by repeat (first | (with_reducible exact Ext.refl _) | (with_reducible assumption) | with_reducible refine Ext.drew ?_ | with_reducible refine Ext.alloc ?_ _ | with_reducible refine Ext.setCell ?_ (by first | (simp; done) | (simp; omega) | omega) _ | with_reducible refine Ext.trans ?_ (by with_reducible assumption)))⟩
        · go_roundw
          case rel => exact ⟨k + 1, by omega, by go_num, (by repeat (first | (with_reducible exact Ext.refl _) | (with_reducible assumption) | with_reducible refine Ext.drew ?_ | with_reducible refine Ext.alloc ?_ _ | with_reducible refine Ext.setCell ?_ (by first | (simp; done) | (simp; omega) | omega) _ | with_reducible refine Ext.trans ?_ (by with_reducible assumption))), upto_succ HU.out ht⟩
          case measure => simp [intOf]; omega
      · obtain rfl : k = n := by omega
        go_wp2
        go_ret
        exact ⟨ret_b (by rw [HF.out, HU.out]; simp), (by repeat (first | (with_reducible exact Ext.refl _) | (with_reducible assumption) | with_reducible refine Ext.drew ?_ | with_reducible refine Ext.alloc ?_ _ | with_reducible refine Ext.setCell ?_ (by first | (simp; done) | (simp; omega) | omega) _ | with_reducible refine Ext.trans ?_ (by with_reducible assumption)))⟩
  · go_enter Try.func26, Try.ntmps26
    go_wp2
    go_ret
    exact ⟨ret_b (by rw [HF.out]; simp [hnm]), Ext.refl _⟩

theorem laws_szHeat_any {h : HeatD} {ao bo : Option Addr} {ac bc : Nat} {x : Int} {w : World} (n1 : h.rs.length ≤ 9223372036854775807) (n2 : h.ts.length ≤ 9223372036854775807) (h0 : 0 ≤ x) (hx : x ≤ 1048576) :
    Calls Try.prog 7 #[h.val ao ac bo bc, .int .i64 x] w fun e w' => e = .returned (.int .i64 (if (h.rs.length : Int) + h.ts.length ≤ x then x - h.rs.length - h.ts.length else -1)) ∧ Ext w w' := by
  obtain ⟨rs, ts⟩ := h
  dsimp only [HeatD.val] at n1 n2 ⊢
  by_cases c1 : (rs.length : Int) ≤ x
  · by_cases c2 : (rs.length : Int) + ts.length ≤ x
    · rw [if_pos c2]
      go_enter Try.func7, Try.ntmps7
      go_wp2_with fail
      refine (laws_szIntS n1 h0 hx).mono ?_; rintro e w1 ⟨rfl, rfl⟩
      rw [show szI rs.length x = x - (rs.length : Int) by simp [szI]; omega]
      go_wp2_with fail
      refine (laws_szIntS n2 (by omega) (by omega)).mono ?_; rintro e w1 ⟨rfl, rfl⟩
      rw [show szI ts.length (x - (rs.length : Int)) = x - (rs.length : Int) - (ts.length : Int) by simp [szI]; omega]
      go_wp2
      go_ret
      exact ⟨rfl, (by repeat (first | (with_reducible exact Ext.refl _) | (with_reducible assumption) | with_reducible refine Ext.drew ?_ | with_reducible refine Ext.alloc ?_ _ | with_reducible refine Ext.setCell ?_ (by first | (simp; done) | (simp; omega) | omega) _ | with_reducible refine Ext.trans ?_ (by with_reducible assumption)))⟩
    · rw [if_neg c2]
      go_enter Try.func7, Try.ntmps7
      go_wp2_with fail
      refine (laws_szIntS n1 h0 hx).mono ?_; rintro e w1 ⟨rfl, rfl⟩
      rw [show szI rs.length x = x - (rs.length : Int) by simp [szI]; omega]
      go_wp2_with fail
      refine (laws_szIntS n2 (by omega) (by omega)).mono ?_; rintro e w1 ⟨rfl, rfl⟩
      rw [show szI ts.length (x - (rs.length : Int)) = -1 by simp [szI]; omega]
      go_wp2
      go_ret
      exact ⟨rfl, (by repeat (first | (with_reducible exact Ext.refl _) | (with_reducible assumption) | with_reducible refine Ext.drew ?_ | with_reducible refine Ext.alloc ?_ _ | with_reducible refine Ext.setCell ?_ (by first | (simp; done) | (simp; omega) | omega) _ | with_reducible refine Ext.trans ?_ (by with_reducible assumption)))⟩
  · rw [if_neg (by omega)]
    go_enter Try.func7, Try.ntmps7
    go_wp2_with fail
    refine (laws_szIntS n1 h0 hx).mono ?_; rintro e w1 ⟨rfl, rfl⟩
    rw [show szI rs.length x = -1 by simp [szI]; omega]
    go_wp2
    go_ret
    exact ⟨rfl, (by repeat (first | (with_reducible exact Ext.refl _) | (with_reducible assumption) | with_reducible refine Ext.drew ?_ | with_reducible refine Ext.alloc ?_ _ | with_reducible refine Ext.setCell ?_ (by first | (simp; done) | (simp; omega) | omega) _ | with_reducible refine Ext.trans ?_ (by with_reducible assumption)))⟩

set_option maxHeartbeats 1000000 in
theorem laws_szHeatS {ao : Option Addr} {cap : Nat} {hs : List HeatD} {w : World} (h : GRow w ao 2 hs.length (hsC hs)) (hn : hs.length ≤ 9223372036854775807) :
    Calls Try.prog 22 #[.slice ao hs.length cap, .int .i64 1048576] w fun e w' => ∃ r : Int, e = .returned (.int .i64 r) ∧ Ext w w' ∧ (r < 0 ∨ 0 ≤ r ∧ hs.length ≤ 1048576 ∧ ∀ k, k < hs.length → (nth hs k).rs.length ≤ 1048576 ∧ (nth hs k).ts.length ≤ 1048576) := by
  obtain ⟨n, hN⟩ : ∃ n, n = hs.length := ⟨_, rfl⟩
  rw [← hN] at hn h ⊢
  clear hN
  by_cases hle : (n : Int) ≤ 1048576
  · go_enter Try.func22, Try.ntmps22
    go_wp2
    go_loopw [1, 5] (fun l i wr => ∃ (k : Nat) (r : Int), k ≤ n ∧ i = .int .i64 k ∧ l = .int .i64 r ∧ 0 ≤ r ∧ r ≤ 1048576 ∧ Ext w wr ∧ ∀ k', k' < k → (nth hs k').rs.length ≤ 1048576 ∧ (nth hs k').ts.length ≤ 1048576) (fun _ i _ => n - (intOf i).toNat)
    case atStart => exact ⟨0, 1048576 - n, Nat.zero_le _, rfl, rfl, by omega, by omega, Ext.refl _, fun k' hk' => by omega⟩
    case round =>
      obtain ⟨k, r, hk, rfl, rfl, h0, h1, hx, hall⟩ := hrel
      have HA := Lib.hid hall; clear hall
      by_cases hlt : k < n
      · obtain ⟨b, off, rfl, hcell⟩ := h (by omega)
        obtain ⟨a1, c1, a2, c2, d0, d1, r1, r2, n1, n2, l1, l2⟩ := heats_at (fun j hj => (hcell k hlt j hj).ext hx)
        have hq := fun x => laws_szHeat_any (w := x) (h := nth hs k) (ao := a1) (bo := a2) (ac := c1) (bc := c2) n1 n2 h0 h1
        unfold HeatD.val at hq
        clear hcell h
        by_cases hc : ((nth hs k).rs.length : Int) + (nth hs k).ts.length ≤ r
        · rw [if_pos hc] at hq
          go_wp2_with fail
          refine (hq _).mono ?_; rintro e w2 ⟨rfl, hx2⟩
          go_wp2
          go_roundw
          case rel => exact ⟨k + 1, r - (nth hs k).rs.length - (nth hs k).ts.length, by omega, by go_num, rfl, by omega, by omega, (by repeat (first | (with_reducible exact Ext.refl _) | (with_reducible assumption) | with_reducible refine Ext.drew ?_ | with_reducible refine Ext.alloc ?_ _ | with_reducible refine Ext.setCell ?_ (by first | (simp; done) | (simp; omega) | omega) _ | with_reducible refine Ext.trans ?_ (by with_reducible assumption))), fun k' hk' => by by_cases e : k' = k; (subst e; omega); exact HA.out k' (by omega)⟩
          case measure => simp [intOf]; omega
        · rw [if_neg hc] at hq
          go_wp2_with fail
          refine (hq _).mono ?_; rintro e w2 ⟨rfl, hx2⟩
          go_wp2
          go_ret
          exact ⟨-1, rfl, (by repeat (first | (with_reducible exact Ext.refl _) | (with_reducible assumption) | with_reducible refine Ext.drew ?_ | with_reducible refine Ext.alloc ?_ _ | with_reducible refine Ext.setCell ?_ (by first | (simp; done) | (simp; omega) | omega) _ | with_reducible refine Ext.trans ?_ (by with_reducible assumption))), .inl (by omega)⟩
      · obtain rfl : k = n := by omega
        go_wp2
        go_ret
        exact ⟨r, rfl, (by repeat (first | (with_reducible exact Ext.refl _) | (with_reducible assumption) | with_reducible refine Ext.drew ?_ | with_reducible refine Ext.alloc ?_ _ | with_reducible refine Ext.setCell ?_ (by first | (simp; done) | (simp; omega) | omega) _ | with_reducible refine Ext.trans ?_ (by with_reducible assumption))), .inr ⟨h0, by omega, HA.out⟩⟩
  · go_enter Try.func22, Try.ntmps22
    go_wp2
    go_ret
    exact ⟨-1, rfl, Ext.refl _, .inl (by omega)⟩

set_option maxRecDepth 100000 in
/-- An argument that is a slice of heats, opened. -/
theorem open_HeatS {H : Type} {enc : TypeId × Value → H} {w : World} {base : Nat} {v : Value} {d : DataW H} {p : List MemPlace} (hv : Value.okWide Try.prog w .any base 43 v) (h : DataW.Trod enc Try.prog w 0 (fun _ => true) true 43 v d p) :
    ∃ (ao : Option Addr) (cap : Nat) (hs : List HeatD), v = .slice ao hs.length cap ∧ hs.length ≤ 9223372036854775807 ∧ GRow w ao 2 hs.length (hsC hs) ∧ True := by
  obtain ⟨a0, len, cap, rfl⟩ := okWide_slice Try.underlying43 hv
  obtain ⟨fuel, hf⟩ := h
  rcases open_slice_fields Try.underlying43 Try.underlying24 (by kernel_rfl) (by kernel_rfl) hf with ⟨hcs, _⟩ | ⟨a, len', cap', m, Dt, Pl, hcs, _, hl, hm, hmm, _, hi⟩
  · have e : Value.slice a0 len cap = _ := List.singleton_inj.1 hcs
    rw [e]
    exact ⟨none, 0, [], rfl, by simp, fun h => by simp at h, trivial⟩
  · have e : Value.slice a0 len cap = _ := List.singleton_inj.1 hcs
    rw [e]
    have hex : ∀ k, k < len' → ∃ x : HeatD, (∀ j, j < 2 → CellIs w (a.add (k * 2 + j)) (x.cd j)) := by
      intro k hk
      obtain ⟨ys, n, _, _, _, hfj⟩ := hi k (by rw [hmm]; split <;> omega)
      obtain ⟨v0, y0, hc0, _, ht0⟩ := hfj 0 _ rfl
      obtain ⟨v1, y1, hc1, _, ht1⟩ := hfj 1 _ rfl
      obtain ⟨ao, ac, rs, rfl, l0, r0, i0, c0⟩ := trod_IntS ht0
      obtain ⟨bo, bc, ts, rfl, l1, r1, i1, c1⟩ := trod_IntS ht1
      refine ⟨⟨rs, ts⟩, fun j hj => ?_⟩
      match j, hj with
      | 0, _ => exact ⟨ao, ac, hc0, r0, c0, l0⟩
      | 1, _ => exact ⟨bo, bc, hc1, r1, c1, l1⟩
    obtain ⟨hs, hlen, hms⟩ := exists_list hex
    subst hlen
    refine ⟨some a, cap', hs, rfl, by unfold maxLen at hm; omega, ?_, trivial⟩
    intro hpos
    obtain ⟨b, off, spot⟩ := a
    obtain ⟨_, _, h00, _⟩ := hms 0 hpos 0 (by decide)
    have hspot : spot = none := by simpa [Addr.add] using World.cell?_spot h00
    subst hspot
    refine ⟨b, off, rfl, fun k hk j hj => ?_⟩
    rw [Nat.add_assoc, ← Go.WideShapes.add_plain]
    exact hms k hk j hj

end Go.Proofs.Ytdbibdecnepobaa
