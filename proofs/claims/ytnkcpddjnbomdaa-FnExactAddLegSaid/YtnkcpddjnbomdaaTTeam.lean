/-
  Proved here: teams and slices of teams: how they are read, copied, compared, measured.
  Conditions: the lengths fit an int.
-/
import Derived.Test.YtnkcpddjnbomdaaGRow
import Derived.Test.YtnkcpddjnbomdaaTIntS
namespace Go.Proofs.Ytnkcpddjnbomdaa
open Go.ChangeShapes Go.WideShapes Go.ChangeAt Go.RowKit Go.Joins Go.Deep

structure TeamD where
  num : Int
  legs : List Int
instance : Inhabited TeamD := ⟨⟨0, []⟩⟩
def TeamD.val (h : TeamD) (ao : Option Addr) (ac : Nat) : Value := .agg #[.int .i64 h.num, .slice ao h.legs.length ac]
def TeamD.eqB (x y : TeamD) : Bool := x.num == y.num && eqL eqI x.legs y.legs
theorem TeamD.eqB_iff (x y : TeamD) : x.eqB y = true ↔ x = y := by
  cases x; cases y; simp [TeamD.eqB, eqL_iff eqI_iff]
def TeamD.cd (x : TeamD) : Nat → CD
  | 0 => .v (.int .i64 x.num)
  | _ => .l x.legs
def tsC (ts : List TeamD) : Nat → Nat → CD := fun k => (nth ts k).cd
theorem teams_at {w : World} {b off k : Nat} {ts : List TeamD} (H : ∀ j, j < 2 → CellIs w ⟨b, off + k * 2 + j, none⟩ (tsC ts k j)) :
    ∃ ao ac, w.cell? ⟨b, off + k * 2, none⟩ = some (.int .i64 (nth ts k).num) ∧ w.cell? ⟨b, off + k * 2 + 1, none⟩ = some (.slice ao (nth ts k).legs.length ac) ∧
      RowAt w ao 1 (nth ts k).legs.length (ic (nth ts k).legs) ∧ (nth ts k).legs.length ≤ 9223372036854775807 ∧ (nth ts k).legs.length ≤ ac := by
  have e0 := H 0 (by decide)
  obtain ⟨ao, ac, e1, r1, c1, n1⟩ := H 1 (by decide)
  exact ⟨ao, ac, e0, e1, r1, n1, c1⟩

theorem infoTeam : (Try.prog.info? 58).map (fun i => (i.zero, i.size, i.bytes)) = some (some (.agg #[.int .i64 0, .slice none 0 0]), 2, 32) := by kernel_rfl

set_option maxHeartbeats 1000000 in
theorem laws_toTeam {h : TeamD} {ao : Option Addr} {ac : Nat} {w : World} (hr : RowAt w ao 1 h.legs.length (ic h.legs)) (hn : h.legs.length ≤ 1048576) :
    Calls Try.prog 48 #[h.val ao ac] w fun e w' => ∃ A, e = .returned (h.val (some ⟨A, 0, none⟩) h.legs.length) ∧ Ext w w' ∧ FreshAt w.heap.size w' (some ⟨A, 0, none⟩) 1 h.legs.length (ic h.legs) := by
  obtain ⟨num, legs⟩ := h
  dsimp only [TeamD.val] at hr hn ⊢
  go_enter Try.func48, Try.ntmps48
  go_wp2_with fail
  refine (laws_toIntS (hr.ext (by repeat (first | (with_reducible exact Ext.refl _) | (with_reducible assumption) | with_reducible refine Ext.drew ?_ | with_reducible refine Ext.alloc ?_ _ | with_reducible refine Ext.setCell ?_ (by first | (simp; done) | (simp; omega) | omega) _ | with_reducible refine Ext.trans ?_ (by with_reducible assumption)))) hn).mono ?_; rintro e w1 ⟨A, rfl, hx1, hF⟩
  have hc1 := Ext.cellr hx1
  have hf1 := Ext.frozenr hx1
  have hz1 := hx1.size
  simp at hz1
  have r0 : w1.cell? ⟨w.heap.size + 1, 0, none⟩ = some (.int .i64 0) := hx1.cells (by go_simp)
  have r1 : w1.cell? ⟨w.heap.size + 1, 1, none⟩ = some (.slice none 0 0) := hx1.cells (by go_simp)
  have q1 : w1.cell? ⟨w.heap.size + 1 + 1, 1, none⟩ = some (.slice none 0 0) := hx1.cells (by go_simp)
  have q0 : w1.cell? ⟨w.heap.size + 1 + 1, 0, none⟩ = some (.int .i64 num) := hx1.cells (by go_simp)
  have u1 : w1.frozen? ⟨w.heap.size + 1 + 1, 1, none⟩ = false := (hx1.frozenr _ _ (by simp)).trans (by go_simp)
  have u2 : w1.frozen? ⟨w.heap.size + 1, 0, none⟩ = false := (hx1.frozenr _ _ (by simp)).trans (by go_simp)
  have u3 : w1.frozen? ⟨w.heap.size + 1, 1, none⟩ = false := (hx1.frozenr _ _ (by simp)).trans (by go_simp)
  have hF1 := hF.mono (B1 := w.heap.size + 1 + 1 + 1) (by simp)
  clear hc1 hf1 hF hr
  go_wp2
  refine bodyPost_ret (v := .agg #[.int .i64 num, .slice (some ⟨A, 0, none⟩) legs.length legs.length]) ?_ rfl ?_
  · simp [results, Try.results48, go_sem, cell_put, r0, r1]
  · refine ⟨A, rfl, (by repeat (first | (with_reducible exact Ext.refl _) | (with_reducible assumption) | with_reducible refine Ext.drew ?_ | with_reducible refine Ext.alloc ?_ _ | with_reducible refine Ext.setCell ?_ (by first | (simp; done) | (simp; omega) | omega) _ | with_reducible refine Ext.trans ?_ (by with_reducible assumption))), ?_⟩
    exact (((hF1.setCell (by simp) _).setCell (by simp) _).setCell (by simp) _).mono (by omega)

theorem laws_eqTeam {x y : TeamD} {ao ao' : Option Addr} {ac ac' : Nat} {w : World} (h1 : RowAt w ao 1 x.legs.length (ic x.legs)) (h3 : RowAt w ao' 1 y.legs.length (ic y.legs))
    (n1 : x.legs.length ≤ 9223372036854775807) (n3 : y.legs.length ≤ 9223372036854775807) :
    Calls Try.prog 51 #[x.val ao ac, y.val ao' ac'] w fun e w' => e = .returned (.bool (x.eqB y)) ∧ Ext w w' := by
  obtain ⟨rs, ts⟩ := x
  obtain ⟨rs', ts'⟩ := y
  dsimp only [TeamD.val] at h1 h3 n1 n3 ⊢
  have hw0 : Ext w ((w.alloc (Obj.cells #[.int .i64 rs, .slice ao ts.length ac] 58)).alloc (Obj.cells #[.int .i64 rs', .slice ao' ts'.length ac'] 58)) := (by repeat (first | (with_reducible exact Ext.refl _) | (with_reducible assumption) | with_reducible refine Ext.drew ?_ | with_reducible refine Ext.alloc ?_ _ | with_reducible refine Ext.setCell ?_ (by first | (simp; done) | (simp; omega) | omega) _ | with_reducible refine Ext.trans ?_ (by with_reducible assumption)))
  by_cases hq : rs = rs'
  · subst hq
    cases hab : eqL eqI ts ts'
    all_goals
      go_enter Try.func51, Try.ntmps51
      go_wp2_with fail
      refine (laws_eqIntS (h1.ext hw0) (h3.ext hw0) n1 n3).mono ?_; rw [hab]; rintro e w1 ⟨rfl, hx1⟩
      go_wp2
      go_ret
      exact ⟨ret_b (by simp [TeamD.eqB, hab]), (by repeat (first | (with_reducible exact Ext.refl _) | (with_reducible assumption) | with_reducible refine Ext.drew ?_ | with_reducible refine Ext.alloc ?_ _ | with_reducible refine Ext.setCell ?_ (by first | (simp; done) | (simp; omega) | omega) _ | with_reducible refine Ext.trans ?_ (by with_reducible assumption)))⟩
  · have hne : (rs != rs') = true := by simpa using hq
    go_enter Try.func51, Try.ntmps51
    go_wp2
    go_ret
    exact ⟨ret_b (by simp [TeamD.eqB, hq]), (by repeat (first | (with_reducible exact Ext.refl _) | (with_reducible assumption) | with_reducible refine Ext.drew ?_ | with_reducible refine Ext.alloc ?_ _ | with_reducible refine Ext.setCell ?_ (by first | (simp; done) | (simp; omega) | omega) _ | with_reducible refine Ext.trans ?_ (by with_reducible assumption)))⟩

set_option maxHeartbeats 1000000 in
theorem laws_toTeamS {ao : Option Addr} {cap : Nat} {hs : List TeamD} {w : World} (h : GRow w ao 2 hs.length (tsC hs)) (hn : hs.length ≤ 1048576) (hb : ∀ k, k < hs.length → (nth hs k).legs.length ≤ 1048576) :
    Calls Try.prog 9 #[.slice ao hs.length cap] w fun e w' => ∃ B, e = .returned (.slice (some ⟨B, 0, none⟩) hs.length hs.length) ∧ Ext w w' ∧ GRow w' (some ⟨B, 0, none⟩) 2 hs.length (tsC hs) := by
  obtain ⟨i0, hi, hz0, hz1, hz2⟩ := info_parts infoTeam
  obtain ⟨n, hN⟩ : ∃ n, n = hs.length := ⟨_, rfl⟩
  rw [← hN] at hn h hb ⊢
  clear hN
  go_enter Try.func9, Try.ntmps9
  go_wp2_with (refine wpList_make_full _ rfl _ _ _ rfl (w.heap.size) 58 i0 _ 2 Try.underlying24 hi hz0 hz1 .i64 .i64 n n n rfl rfl rfl rfl (by rw [hz2]; omega) (by unfold maxLen; omega) (by simp) ?_; intro w1 hown hgrow)
  have hF := GFill.start (c := tsC hs) hown hgrow
  clear hown hgrow hi hz0 hz1 hz2
  go_loopw [4] (fun i wr => ∃ k : Nat, k ≤ n ∧ i = .int .i64 k ∧ GFill w wr w.heap.size 2 n (k * 2) (tsC hs)) (fun i _ => n - (intOf i).toNat)
  case atStart => exact ⟨0, Nat.zero_le _, rfl, by simpa using hF⟩
  case round =>
    clear hF
    obtain ⟨k, hk, rfl, hF⟩ := hrel
    by_cases hlt : k < n
    · obtain ⟨b, off, rfl, hcell⟩ := h (by omega)
      obtain ⟨a1, c1, d0, d1, r1, n1, l1⟩ := teams_at (fun j hj => (hcell k hlt j hj).ext hF.ext)
      obtain ⟨u0, e0⟩ := hF.cell (k * 2) (by omega)
      obtain ⟨u1, e1⟩ := hF.cell (k * 2 + 1) (by omega)
      have f0 := hF.free (k * 2)
      have f1 := hF.free (k * 2 + 1)
      have hsz := hF.size
      have hto := fun x hx => laws_toTeam (w := x) (h := nth hs k) (ac := c1) (r1.ext hx) (hb k hlt)
      unfold TeamD.val at hto
      clear hcell h
      go_wp2_with fail
      refine (hto _ (Ext.refl _)).mono ?_; rintro e w2 ⟨A, rfl, hx2, hA⟩
      have hc2 := hx2.cellr
      have hf2 := hx2.frozenr
      have hz2 := hx2.size
      clear hto r1
      go_wp2
      have R0 := hF.kept hx2
      have R1 := R0.put_v (i := k) (j := 0) (by decide) (by omega) hlt rfl
      have R2 := R1.put_l (i := k) (j := 1) (by decide) (by omega) hlt rfl ((hA.mono (B1 := w.heap.size + 1) (by omega)).setCell (by simp) _) (Nat.le_refl _) n1
      go_roundw
      case rel => exact ⟨k + 1, by omega, by go_num, by rw [show (k + 1) * 2 = k * 2 + 1 + 1 by omega]; exact R2⟩
      case measure => simp [intOf]; omega
    · obtain rfl : k = n := by omega
      go_wp2
      go_ret
      exact ⟨_, rfl, hF.ext, hF.row rfl⟩

set_option maxHeartbeats 1000000 in
theorem laws_eqTeamS {ao bo : Option Addr} {cap cap' : Nat} {xs ys : List TeamD} {w : World} (h : GRow w ao 2 xs.length (tsC xs)) (h' : GRow w bo 2 ys.length (tsC ys)) (hn : xs.length ≤ 9223372036854775807) (hn' : ys.length ≤ 9223372036854775807) :
    Calls Try.prog 11 #[.slice ao xs.length cap, .slice bo ys.length cap'] w fun e w' => e = .returned (.bool (eqL TeamD.eqB xs ys)) ∧ Ext w w' := by
  obtain ⟨n, hN⟩ : ∃ n, n = xs.length := ⟨_, rfl⟩
  obtain ⟨m, hM⟩ : ∃ m, m = ys.length := ⟨_, rfl⟩
  have hfin : eqL TeamD.eqB xs ys = (decide (n = m) && upto (fun k => (nth xs k).eqB (nth ys k)) n) := by rw [hN, hM]; rfl
  have HF := Lib.hid hfin; clear hfin
  rw [← hN] at hn h ⊢
  rw [← hM] at hn' h' ⊢
  clear hN hM
  by_cases hnm : n = m
  · subst hnm
    go_enter Try.func11, Try.ntmps11
    go_wp2
    go_loopw [5] (fun i wr => ∃ k : Nat, k ≤ n ∧ i = .int .i64 k ∧ Ext w wr ∧ upto (fun k => (nth xs k).eqB (nth ys k)) k = true) (fun i _ => n - (intOf i).toNat)
    case atStart => exact ⟨0, Nat.zero_le _, rfl, Ext.refl _, rfl⟩
    case round =>
      obtain ⟨k, hk, rfl, hx, hu⟩ := hrel
      have HU := Lib.hid hu; clear hu
      by_cases hlt : k < n
      · obtain ⟨b, off, rfl, hcell⟩ := h (by omega)
        obtain ⟨b', off', rfl, hcell'⟩ := h' (by omega)
        obtain ⟨a1, c1, d0, d1, r1, n1, l1⟩ := teams_at (fun j hj => (hcell k hlt j hj).ext hx)
        obtain ⟨a3, c3, d2, d3, r3, n3, l3⟩ := teams_at (fun j hj => (hcell' k hlt j hj).ext hx)
        have hq := fun x (hX : Ext wr x) => laws_eqTeam (w := x) (x := nth xs k) (y := nth ys k) (ac := c1) (ac' := c3) (r1.ext hX) (r3.ext hX) n1 n3
        unfold TeamD.val at hq
        have g0 := Grow.cells d0
        have g1 := Grow.cells d1
        have g2 := Grow.cells d2
        have g3 := Grow.cells d3
        clear hcell hcell' h h' d0 d1 d2 d3
        cases ht : (nth xs k).eqB (nth ys k)
        all_goals
          rw [ht] at hq
          go_wp2
          refine wp_region_ext (by kernel_rfl) (by kernel_rfl) ?_
          repeat (go_big_quiet_step ((go_at_call 51; with_reducible exact Calls.ext_of (hq _ (Grow.h _)))))
          refine wpQuiet_nil ?_
          rintro _ ⟨⟨w1, hx1⟩, rfl⟩
          clear g0 g1 g2 g3
          go_wp2
        · go_ret
          exact ⟨ret_b (by rw [HF.out, upto_false hlt ht]; simp), (by repeat (first | (with_reducible exact Ext.refl _) | (with_reducible assumption) | with_reducible refine Ext.drew ?_ | with_reducible refine Ext.alloc ?_ _ | with_reducible refine Ext.setCell ?_ (by first | (simp; done) | (simp; omega) | omega) _ | with_reducible refine Ext.trans ?_ (by with_reducible assumption)))⟩
        · go_roundw
          case rel => exact ⟨k + 1, by omega, by go_num, (by repeat (first | (with_reducible exact Ext.refl _) | (with_reducible assumption) | with_reducible refine Ext.drew ?_ | with_reducible refine Ext.alloc ?_ _ | with_reducible refine Ext.setCell ?_ (by first | (simp; done) | (simp; omega) | omega) _ | with_reducible refine Ext.trans ?_ (by with_reducible assumption))), upto_succ HU.out ht⟩
          case measure => simp [intOf]; omega
      · obtain rfl : k = n := by omega
        go_wp2
        go_ret
        exact ⟨ret_b (by rw [HF.out, HU.out]; simp), (by repeat (first | (with_reducible exact Ext.refl _) | (with_reducible assumption) | with_reducible refine Ext.drew ?_ | with_reducible refine Ext.alloc ?_ _ | with_reducible refine Ext.setCell ?_ (by first | (simp; done) | (simp; omega) | omega) _ | with_reducible refine Ext.trans ?_ (by with_reducible assumption)))⟩
  · go_enter Try.func11, Try.ntmps11
    go_wp2
    go_ret
    exact ⟨ret_b (by rw [HF.out]; simp [hnm]), Ext.refl _⟩

theorem laws_szTeam {h : TeamD} {ao : Option Addr} {ac : Nat} {x : Int} {w : World} (n1 : h.legs.length ≤ 9223372036854775807) (h0 : 0 ≤ x) (hx : x ≤ 1048576) :
    Calls Try.prog 44 #[h.val ao ac, .int .i64 x] w fun e w' => e = .returned (.int .i64 (szI h.legs.length x)) ∧ Ext w w' := by
  obtain ⟨num, ts⟩ := h
  dsimp only [TeamD.val] at n1 ⊢
  by_cases c1 : (ts.length : Int) ≤ x
  · have hs : szI ts.length x = x - (ts.length : Int) := by simp [szI]; omega
    rw [hs]
    go_enter Try.func44, Try.ntmps44
    go_wp2_with fail
    refine (laws_szIntS n1 h0 hx).mono ?_; rintro e w1 ⟨rfl, rfl⟩
    rw [hs]
    go_wp2
    go_ret
    exact ⟨rfl, (by repeat (first | (with_reducible exact Ext.refl _) | (with_reducible assumption) | with_reducible refine Ext.drew ?_ | with_reducible refine Ext.alloc ?_ _ | with_reducible refine Ext.setCell ?_ (by first | (simp; done) | (simp; omega) | omega) _ | with_reducible refine Ext.trans ?_ (by with_reducible assumption)))⟩
  · have hs : szI ts.length x = -1 := by simp [szI]; omega
    rw [hs]
    go_enter Try.func44, Try.ntmps44
    go_wp2_with fail
    refine (laws_szIntS n1 h0 hx).mono ?_; rintro e w1 ⟨rfl, rfl⟩
    rw [hs]
    go_wp2
    go_ret
    exact ⟨rfl, (by repeat (first | (with_reducible exact Ext.refl _) | (with_reducible assumption) | with_reducible refine Ext.drew ?_ | with_reducible refine Ext.alloc ?_ _ | with_reducible refine Ext.setCell ?_ (by first | (simp; done) | (simp; omega) | omega) _ | with_reducible refine Ext.trans ?_ (by with_reducible assumption)))⟩

set_option maxHeartbeats 1000000 in
theorem laws_szTeamS {ao : Option Addr} {cap : Nat} {hs : List TeamD} {w : World} (h : GRow w ao 2 hs.length (tsC hs)) (hn : hs.length ≤ 9223372036854775807) :
    Calls Try.prog 7 #[.slice ao hs.length cap, .int .i64 1048576] w fun e w' => ∃ r : Int, e = .returned (.int .i64 r) ∧ Ext w w' ∧ (r < 0 ∨ 0 ≤ r ∧ hs.length ≤ 1048576 ∧ ∀ k, k < hs.length → (nth hs k).legs.length ≤ 1048576) := by
  obtain ⟨n, hN⟩ : ∃ n, n = hs.length := ⟨_, rfl⟩
  rw [← hN] at hn h ⊢
  clear hN
  by_cases hle : (n : Int) ≤ 1048576
  · go_enter Try.func7, Try.ntmps7
    go_wp2
    go_loopw [1, 5] (fun l i wr => ∃ (k : Nat) (r : Int), k ≤ n ∧ i = .int .i64 k ∧ l = .int .i64 r ∧ 0 ≤ r ∧ r ≤ 1048576 ∧ Ext w wr ∧ ∀ k', k' < k → (nth hs k').legs.length ≤ 1048576) (fun _ i _ => n - (intOf i).toNat)
    case atStart => exact ⟨0, 1048576 - n, Nat.zero_le _, rfl, rfl, by omega, by omega, Ext.refl _, fun k' hk' => by omega⟩
    case round =>
      obtain ⟨k, r, hk, rfl, rfl, h0, h1, hx, hall⟩ := hrel
      have HA := Lib.hid hall; clear hall
      by_cases hlt : k < n
      · obtain ⟨b, off, rfl, hcell⟩ := h (by omega)
        obtain ⟨a1, c1, d0, d1, r1, n1, l1⟩ := teams_at (fun j hj => (hcell k hlt j hj).ext hx)
        have hq := fun x => laws_szTeam (w := x) (h := nth hs k) (ao := a1) (ac := c1) n1 h0 h1
        unfold TeamD.val at hq
        clear hcell h
        by_cases hc : ((nth hs k).legs.length : Int) ≤ r
        · have hs' : szI (nth hs k).legs.length r = r - ((nth hs k).legs.length : Int) := by simp [szI]; omega
          rw [hs'] at hq
          clear hs'
          go_wp2_with fail
          refine (hq _).mono ?_; rintro e w2 ⟨rfl, hx2⟩
          go_wp2
          go_roundw
          case rel => exact ⟨k + 1, r - (nth hs k).legs.length, by omega, by go_num, rfl, by omega, by omega, (by repeat (first | (with_reducible exact Ext.refl _) | (with_reducible assumption) | with_reducible refine Ext.drew ?_ | with_reducible refine Ext.alloc ?_ _ | with_reducible refine Ext.setCell ?_ (by first | (simp; done) | (simp; omega) | omega) _ | with_reducible refine Ext.trans ?_ (by with_reducible assumption))), fun k' hk' => by by_cases e : k' = k; (subst e; omega); exact HA.out k' (by omega)⟩
          case measure => simp [intOf]; omega
        · have hs' : szI (nth hs k).legs.length r = -1 := by simp [szI]; omega
          rw [hs'] at hq
          clear hs'
          go_wp2_with fail
          refine (hq _).mono ?_; rintro e w2 ⟨rfl, hx2⟩
          go_wp2
          go_ret
          exact ⟨-1, rfl, (by repeat (first | (with_reducible exact Ext.refl _) | (with_reducible assumption) | with_reducible refine Ext.drew ?_ | with_reducible refine Ext.alloc ?_ _ | with_reducible refine Ext.setCell ?_ (by first | (simp; done) | (simp; omega) | omega) _ | with_reducible refine Ext.trans ?_ (by with_reducible assumption))), .inl (by omega)⟩
      · obtain rfl : k = n := by omega
        go_wp2
        go_ret
        exact ⟨r, rfl, (by repeat (first | (with_reducible exact Ext.refl _) | (with_reducible assumption) | with_reducible refine Ext.drew ?_ | with_reducible refine Ext.alloc ?_ _ | with_reducible refine Ext.setCell ?_ (by first | (simp; done) | (simp; omega) | omega) _ | with_reducible refine Ext.trans ?_ (by with_reducible assumption))), .inr ⟨h0, by omega, HA.out⟩⟩
  · go_enter Try.func7, Try.ntmps7
    go_wp2
    go_ret
    exact ⟨-1, rfl, Ext.refl _, .inl (by omega)⟩

set_option maxRecDepth 100000 in
/-- An argument that is a slice of teams, opened. -/
theorem open_TeamS {H : Type} {enc : TypeId × Value → H} {w : World} {base : Nat} {v : Value} {d : DataW H} {p : List MemPlace} (hv : Value.okWide Try.prog w .any base 22 v) (h : DataW.Trod enc Try.prog w 0 (fun _ => true) true 22 v d p) :
    ∃ (ao : Option Addr) (cap : Nat) (hs : List TeamD), v = .slice ao hs.length cap ∧ hs.length ≤ 9223372036854775807 ∧ GRow w ao 2 hs.length (tsC hs) ∧ True := by
  obtain ⟨a0, len, cap, rfl⟩ := okWide_slice Try.underlying22 hv
  obtain ⟨fuel, hf⟩ := h
  rcases open_slice_fields Try.underlying22 Try.underlying62 (by kernel_rfl) (by kernel_rfl) hf with ⟨hcs, _⟩ | ⟨a, len', cap', m, Dt, Pl, hcs, _, hl, hm, hmm, _, hi⟩
  · have e : Value.slice a0 len cap = _ := List.singleton_inj.1 hcs
    rw [e]
    exact ⟨none, 0, [], rfl, by simp, fun h => by simp at h, trivial⟩
  · have e : Value.slice a0 len cap = _ := List.singleton_inj.1 hcs
    rw [e]
    have hex : ∀ k, k < len' → ∃ x : TeamD, (∀ j, j < 2 → CellIs w (a.add (k * 2 + j)) (x.cd j)) := by
      intro k hk
      obtain ⟨ys, n, _, _, _, hfj⟩ := hi k (by rw [hmm]; split <;> omega)
      obtain ⟨v0, y0, hc0, _, ht0⟩ := hfj 0 _ rfl
      obtain ⟨v1, y1, hc1, _, ht1⟩ := hfj 1 _ rfl
      obtain ⟨x0, ex0, _, wx0⟩ := DataW.trod_int Try.underlying3 ht0
      obtain rfl : v0 = _ := List.singleton_inj.1 ex0
      obtain ⟨bo, bc, ts, rfl, l1, r1, i1, c1⟩ := trod_IntS ht1
      refine ⟨⟨x0, ts⟩, fun j hj => ?_⟩
      match j, hj with
      | 0, _ => exact hc0
      | 1, _ => exact ⟨bo, bc, hc1, r1, c1, l1⟩
    obtain ⟨hs, hlen, hms⟩ := exists_list hex
    subst hlen
    refine ⟨some a, cap', hs, rfl, by unfold maxLen at hm; omega, ?_, trivial⟩
    intro hpos
    obtain ⟨b, off, spot⟩ := a
    have h00 : w.cell? _ = some _ := hms 0 hpos 0 (by decide)
    have hspot : spot = none := by simpa [Addr.add] using World.cell?_spot h00
    subst hspot
    refine ⟨b, off, rfl, fun k hk j hj => ?_⟩
    rw [Nat.add_assoc, ← Go.WideShapes.add_plain]
    exact hms k hk j hj

end Go.Proofs.Ytnkcpddjnbomdaa
