/-
  Proved here: teams in memory of the call's own: how they are copied there, marked, held.
  Conditions: the lengths fit an int.
-/
import Derived.Test.YtnkcpddjnbomdaaTTeam
import Derived.Test.YtnkcpddjnbomdaaMarkInts
import Derived.Test.YtnkcpddjnbomdaaTouch
namespace Go.Proofs.Ytnkcpddjnbomdaa
open Go.RowKit

/-- n teams in memory from B0 on, no two slices in one block: outer block b, legs' blocks A; numbers nu, legs' lengths ln, capacities cp, legs c -/
structure TeamsF (B0 : Nat) (w : World) (b n : Nat) (A : Nat → Nat) (nu : Nat → Int) (ln cp : Nat → Nat) (c : Nat → Nat → Nat → Value) : Prop where
  base : B0 ≤ b ∧ b < w.heap.size
  free : ∀ j, w.frozen? ⟨b, j, none⟩ = false
  num : ∀ k, k < n → w.cell? ⟨b, k * 2, none⟩ = some (.int .i64 (nu k))
  legs : ∀ k, k < n → w.cell? ⟨b, k * 2 + 1, none⟩ = some (.slice (some ⟨A k, 0, none⟩) (ln k) (cp k))
  inner : ∀ k, k < n → FreshAt B0 w (some ⟨A k, 0, none⟩) 1 (ln k) (c k)
  apart : ∀ k, k < n → A k ≠ b
  apart2 : ∀ k k', k < n → k' < n → k ≠ k' → A k ≠ A k'
theorem TeamsF.ext {B0 : Nat} {w w' : World} {b n : Nat} {A : Nat → Nat} {nu : Nat → Int} {ln cp : Nat → Nat} {c : Nat → Nat → Nat → Value} (h : TeamsF B0 w b n A nu ln cp c) (hx : Ext w w') : TeamsF B0 w' b n A nu ln cp c where
  base := ⟨h.base.1, Nat.lt_of_lt_of_le h.base.2 hx.size⟩
  free := fun j => (hx.frozenr _ _ h.base.2).trans (h.free j)
  num := fun k hk => hx.cells (h.num k hk)
  legs := fun k hk => hx.cells (h.legs k hk)
  inner := fun k hk => (h.inner k hk).ext hx
  apart := h.apart
  apart2 := h.apart2
theorem TeamsF.touch {B0 : Nat} {w w' : World} {b n : Nat} {A : Nat → Nat} {nu : Nat → Int} {ln cp : Nat → Nat} {c : Nat → Nat → Nat → Value} {S : Nat → Prop} (h : TeamsF B0 w b n A nu ln cp c) (ht : Touch w w' S) (hb : ¬ S b) (hA : ∀ k, k < n → ¬ S (A k)) : TeamsF B0 w' b n A nu ln cp c where
  base := ⟨h.base.1, Nat.lt_of_lt_of_le h.base.2 ht.size⟩
  free := fun j => (ht.frozen h.base.2 hb).trans (h.free j)
  num := fun k hk => (ht.cell h.base.2 hb).trans (h.num k hk)
  legs := fun k hk => (ht.cell h.base.2 hb).trans (h.legs k hk)
  inner := fun k hk => (h.inner k hk).touch ht (fun a e => by injection e with e; subst e; exact hA k hk)
  apart := h.apart
  apart2 := h.apart2
/-- the blocks of such teams -/
def TeamsF.set (b n : Nat) (A : Nat → Nat) : Nat → Prop := fun k => k = b ∨ ∃ i, i < n ∧ k = A i

/-- as plain data -/
def tnum (ts : List TeamD) (k : Nat) : Int := (nth ts k).num
def tlen (ts : List TeamD) (k : Nat) : Nat := (nth ts k).legs.length
def tleg (ts : List TeamD) (k : Nat) : Nat → Nat → Value := ic (nth ts k).legs
theorem TeamsF.row {B0 : Nat} {w : World} {b : Nat} {A : Nat → Nat} {cp : Nat → Nat} {ts : List TeamD} (h : TeamsF B0 w b ts.length A (tnum ts) (tlen ts) cp (tleg ts)) (hc : ∀ k, k < ts.length → tlen ts k ≤ cp k) (hn : ∀ k, k < ts.length → tlen ts k ≤ 9223372036854775807) : GRow w (some ⟨b, 0, none⟩) 2 ts.length (tsC ts) := fun _ => by
  refine ⟨b, 0, rfl, fun k hk j hj => ?_⟩
  match j, hj with
  | 0, _ => have := h.num k hk; simpa [CellIs, tsC, TeamD.cd, tnum] using this
  | 1, _ =>
    have h1 := h.legs k hk
    exact ⟨_, _, by simpa [tlen] using h1, (h.inner k hk).row, hc k hk, hn k hk⟩

/-- Block b is being filled with teams: k rows are done. -/
structure TFill (w wr : World) (b n k : Nat) (A : Nat → Nat) (ts : List TeamD) : Prop where
  ext : Ext w wr
  base : w.heap.size ≤ b
  size : b < wr.heap.size
  cell : ∀ j, j < n * 2 → ∃ u, wr.cell? ⟨b, j, none⟩ = some u
  free : ∀ j, wr.frozen? ⟨b, j, none⟩ = false
  num : ∀ i, i < k → wr.cell? ⟨b, i * 2, none⟩ = some (.int .i64 (tnum ts i))
  legs : ∀ i, i < k → wr.cell? ⟨b, i * 2 + 1, none⟩ = some (.slice (some ⟨A i, 0, none⟩) (tlen ts i) (tlen ts i))
  inner : ∀ i, i < k → FreshAt (b + 1) wr (some ⟨A i, 0, none⟩) 1 (tlen ts i) (tleg ts i)
  apart2 : ∀ i j, i < k → j < k → i ≠ j → A i ≠ A j

theorem TFill.step {w wr w2 : World} {b n k : Nat} {A : Nat → Nat} {ts : List TeamD} (h : TFill w wr b n k A ts) (hk : k < n) (hx : Ext wr w2) {g : Nat} (hg : FreshAt wr.heap.size w2 (some ⟨g, 0, none⟩) 1 (tlen ts k) (tleg ts k)) :
    TFill w ((w2.setCell ⟨b, k * 2, none⟩ (.int .i64 (tnum ts k))).setCell ⟨b, k * 2 + 1, none⟩ (.slice (some ⟨g, 0, none⟩) (tlen ts k) (tlen ts k))) b n (k + 1) (fun i => if i = k then g else A i) ts := by
  have hgb := hg.base _ rfl
  have hbs := h.size
  simp only at hgb
  have hs2 : b < w2.heap.size := Nat.lt_of_lt_of_le hbs hx.size
  obtain ⟨u0, e0⟩ := h.cell (k * 2) (by omega)
  obtain ⟨u1, e1⟩ := h.cell (k * 2 + 1) (by omega)
  have e0' := hx.cells e0
  have e1' := hx.cells e1
  have hc : ∀ q, q ≠ k * 2 → q ≠ k * 2 + 1 → ((w2.setCell ⟨b, k * 2, none⟩ (.int .i64 (tnum ts k))).setCell ⟨b, k * 2 + 1, none⟩ (.slice (some ⟨g, 0, none⟩) (tlen ts k) (tlen ts k))).cell? ⟨b, q, none⟩ = w2.cell? ⟨b, q, none⟩ := fun q h1 h2 =>
    (World.cell?_setCell_other _ _ _ _ (fun e' => h2 (by injection e' with _ e2; omega))).trans (World.cell?_setCell_other _ _ _ _ (fun e' => h1 (by injection e' with _ e2; omega)))
  refine ⟨((h.ext.trans hx).setCell h.base _).setCell h.base _, h.base, by simpa [World.setCell] using hs2, fun j hj => ?_, fun j => ?_, fun i hi => ?_, fun i hi => ?_, fun i hi => ?_, fun i j hi hj hij => ?_⟩
  · by_cases q1 : j = k * 2 + 1
    · subst q1
      exact ⟨_, World.cell?_setCell_same _ _ _ ((World.cell?_setCell_other _ _ _ _ (fun e' => by injection e' with _ e2; omega)).trans e1')⟩
    · by_cases q0 : j = k * 2
      · subst q0
        exact ⟨_, (World.cell?_setCell_other _ _ _ _ (fun e' => by injection e' with _ e2; omega)).trans (World.cell?_setCell_same _ _ _ e0')⟩
      · obtain ⟨u, hu⟩ := h.cell j hj
        exact ⟨u, (hc j q0 q1).trans (hx.cells hu)⟩
  · rw [World.frozen?_setCell, World.frozen?_setCell]
    exact (hx.frozenr _ _ hbs).trans (h.free j)
  · by_cases q : i = k
    · subst q
      exact (World.cell?_setCell_other _ _ _ _ (fun e' => by injection e' with _ e2; omega)).trans (World.cell?_setCell_same _ _ _ e0')
    · rw [hc _ (by omega) (by omega)]
      exact hx.cells (h.num i (by omega))
  · by_cases q : i = k
    · subst q
      simp only [if_true]
      exact World.cell?_setCell_same _ _ _ ((World.cell?_setCell_other _ _ _ _ (fun e' => by injection e' with _ e2; omega)).trans e1')
    · simp only [q, if_false]
      rw [hc _ (by omega) (by omega)]
      exact hx.cells (h.legs i (by omega))
  · by_cases q : i = k
    · subst q
      simp only [if_true]
      exact ((hg.mono (by omega)).setCell (by simp) _).setCell (by simp) _
    · simp only [q, if_false]
      exact (((h.inner i (by omega)).ext hx).setCell (by simp) _).setCell (by simp) _
  · by_cases qi : i = k
    · by_cases qj : j = k
      · omega
      · have := (h.inner j (by omega)).base _ rfl
        simp only [qi, qj, if_true, if_false]
        simp only at this
        omega
    · by_cases qj : j = k
      · have := (h.inner i (by omega)).base _ rfl
        simp only [qi, qj, if_true, if_false]
        simp only at this
        omega
      · simp only [qi, qj, if_false]
        exact h.apart2 i j (by omega) (by omega) hij

set_option maxHeartbeats 1000000 in
theorem laws_toTeamF {ao : Option Addr} {cap : Nat} {ts : List TeamD} {w : World} (h : GRow w ao 2 ts.length (tsC ts)) (hn : ts.length ≤ 1048576) (hb : ∀ k, k < ts.length → (nth ts k).legs.length ≤ 1048576) :
    Calls Try.prog 9 #[.slice ao ts.length cap] w fun e w' => ∃ B A, e = .returned (.slice (some ⟨B, 0, none⟩) ts.length ts.length) ∧ Ext w w' ∧ TeamsF w.heap.size w' B ts.length A (tnum ts) (tlen ts) (tlen ts) (tleg ts) := by
  obtain ⟨i0, hi, hz0, hz1, hz2⟩ := info_parts infoTeam
  obtain ⟨n, hN⟩ : ∃ n, n = ts.length := ⟨_, rfl⟩
  rw [← hN] at hn h hb ⊢
  clear hN
  go_enter Try.func9, Try.ntmps9
  go_wp2_with (refine wpList_make_full _ rfl _ _ _ rfl (w.heap.size) 58 i0 _ 2 Try.underlying24 hi hz0 hz1 .i64 .i64 n n n rfl rfl rfl rfl (by rw [hz2]; omega) (by unfold maxLen; omega) (by simp) ?_; intro w1 hown hgrow)
  have hG := GFill.start (c := tsC ts) hown hgrow
  have hF : TFill w w1 w.heap.size n 0 (fun _ => 0) ts := ⟨hG.ext, hG.base, hG.size, hG.cell, hG.free, fun i hi => by omega, fun i hi => by omega, fun i hi => by omega, fun i j hi => by omega⟩
  clear hown hgrow hi hz0 hz1 hz2 hG
  go_loopw [4] (fun i wr => ∃ (k : Nat) (A : Nat → Nat), k ≤ n ∧ i = .int .i64 k ∧ TFill w wr w.heap.size n k A ts) (fun i _ => n - (intOf i).toNat)
  case atStart => exact ⟨0, _, Nat.zero_le _, rfl, hF⟩
  case round =>
    clear hF
    obtain ⟨k, A, hk, rfl, hF⟩ := hrel
    by_cases hlt : k < n
    · obtain ⟨b, off, rfl, hcell⟩ := h (by omega)
      obtain ⟨a1, c1, d0, d1, r1, n1, l1⟩ := teams_at (fun j hj => (hcell k hlt j hj).ext hF.ext)
      obtain ⟨u0, e0⟩ := hF.cell (k * 2) (by omega)
      obtain ⟨u1, e1⟩ := hF.cell (k * 2 + 1) (by omega)
      have f0 := hF.free (k * 2)
      have f1 := hF.free (k * 2 + 1)
      have hsz := hF.size
      have hto := fun x hx => laws_toTeam (w := x) (h := nth ts k) (ac := c1) (r1.ext hx) (hb k hlt)
      unfold TeamD.val at hto
      clear hcell h
      go_wp2_with fail
      refine (hto _ (Ext.refl _)).mono ?_; rintro e w2 ⟨g, rfl, hx2, hA⟩
      have hc2 := hx2.cellr
      have hf2 := hx2.frozenr
      have hz2 := hx2.size
      clear hto r1
      go_wp2
      have R := hF.step hlt hx2 hA
      go_roundw
      case rel => exact ⟨k + 1, _, by omega, by go_num, R⟩
      case measure => simp [intOf]; omega
    · obtain rfl : k = n := by omega
      go_wp2
      go_ret
      refine ⟨_, A, rfl, hF.ext, ⟨hF.base, hF.size⟩, hF.free, hF.num, hF.legs, fun i hi => (hF.inner i hi).mono (by omega), fun i hi e => ?_, hF.apart2⟩
      have := (hF.inner i hi).base _ rfl
      simp only at this
      omega

/-- the marks: the number that team k bears, the number behind all -/
def tkU (ln : Nat → Nat) (k0 : Int) : Nat → Int
  | 0 => k0
  | k + 1 => tkU ln k0 k + 1 + ln k
theorem tkU_bd {ln : Nat → Nat} {k0 : Int} (h : ∀ k, ln k ≤ 1048577) (k : Nat) : k0 ≤ tkU ln k0 k ∧ tkU ln k0 k ≤ k0 + 1048578 * k := by
  induction k with
  | zero => simp [tkU]
  | succ k ih => have := h k; rw [tkU]; omega

theorem TeamsF.setNum {B0 : Nat} {w : World} {b n : Nat} {A : Nat → Nat} {nu : Nat → Int} {ln cp : Nat → Nat} {c : Nat → Nat → Nat → Value} (h : TeamsF B0 w b n A nu ln cp c) {k : Nat} (hk : k < n) (v : Int) :
    TeamsF B0 (w.setCell ⟨b, k * 2, none⟩ (.int .i64 v)) b n A (fun j => if j = k then v else nu j) ln cp c where
  base := ⟨h.base.1, by simpa [World.setCell] using h.base.2⟩
  free := fun j => by rw [World.frozen?_setCell]; exact h.free j
  num := fun j hj => by
    by_cases e : j = k
    · subst e
      simp only [if_true]
      exact World.cell?_setCell_same _ _ _ (h.num j hj)
    · simp only [e, if_false]
      exact (World.cell?_setCell_other _ _ _ _ (fun e' => by injection e' with _ e2; omega)).trans (h.num j hj)
  legs := fun j hj => (World.cell?_setCell_other _ _ _ _ (fun e' => by injection e' with _ e2; omega)).trans (h.legs j hj)
  inner := fun j hj => by
    have ha := h.apart j hj
    have h1 := h.inner j hj
    refine ⟨fun hn => ?_, fun a e => by simpa [World.setCell] using h1.base a e, fun b' off e q => by rw [World.frozen?_setCell]; exact h1.free b' off e q⟩
    obtain ⟨b', off, e, H⟩ := h1.row hn
    refine ⟨b', off, e, fun q hq j' hj' => (World.cell?_setCell_other _ _ _ _ (fun e' => ?_)).trans (H q hq j' hj')⟩
    injection e with e
    injection e with e1 e2
    injection e' with e3 e4
    omega
  apart := h.apart
  apart2 := h.apart2
theorem TeamsF.setLeg {B0 : Nat} {w w' : World} {b n : Nat} {A : Nat → Nat} {nu : Nat → Int} {ln cp : Nat → Nat} {c : Nat → Nat → Nat → Value} (h : TeamsF B0 w b n A nu ln cp c) {k : Nat} (hk : k < n) (hg : w.grownBy w' (some (A k))) {c' : Nat → Nat → Value} (hF : FreshAt B0 w' (some ⟨A k, 0, none⟩) 1 (ln k) c') :
    TeamsF B0 w' b n A nu ln cp (fun j => if j = k then c' else c j) where
  base := ⟨h.base.1, Nat.lt_of_lt_of_le h.base.2 hg.size⟩
  free := fun j => (grown_frozen hg h.base.2 (fun e => by injection e with e; exact h.apart k hk e)).trans (h.free j)
  num := fun j hj => (grown_cell hg h.base.2 (fun e => by injection e with e; exact h.apart k hk e)).trans (h.num j hj)
  legs := fun j hj => (grown_cell hg h.base.2 (fun e => by injection e with e; exact h.apart k hk e)).trans (h.legs j hj)
  inner := fun j hj => by
    by_cases e : j = k
    · subst e; simpa using hF
    · simp only [e, if_false]
      exact (h.inner j hj).grown hg (fun a ea e' => by injection ea with ea; subst ea; injection e' with e'; exact h.apart2 j k hj hk e e'.symm)
  apart := h.apart
  apart2 := h.apart2

set_option maxHeartbeats 1000000 in
theorem laws_markTeamF {B0 b n cap : Nat} {A : Nat → Nat} {nu : Nat → Int} {ln cp : Nat → Nat} {c : Nat → Nat → Nat → Value} {k0 : Int} {w : World} (h : TeamsF B0 w b n A nu ln cp c) (hn : n ≤ 1048577) (hl : ∀ k, ln k ≤ 1048577) (h0 : 0 ≤ k0) (h1 : k0 ≤ 1048577) :
    Calls Try.prog 12 #[.slice (some ⟨b, 0, none⟩) n cap, .int .i64 k0] w fun e w' => e = .returned (.int .i64 (tkU ln k0 n)) ∧ Touch w w' (TeamsF.set b n A) ∧ TeamsF B0 w' b n A (tkU ln k0) ln cp (fun k => mkI (tkU ln k0 k + 1)) := by
  have hst : TeamsF B0 w b n A (fun j => if j < 0 then tkU ln k0 j else nu j) ln cp (fun j => if j < 0 then mkI (tkU ln k0 j + 1) else c j) := by simpa using h
  clear h
  have HL := Lib.hid hl; clear hl
  go_enter Try.func12, Try.ntmps12
  go_wp2
  go_loopw [1, 5] (fun q i wr => ∃ k : Nat, k ≤ n ∧ i = .int .i64 k ∧ q = .int .i64 (tkU ln k0 k) ∧ Touch w wr (TeamsF.set b n A) ∧ TeamsF B0 wr b n A (fun j => if j < k then tkU ln k0 j else nu j) ln cp (fun j => if j < k then mkI (tkU ln k0 j + 1) else c j)) (fun _ i _ => n - (intOf i).toNat)
  case atStart => exact ⟨0, Nat.zero_le _, rfl, rfl, Touch.refl _ _, hst⟩
  case round =>
    clear hst
    obtain ⟨k, hk, rfl, rfl, hT, hF⟩ := hrel
    have hbd := tkU_bd (k0 := k0) HL.out k
    by_cases hlt : k < n
    · have hlk := HL.out k
      have e0 := hF.num k hlt
      have f0 := hF.free (k * 2)
      have e1 := hF.legs k hlt
      have hF1 := hF.setNum hlt (tkU ln k0 k)
      have e1' := hF1.legs k hlt
      have hin := hF1.inner k hlt
      have hm := laws_markIntS (cap := cp k) hin (by omega) (show 0 ≤ tkU ln k0 k + 1 by omega) (by omega)
      have HF1 := Lib.hid hF1
      have HTT := Lib.hid hT; clear hT
      clear hF hF1 hin
      go_wp2_with fail
      refine hm.mono ?_; rintro e w2 ⟨rfl, hg2, hN2⟩
      have R := HF1.out.setLeg hlt hg2 hN2
      have hT2 : Touch w w2 (TeamsF.set b n A) := (HTT.out.trans (Touch.set (.inl rfl))).trans (Touch.of_grown hg2 (fun q e => by simp only [blk, Option.map_some] at e; injection e with e; exact .inr ⟨k, hlt, e.symm⟩))
      clear hm hg2 hN2 e0 f0 e1 e1'
      go_wp2
      go_roundw
      case rel =>
        refine ⟨k + 1, by omega, by go_num, by rw [tkU], hT2, ?_⟩
        have q1 : (fun j => if j < k + 1 then tkU ln k0 j else nu j) = fun j => if j = k then tkU ln k0 k else if j < k then tkU ln k0 j else nu j := by
          funext j
          by_cases e : j = k
          · subst e; simp
          · simp only [e, if_false]
            by_cases e2 : j < k
            · rw [if_pos e2, if_pos (by omega)]
            · rw [if_neg e2, if_neg (by omega)]
        have q2 : (fun j => if j < k + 1 then mkI (tkU ln k0 j + 1) else c j) = fun j => if j = k then mkI (tkU ln k0 k + 1) else if j < k then mkI (tkU ln k0 j + 1) else c j := by
          funext j
          by_cases e : j = k
          · subst e; simp
          · simp only [e, if_false]
            by_cases e2 : j < k
            · rw [if_pos e2, if_pos (by omega)]
            · rw [if_neg e2, if_neg (by omega)]
        rw [q1, q2]
        exact R
      case measure => simp [intOf]; omega
    · obtain rfl : k = n := by omega
      go_wp2
      go_ret
      refine ⟨rfl, hT, hF.base, hF.free, fun j hj => ?_, hF.legs, fun j hj => ?_, hF.apart, hF.apart2⟩
      · have := hF.num j hj; rwa [if_pos hj] at this
      · have := hF.inner j hj; rwa [if_pos hj] at this

end Go.Proofs.Ytnkcpddjnbomdaa
