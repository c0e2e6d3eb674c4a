/-
  Proved here: teams in memory of the call's own: how they are copied there, marked, held.
  Conditions: the lengths fit an int.
-/
import Derived.Test.YtlpogglcbphilaaTTeam
import Derived.Test.YtlpogglcbphilaaMarkInts
import Derived.Test.YtlpogglcbphilaaTouch
namespace Go.Proofs.Ytlpogglcbphilaa
open Go.RowKit

/-- n teams in memory from B0 on, no two slices in one block: outer block b, legs' blocks A; numbers nu, legs' lengths ln, capacities cp, legs c -/
structure TeamsF (B0 : Nat) (w : World) (b n : Nat) (A : Nat → Nat) (nu : Nat → Int) (ln cp : Nat → Nat) (c : Nat → Nat → Nat → Value) : Prop where
  base : B0 ≤ b ∧ b < w.heap.size
  free : ∀ j, w.frozen? ⟨b, j, none⟩ = false
  num : ∀ k, k < n → w.cell? ⟨b, k * 2, none⟩ = some (.int .i64 (nu k))
  legs : ∀ k, k < n → w.cell? ⟨b, k * 2 + 1, none⟩ = some (.slice (some ⟨A k, 0, none⟩) (ln k) (cp k))
  inner : ∀ k, k < n → FreshAt B0 w (some ⟨A k, 0, none⟩) 1 (ln k) (c k)
  apart : ∀ k, k < n → A k ≠ b
  apart2 : ∀ k k', k < n → k' < n → k ≠ k' → A k ≠ A k'
theorem TeamsF.ext {B0 : Nat} {w w' : World} {b n : Nat} {A : Nat → Nat} {nu : Nat → Int} {ln cp : Nat → Nat} {c : Nat → Nat → Nat → Value} (h : TeamsF B0 w b n A nu ln cp c) (hx : Ext w w') : TeamsF B0 w' b n A nu ln cp c where
  base := ⟨h.base.1, Nat.lt_of_lt_of_le h.base.2 hx.size⟩
  free := fun j => (hx.frozenr _ _ h.base.2).trans (h.free j)
  num := fun k hk => hx.cells (h.num k hk)
  legs := fun k hk => hx.cells (h.legs k hk)
  inner := fun k hk => (h.inner k hk).ext hx
  apart := h.apart
  apart2 := h.apart2
theorem TeamsF.touch {B0 : Nat} {w w' : World} {b n : Nat} {A : Nat → Nat} {nu : Nat → Int} {ln cp : Nat → Nat} {c : Nat → Nat → Nat → Value} {S : Nat → Prop} (h : TeamsF B0 w b n A nu ln cp c) (ht : Touch w w' S) (hb : ¬ S b) (hA : ∀ k, k < n → ¬ S (A k)) : TeamsF B0 w' b n A nu ln cp c where
  base := ⟨h.base.1, Nat.lt_of_lt_of_le h.base.2 ht.size⟩
  free := fun j => (ht.frozen h.base.2 hb).trans (h.free j)
  num := fun k hk => (ht.cell h.base.2 hb).trans (h.num k hk)
  legs := fun k hk => (ht.cell h.base.2 hb).trans (h.legs k hk)
  inner := fun k hk => (h.inner k hk).touch ht (fun a e => by injection e with e; subst e; exact hA k hk)
  apart := h.apart
  apart2 := h.apart2
/-- the blocks of such teams -/
def TeamsF.set (b n : Nat) (A : Nat → Nat) : Nat → Prop := fun k => k = b ∨ ∃ i, i < n ∧ k = A i

/-- as plain data -/
def tnum (ts : List TeamD) (k : Nat) : Int := (nth ts k).num
def tlen (ts : List TeamD) (k : Nat) : Nat := (nth ts k).legs.length
def tleg (ts : List TeamD) (k : Nat) : Nat → Nat → Value := ic (nth ts k).legs
theorem TeamsF.row {B0 : Nat} {w : World} {b : Nat} {A : Nat → Nat} {cp : Nat → Nat} {ts : List TeamD} (h : TeamsF B0 w b ts.length A (tnum ts) (tlen ts) cp (tleg ts)) (hc : ∀ k, k < ts.length → tlen ts k ≤ cp k) (hn : ∀ k, k < ts.length → tlen ts k ≤ 9223372036854775807) : GRow w (some ⟨b, 0, none⟩) 2 ts.length (tsC ts) := fun _ => by
  refine ⟨b, 0, rfl, fun k hk j hj => ?_⟩
  match j, hj with
  | 0, _ => have := h.num k hk; simpa [CellIs, tsC, TeamD.cd, tnum] using this
  | 1, _ =>
    have h1 := h.legs k hk
    exact ⟨_, _, by simpa [tlen] using h1, (h.inner k hk).row, hc k hk, hn k hk⟩

/-- Block b is being filled with teams: k rows are done. -/
structure TFill (w wr : World) (b n k : Nat) (A : Nat → Nat) (ts : List TeamD) : Prop where
  ext : Ext w wr
  base : w.heap.size ≤ b
  size : b < wr.heap.size
  cell : ∀ j, j < n * 2 → ∃ u, wr.cell? ⟨b, j, none⟩ = some u
  free : ∀ j, wr.frozen? ⟨b, j, none⟩ = false
  num : ∀ i, i < k → wr.cell? ⟨b, i * 2, none⟩ = some (.int .i64 (tnum ts i))
  legs : ∀ i, i < k → wr.cell? ⟨b, i * 2 + 1, none⟩ = some (.slice (some ⟨A i, 0, none⟩) (tlen ts i) (tlen ts i))
  inner : ∀ i, i < k → FreshAt (b + 1) wr (some ⟨A i, 0, none⟩) 1 (tlen ts i) (tleg ts i)
  apart2 : ∀ i j, i < k → j < k → i ≠ j → A i ≠ A j

theorem TFill.step {w wr w2 : World} {b n k : Nat} {A : Nat → Nat} {ts : List TeamD} (h : TFill w wr b n k A ts) (hk : k < n) (hx : Ext wr w2) {g : Nat} (hg : FreshAt wr.heap.size w2 (some ⟨g, 0, none⟩) 1 (tlen ts k) (tleg ts k)) :
    TFill w ((w2.setCell ⟨b, k * 2, none⟩ (.int .i64 (tnum ts k))).setCell ⟨b, k * 2 + 1, none⟩ (.slice (some ⟨g, 0, none⟩) (tlen ts k) (tlen ts k))) b n (k + 1) (fun i => if i = k then g else A i) ts := by
  have hgb := hg.base _ rfl
  have hbs := h.size
  simp only at hgb
  have hs2 : b < w2.heap.size := Nat.lt_of_lt_of_le hbs hx.size
  obtain ⟨u0, e0⟩ := h.cell (k * 2) (by omega)
  obtain ⟨u1, e1⟩ := h.cell (k * 2 + 1) (by omega)
  have e0' := hx.cells e0
  have e1' := hx.cells e1
  have hc : ∀ q, q ≠ k * 2 → q ≠ k * 2 + 1 → ((w2.setCell ⟨b, k * 2, none⟩ (.int .i64 (tnum ts k))).setCell ⟨b, k * 2 + 1, none⟩ (.slice (some ⟨g, 0, none⟩) (tlen ts k) (tlen ts k))).cell? ⟨b, q, none⟩ = w2.cell? ⟨b, q, none⟩ := fun q h1 h2 =>
    (World.cell?_setCell_other _ _ _ _ (fun e' => h2 (by injection e' with _ e2; omega))).trans (World.cell?_setCell_other _ _ _ _ (fun e' => h1 (by injection e' with _ e2; omega)))
  refine ⟨((h.ext.trans hx).setCell h.base _).setCell h.base _, h.base, by simpa [World.setCell] using hs2, fun j hj => ?_, fun j => ?_, fun i hi => ?_, fun i hi => ?_, fun i hi => ?_, fun i j hi hj hij => ?_⟩
  · by_cases q1 : j = k * 2 + 1
    · subst q1
      exact ⟨_, World.cell?_setCell_same _ _ _ ((World.cell?_setCell_other _ _ _ _ (fun e' => by injection e' with _ e2; omega)).trans e1')⟩
    · by_cases q0 : j = k * 2
      · subst q0
        exact ⟨_, (World.cell?_setCell_other _ _ _ _ (fun e' => by injection e' with _ e2; omega)).trans (World.cell?_setCell_same _ _ _ e0')⟩
      · obtain ⟨u, hu⟩ := h.cell j hj
        exact ⟨u, (hc j q0 q1).trans (hx.cells hu)⟩
  · rw [World.frozen?_setCell, World.frozen?_setCell]
    exact (hx.frozenr _ _ hbs).trans (h.free j)
  · by_cases q : i = k
    · subst q
      exact (World.cell?_setCell_other _ _ _ _ (fun e' => by injection e' with _ e2; omega)).trans (World.cell?_setCell_same _ _ _ e0')
    · rw [hc _ (by omega) (by omega)]
      exact hx.cells (h.num i (by omega))
  · by_cases q : i = k
    · subst q
      simp only [if_true]
      exact World.cell?_setCell_same _ _ _ ((World.cell?_setCell_other _ _ _ _ (fun e' => by injection e' with _ e2; omega)).trans e1')
    · simp only [q, if_false]
      rw [hc _ (by omega) (by omega)]
      exact hx.cells (h.legs i (by omega))
  · by_cases q : i = k
    · subst q
      simp only [if_true]
      exact ((hg.mono (by omega)).setCell (by simp) _).setCell (by simp) _
    · simp only [q, if_false]
      exact (((h.inner i (by omega)).ext hx).setCell (by simp) _).setCell (by simp) _
  · by_cases qi : i = k
    · by_cases qj : j = k
      · omega
      · have := (h.inner j (by omega)).base _ rfl
        simp only [qi, qj, if_true, if_false]
        simp only at this
        omega
    · by_cases qj : j = k
      · have := (h.inner i (by omega)).base _ rfl
        simp only [qi, qj, if_true, if_false]
        simp only at this
        omega
      · simp only [qi, qj, if_false]
        exact h.apart2 i j (by omega) (by omega) hij

/-- the marks: the number that team k bears, the number behind all -/
def tkU (ln : Nat → Nat) (k0 : Int) : Nat → Int
  | 0 => k0
  | k + 1 => tkU ln k0 k + 1 + ln k
theorem tkU_bd {ln : Nat → Nat} {k0 : Int} (h : ∀ k, ln k ≤ 1048577) (k : Nat) : k0 ≤ tkU ln k0 k ∧ tkU ln k0 k ≤ k0 + 1048578 * k := by
  induction k with
  | zero => simp [tkU]
  | succ k ih => have := h k; rw [tkU]; omega

theorem TeamsF.setNum {B0 : Nat} {w : World} {b n : Nat} {A : Nat → Nat} {nu : Nat → Int} {ln cp : Nat → Nat} {c : Nat → Nat → Nat → Value} (h : TeamsF B0 w b n A nu ln cp c) {k : Nat} (hk : k < n) (v : Int) :
    TeamsF B0 (w.setCell ⟨b, k * 2, none⟩ (.int .i64 v)) b n A (fun j => if j = k then v else nu j) ln cp c where
  base := ⟨h.base.1, by simpa [World.setCell] using h.base.2⟩
  free := fun j => by rw [World.frozen?_setCell]; exact h.free j
  num := fun j hj => by
    by_cases e : j = k
    · subst e
      simp only [if_true]
      exact World.cell?_setCell_same _ _ _ (h.num j hj)
    · simp only [e, if_false]
      exact (World.cell?_setCell_other _ _ _ _ (fun e' => by injection e' with _ e2; omega)).trans (h.num j hj)
  legs := fun j hj => (World.cell?_setCell_other _ _ _ _ (fun e' => by injection e' with _ e2; omega)).trans (h.legs j hj)
  inner := fun j hj => by
    have ha := h.apart j hj
    have h1 := h.inner j hj
    refine ⟨fun hn => ?_, fun a e => by simpa [World.setCell] using h1.base a e, fun b' off e q => by rw [World.frozen?_setCell]; exact h1.free b' off e q⟩
    obtain ⟨b', off, e, H⟩ := h1.row hn
    refine ⟨b', off, e, fun q hq j' hj' => (World.cell?_setCell_other _ _ _ _ (fun e' => ?_)).trans (H q hq j' hj')⟩
    injection e with e
    injection e with e1 e2
    injection e' with e3 e4
    omega
  apart := h.apart
  apart2 := h.apart2
theorem TeamsF.setLeg {B0 : Nat} {w w' : World} {b n : Nat} {A : Nat → Nat} {nu : Nat → Int} {ln cp : Nat → Nat} {c : Nat → Nat → Nat → Value} (h : TeamsF B0 w b n A nu ln cp c) {k : Nat} (hk : k < n) (hg : w.grownBy w' (some (A k))) {c' : Nat → Nat → Value} (hF : FreshAt B0 w' (some ⟨A k, 0, none⟩) 1 (ln k) c') :
    TeamsF B0 w' b n A nu ln cp (fun j => if j = k then c' else c j) where
  base := ⟨h.base.1, Nat.lt_of_lt_of_le h.base.2 hg.size⟩
  free := fun j => (grown_frozen hg h.base.2 (fun e => by injection e with e; exact h.apart k hk e)).trans (h.free j)
  num := fun j hj => (grown_cell hg h.base.2 (fun e => by injection e with e; exact h.apart k hk e)).trans (h.num j hj)
  legs := fun j hj => (grown_cell hg h.base.2 (fun e => by injection e with e; exact h.apart k hk e)).trans (h.legs j hj)
  inner := fun j hj => by
    by_cases e : j = k
    · subst e; simpa using hF
    · simp only [e, if_false]
      exact (h.inner j hj).grown hg (fun a ea e' => by injection ea with ea; subst ea; injection e' with e'; exact h.apart2 j k hj hk e e'.symm)
  apart := h.apart
  apart2 := h.apart2

end Go.Proofs.Ytlpogglcbphilaa
