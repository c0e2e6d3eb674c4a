/-
  Proved here: slices of slices of ints in new memory; what comparing, marking and holding them does.
  Conditions: none beyond those in each statement.
-/
import Derived.Test.YtfnjoinkfghalaaMarkInts
import Derived.Test.YtfnjoinkfghalaaTouch
namespace Go.Proofs.Ytfnjoinkfghalaa
open Go.RowKit

/-- A slice of slices of ints in memory from block B0 on, no two rows in one block. -/
structure FreshG (B0 : Nat) (w : World) (ao : Option Addr) (n : Nat) (len : Nat → Nat) (f : Nat → Option Addr × Nat) (c : Nat → Nat → Nat → Value) : Prop where
  outer : FreshAt B0 w ao 1 n (fun k _ => .slice (f k).1 (len k) (f k).2)
  inner : ∀ k, k < n → FreshAt B0 w (f k).1 1 (len k) (c k)
  oi : ∀ k, k < n → ∀ a b, ao = some a → (f k).1 = some b → a.block ≠ b.block
  ii : ∀ j k, j < n → k < n → j ≠ k → ∀ a b, (f j).1 = some a → (f k).1 = some b → a.block ≠ b.block
/-- The same, as read. -/
structure RowG (w : World) (ao : Option Addr) (n : Nat) (len : Nat → Nat) (f : Nat → Option Addr × Nat) (c : Nat → Nat → Nat → Value) : Prop where
  outer : RowAt w ao 1 n (fun k _ => .slice (f k).1 (len k) (f k).2)
  inner : ∀ k, k < n → RowAt w (f k).1 1 (len k) (c k)
theorem RowG.ext {w w' : World} {ao : Option Addr} {n : Nat} {len : Nat → Nat} {f : Nat → Option Addr × Nat} {c : Nat → Nat → Nat → Value} (h : RowG w ao n len f c) (hx : Ext w w') : RowG w' ao n len f c := ⟨h.outer.ext hx, fun k hk => (h.inner k hk).ext hx⟩

section
variable {B0 : Nat} {w w' : World} {ao : Option Addr} {n : Nat} {len : Nat → Nat} {f : Nat → Option Addr × Nat} {c : Nat → Nat → Nat → Value}
theorem FreshG.row (h : FreshG B0 w ao n len f c) : RowG w ao n len f c := ⟨h.outer.row, fun k hk => (h.inner k hk).row⟩
theorem FreshG.ext (h : FreshG B0 w ao n len f c) (hx : Ext w w') : FreshG B0 w' ao n len f c := ⟨h.outer.ext hx, fun k hk => (h.inner k hk).ext hx, h.oi, h.ii⟩
theorem FreshG.mono {B1 : Nat} (h : FreshG B0 w ao n len f c) (hb : B1 ≤ B0) : FreshG B1 w ao n len f c := ⟨h.outer.mono hb, fun k hk => (h.inner k hk).mono hb, h.oi, h.ii⟩
theorem FreshG.congr {c' : Nat → Nat → Nat → Value} (h : FreshG B0 w ao n len f c) (hc : ∀ k, k < n → c k = c' k) : FreshG B0 w ao n len f c' := ⟨h.outer, fun k hk => hc k hk ▸ h.inner k hk, h.oi, h.ii⟩
/-- a row of lower blocks is written -/
theorem FreshG.low {row : Option Nat} (h : FreshG B0 w ao n len f c) (hg : w.grownBy w' row) (hr : ∀ k, row = some k → k < B0) : FreshG B0 w' ao n len f c :=
  ⟨h.outer.grown hg (fun a e e' => by have h1 := (h.outer.base a e).1; have := hr _ e'; omega), fun k hk => (h.inner k hk).grown hg (fun a e e' => by have h1 := ((h.inner k hk).base a e).1; have := hr _ e'; omega), h.oi, h.ii⟩
/-- one of its rows is written over -/
theorem FreshG.put {i : Nat} {ci : Nat → Nat → Value} (h : FreshG B0 w ao n len f c) (hi : i < n) (hg : w.grownBy w' (blk (f i).1)) (hci : FreshAt B0 w' (f i).1 1 (len i) ci) : FreshG B0 w' ao n len f (fun k => if k = i then ci else c k) := by
  have hb : ∀ b, blk (f i).1 = some b → ∃ a, (f i).1 = some a ∧ a.block = b := fun b e => by
    cases hf : (f i).1 with
    | none => rw [hf] at e; cases e
    | some a => rw [hf] at e; injection e with e; exact ⟨a, rfl, e⟩
  refine ⟨h.outer.grown hg (fun a e e' => ?_), fun k hk => ?_, h.oi, h.ii⟩
  · obtain ⟨b, e1, e2⟩ := hb _ e'
    exact h.oi i hi a b e e1 e2.symm
  · by_cases e : k = i
    · subst e; simp only [if_true]; exact hci
    · simp only [if_neg e]
      refine (h.inner k hk).grown hg (fun a e1 e' => ?_)
      obtain ⟨b, e2, e3⟩ := hb _ e'
      exact h.ii i k hi hk (fun q => e q.symm) b a e2 e1 e3
end

/-- the numbers of all rows' elements ahead of row k -/
def offG (len : Nat → Nat) : Nat → Nat
  | 0 => 0
  | k + 1 => offG len k + len k
theorem offG_le {len : Nat → Nat} {j k : Nat} (h : j ≤ k) : offG len j ≤ offG len k := by
  induction k with
  | zero => obtain rfl : j = 0 := by omega
            exact Nat.le_refl _
  | succ k ih =>
    by_cases e : j = k + 1
    · subst e; exact Nat.le_refl _
    · have := ih (by omega); rw [offG]; omega
theorem offG_at {len : Nat → Nat} {k n : Nat} (h : k < n) : offG len k + len k ≤ offG len n := by
  have := offG_le (len := len) (show k + 1 ≤ n from h)
  rwa [offG] at this
/-- the marks of a slice of slices from m on -/
def mkG (m : Nat) (len : Nat → Nat) : Nat → Nat → Nat → Value := fun k => mkI (((m + offG len k : Nat)) : Int)

set_option maxHeartbeats 1000000 in
theorem laws_markIntSS {B0 : Nat} {ao : Option Addr} {cap n m : Nat} {len : Nat → Nat} {f : Nat → Option Addr × Nat} {c : Nat → Nat → Nat → Value} {w : World} (h : FreshG B0 w ao n len f c) (hn : n ≤ 1099511627776) (ht : offG len n ≤ 1099511627776) (hm : m ≤ 1024) (hB : B0 ≤ w.heap.size) :
    Calls Try.prog 13 #[.slice ao n cap, .int .i64 m] w fun e w' => e = .returned (.int .i64 (m + offG len n : Nat)) ∧ Below B0 w w' ∧ FreshG B0 w' ao n len f (mkG m len) := by
  have HH := Lib.hid h
  go_enter Try.func13, Try.ntmps13
  go_wp2
  go_loopw [1, 5] (fun q i wr => ∃ k : Nat, k ≤ n ∧ i = .int .i64 k ∧ q = .int .i64 (m + offG len k : Nat) ∧ Below B0 w wr ∧ FreshG B0 wr ao n len f (fun j => if j < k then mkG m len j else c j)) (fun _ i _ => n - (intOf i).toNat)
  case atStart => exact ⟨0, Nat.zero_le _, rfl, by simp [offG], Below.refl _ _, HH.out.congr (fun k _ => by simp)⟩
  case round =>
    clear h HH
    obtain ⟨k, hk, rfl, rfl, hb, hF⟩ := hrel
    have HF := Lib.hid hF
    have HB := Lib.hid hb
    by_cases hlt : k < n
    · obtain ⟨b, off, rfl, hcell⟩ := hF.outer.row (by omega)
      have d0 := hcell k hlt 0 (by decide)
      simp only [Nat.mul_one, Nat.add_zero] at d0
      have hat := offG_at (len := len) hlt
      have hik := hF.inner k hlt
      have HM := Lib.hid (laws_markIntS (cap := (f k).2) (k0 := (m + offG len k : Nat)) hik (by omega) (by omega) (by omega))
      have hbi : ∀ j, blk (f k).1 = some j → B0 ≤ j := fun j e => by
        cases hf : (f k).1 with
        | none => rw [hf] at e; cases e
        | some a => rw [hf] at e; have e2 : a.block = j := Option.some.inj e; have := (hik.base a hf).1; omega
      have HBI := Lib.hid hbi
      have hk0 : (0 : Int) ≤ (k : Int) := by omega
      have hk1 : (k : Int) < (n : Int) := by omega
      clear hcell hF hb hik hbi
      go_wp2_with fail
      refine HM.out.mono ?_; rintro e w2 ⟨rfl, hg, hci⟩
      have HR := Lib.hid ((HF.out.put hlt hg hci).congr (c' := fun j => if j < k + 1 then mkG m len j else c j) (fun j hj => by
        by_cases e : j = k
        · subst e; simp [mkG]
        · have e2 : (j < k + 1) = (j < k) := propext (by omega)
          simp only [if_neg e, e2]))
      have HB2 := Lib.hid (Below.grown HB.out hg (Nat.le_trans hB HB.out.size) HBI.out)
      clear hg hci HM
      go_wp2
      go_roundw
      case rel => exact ⟨k + 1, by omega, by go_num, by rw [offG]; go_num, HB2.out, HR.out⟩
      case measure => simp [intOf] <;> omega
    · have hkn : k = n := by omega
      subst hkn
      go_wp2
      go_ret
      exact ⟨rfl, HB.out, HF.out.congr (fun j hj => by simp [hj])⟩

set_option maxHeartbeats 1000000 in
theorem laws_heldIntSS {ao : Option Addr} {cap n m : Nat} {len : Nat → Nat} {f : Nat → Option Addr × Nat} {w : World} (h : RowG w ao n len f (mkG m len)) (hn : n ≤ 1099511627776) (ht : offG len n ≤ 1099511627776) (hm : m ≤ 1024) :
    Calls Try.prog 14 #[.slice ao n cap, .int .i64 m] w fun e w' => e = .returned (.int .i64 (m + offG len n : Nat)) ∧ Ext w w' := by
  have HH := Lib.hid h
  clear h
  go_enter Try.func14, Try.ntmps14
  go_wp2
  go_loopw [1, 5] (fun q i wr => ∃ k : Nat, k ≤ n ∧ i = .int .i64 k ∧ q = .int .i64 (m + offG len k : Nat) ∧ Ext w wr) (fun _ i _ => n - (intOf i).toNat)
  case atStart => exact ⟨0, Nat.zero_le _, rfl, by simp [offG], Ext.refl _⟩
  case round =>
    obtain ⟨k, hk, rfl, rfl, hx⟩ := hrel
    by_cases hlt : k < n
    · obtain ⟨b, off, rfl, hcell⟩ := (HH.out.ext hx).outer (by omega)
      have d0 := hcell k hlt 0 (by decide)
      simp only [Nat.mul_one, Nat.add_zero] at d0
      have hat := offG_at (len := len) hlt
      have HM := Lib.hid (laws_heldIntS (cap := (f k).2) (k0 := (m + offG len k : Nat)) ((HH.out.ext hx).inner k hlt) (by omega) (by omega) (by omega))
      have hk0 : (0 : Int) ≤ (k : Int) := by omega
      have hk1 : (k : Int) < (n : Int) := by omega
      have hk2 : (0 : Int) ≤ ((m + offG len k : Nat) : Int) + (len k : Int) := by omega
      have HX := Lib.hid hx
      clear hcell hx
      go_wp2_with fail
      refine HM.out.mono ?_; rintro e w2 ⟨rfl, hx2⟩
      have HX2 := Lib.hid (HX.out.trans hx2)
      clear hx2 HM
      go_wp2
      go_roundw
      case rel => exact ⟨k + 1, by omega, by go_num, by rw [offG]; go_num, HX2.out⟩
      case measure => simp [intOf] <;> omega
    · have hkn : k = n := by omega
      subst hkn
      go_wp2
      go_ret
      exact ⟨rfl, hx⟩

/-- a list of lists -/
abbrev lenL (L : List (List Int)) : Nat → Nat := fun k => (nth L k).length
abbrev icL (L : List (List Int)) : Nat → Nat → Nat → Value := fun k => ic (nth L k)

set_option maxHeartbeats 1000000 in
theorem laws_eqIntSS {ao bo : Option Addr} {cap cap' : Nat} {L : List (List Int)} {f g : Nat → Option Addr × Nat} {w : World} (h : RowG w ao L.length (lenL L) f (icL L)) (h' : RowG w bo L.length (lenL L) g (icL L)) (hn : L.length ≤ 9223372036854775807) (hl : ∀ k, k < L.length → (nth L k).length ≤ 9223372036854775807) :
    Calls Try.prog 10 #[.slice ao L.length cap, .slice bo L.length cap'] w fun e w' => e = .returned (.bool true) ∧ Ext w w' := by
  have HH := Lib.hid h; have HH' := Lib.hid h'; have HL := Lib.hid hl
  clear h h' hl
  go_enter Try.func10, Try.ntmps10
  go_wp2
  go_loopw [5] (fun i wr => ∃ k : Nat, k ≤ L.length ∧ i = .int .i64 k ∧ Ext w wr) (fun i _ => L.length - (intOf i).toNat)
  case atStart => exact ⟨0, Nat.zero_le _, rfl, Ext.refl _⟩
  case round =>
    obtain ⟨k, hk, rfl, hx⟩ := hrel
    by_cases hlt : k < L.length
    · obtain ⟨b, off, rfl, hcell⟩ := (HH.out.ext hx).outer (by omega)
      obtain ⟨b', off', rfl, hcell'⟩ := (HH'.out.ext hx).outer (by omega)
      have d0 := hcell k hlt 0 (by decide)
      have d1 := hcell' k hlt 0 (by decide)
      simp only [Nat.mul_one, Nat.add_zero] at d0 d1
      have g0 := Grow.cells d0
      have g1 := Grow.cells d1
      have HE := Lib.hid (fun x : Grow wr => laws_eqIntS (w := x.w) (cap := (f k).2) (cap' := (g k).2) (((HH.out.ext hx).inner k hlt).ext x.h) (((HH'.out.ext hx).inner k hlt).ext x.h) (HL.out k hlt) (HL.out k hlt))
      rw [(eqL_iff eqI_iff).2 rfl] at HE
      have hk0 : (0 : Int) ≤ (k : Int) := by omega
      have hk1 : (k : Int) < (L.length : Int) := by omega
      have HX := Lib.hid hx
      clear hcell hcell' hx
      go_wp2
      refine wp_region_ext (by kernel_rfl) (by kernel_rfl) ?_
      repeat (go_big_quiet_step ((go_at_call 51; exact Calls.ext_of (HE.out _))))
      refine wpQuiet_nil ?_
      rintro _ ⟨⟨w1, hx1⟩, rfl⟩
      clear g0 g1
      have HX2 := Lib.hid (HX.out.trans hx1)
      clear hx1
      go_wp2
      go_roundw
      case rel => exact ⟨k + 1, by omega, by go_num, HX2.out⟩
      case measure => simp [intOf] <;> omega
    · have hkn : k = L.length := by omega
      have hnk : ¬ (k : Int) < (L.length : Int) := by omega
      go_wp2
      go_ret
      exact ⟨rfl, hx⟩

end Go.Proofs.Ytfnjoinkfghalaa
