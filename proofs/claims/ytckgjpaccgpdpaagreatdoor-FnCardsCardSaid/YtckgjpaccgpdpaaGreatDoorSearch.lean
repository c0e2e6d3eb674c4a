/-
  Proved here: looking for a number in the first n places of a slice of ints; whether a number stands twice.
  Conditions: the lengths fit an int.
-/
import Derived.Test.YtckgjpaccgpdpaaGreatDoorInts
namespace Go.Proofs.YtckgjpaccgpdpaaGreatDoor
open Go.RowKit

theorem RowAt.take {w : World} {ao : Option Addr} {s n m : Nat} {c : Nat → Nat → Value} (h : RowAt w ao s n c) (hm : m ≤ n) : RowAt w ao s m c := fun h0 => by
  obtain ⟨b, off, e, H⟩ := h (by omega)
  exact ⟨b, off, e, fun k hk j hj => H k (by omega) j hj⟩
theorem intsN {w : World} {ao : Option Addr} {xs : List Int} {n : Nat} (h : RowAt w ao 1 n (ic xs)) (hn : 0 < n) : ∃ b off, ao = some ⟨b, off, none⟩ ∧ ∀ k, k < n → w.cell? ⟨b, off + k, none⟩ = some (.int .i64 (nth xs k)) := by
  obtain ⟨b, off, e, H⟩ := h hn
  exact ⟨b, off, e, fun k hk => by simpa [ic] using H k hk 0 (by decide)⟩
/-- v stands among the first n -/
def hasI (xs : List Int) (n : Nat) (v : Int) : Bool := !upto (fun k => nth xs k != v) n
theorem hasI_yes {xs : List Int} {n k : Nat} {v : Int} (hk : k < n) (h : nth xs k = v) : hasI xs n v = true := by
  simp [hasI, upto_false hk (p := fun k => nth xs k != v) (by simp [h])]
theorem hasI_no {xs : List Int} {n : Nat} {v : Int} (h : ∀ k, k < n → nth xs k ≠ v) : hasI xs n v = false := by
  simp only [hasI, Bool.not_eq_false']
  exact upto_true.2 fun k hk => by simpa using h k hk
/-- the first place of v among the first n, or -1 -/
def idxI (xs : List Int) (n : Nat) (v : Int) : Int := match (List.range n).find? (fun k => nth xs k == v) with | some k => (k : Int) | none => -1
theorem idxI_at {xs : List Int} {n k : Nat} {v : Int} (hk : k < n) (h : nth xs k = v) (hb : ∀ j, j < k → nth xs j ≠ v) : idxI xs n v = k := by
  have : (List.range n).find? (fun k => nth xs k == v) = some k := by
    rw [List.find?_range_eq_some]
    exact ⟨by simp [h], by simpa using hk, fun j hj => by simp [hb j hj]⟩
  simp [idxI, this]
theorem idxI_none {xs : List Int} {n : Nat} {v : Int} (hb : ∀ j, j < n → nth xs j ≠ v) : idxI xs n v = -1 := by
  have : (List.range n).find? (fun k => nth xs k == v) = none := by
    rw [List.find?_eq_none]
    intro j hj
    simp [hb j (by simpa using hj)]
  simp [idxI, this]
theorem idxI_has {xs : List Int} {n : Nat} {v : Int} : decide (0 ≤ idxI xs n v) = hasI xs n v := by
  by_cases h : ∀ j, j < n → nth xs j ≠ v
  · rw [idxI_none h, hasI_no h]; simp
  · have hex : ∃ j, j < n ∧ nth xs j = v := by
      refine Classical.byContradiction fun hne => h fun j hj e => hne ⟨j, hj, e⟩
    obtain ⟨j, hj, hp⟩ := hex
    rw [hasI_yes hj hp]
    unfold idxI
    cases e : (List.range n).find? (fun k => nth xs k == v) with
    | none => exact absurd (List.find?_eq_none.1 e j (by simpa using hj)) (by simp [hp])
    | some k => simp

theorem slices_Index {ao : Option Addr} {cap n : Nat} {xs : List Int} {v : Int} {w : World} (h : RowAt w ao 1 n (ic xs)) (hn : n ≤ 9223372036854775807) :
    Calls Tryz.prog 59 #[.slice ao n cap, .int .i64 v] w fun e w' => e = .returned (.int .i64 (idxI xs n v)) ∧ Ext w w' := by
  go_enter Tryz.func59, Tryz.ntmps59
  go_wp2
  go_loopw [8] (fun i wr => ∃ k : Nat, k ≤ n ∧ i = .int .i64 k ∧ Ext w wr ∧ ∀ j, j < k → nth xs j ≠ v) (fun i _ => n - (intOf i).toNat)
  case atStart => exact ⟨0, Nat.zero_le _, rfl, Ext.refl _, fun j hj => by omega⟩
  case round =>
    obtain ⟨k, hk, rfl, hx, hb⟩ := hrel
    have HB := Lib.hid hb; clear hb
    by_cases hlt : k < n
    · obtain ⟨b, off, rfl, hcell⟩ := intsN h (by omega)
      have d0 := hx.cells (hcell k hlt)
      clear hcell h
      by_cases hv : nth xs k = v
      · have hv' : (v == nth xs k) = true := by simp [hv]
        have HV := Lib.hid hv; clear hv
        go_wp2
        go_ret
        exact ⟨ret_i (by rw [idxI_at hlt HV.out HB.out]), (by repeat (first | (with_reducible exact Ext.refl _) | (with_reducible assumption) | with_reducible refine Ext.drew ?_ | with_reducible refine Ext.alloc ?_ _ | with_reducible refine Ext.setCell ?_ (by first | (simp; done) | (simp; omega) | omega) _ | with_reducible refine Ext.trans ?_ (by with_reducible assumption)))⟩
      · have hv' : (v == nth xs k) = false := by simpa using fun e => hv e.symm
        go_wp2
        go_roundw
        case rel => exact ⟨k + 1, by omega, by go_num, (by repeat (first | (with_reducible exact Ext.refl _) | (with_reducible assumption) | with_reducible refine Ext.drew ?_ | with_reducible refine Ext.alloc ?_ _ | with_reducible refine Ext.setCell ?_ (by first | (simp; done) | (simp; omega) | omega) _ | with_reducible refine Ext.trans ?_ (by with_reducible assumption))), fun j hj => by by_cases e : j = k; (subst e; exact hv); exact HB.out j (by omega)⟩
        case measure => simp [intOf]; omega
    · have hkn : k = n := by omega
      subst hkn
      go_wp2
      go_ret
      exact ⟨ret_i (by rw [idxI_none HB.out]), (by repeat (first | (with_reducible exact Ext.refl _) | (with_reducible assumption) | with_reducible refine Ext.drew ?_ | with_reducible refine Ext.alloc ?_ _ | with_reducible refine Ext.setCell ?_ (by first | (simp; done) | (simp; omega) | omega) _ | with_reducible refine Ext.trans ?_ (by with_reducible assumption)))⟩

theorem spec_l1Has {ao : Option Addr} {cap n : Nat} {xs : List Int} {v : Int} {w : World} (h : RowAt w ao 1 n (ic xs)) (hn : n ≤ 9223372036854775807) :
    Calls Tryz.prog 38 #[.slice ao n cap, .int .i64 v] w fun e w' => e = .returned (.bool (hasI xs n v)) ∧ Ext w w' := by
  go_enter Tryz.func38, Tryz.ntmps38
  go_wp2
  go_loopw [5] (fun i wr => ∃ k : Nat, k ≤ n ∧ i = .int .i64 k ∧ Ext w wr ∧ ∀ j, j < k → nth xs j ≠ v) (fun i _ => n - (intOf i).toNat)
  case atStart => exact ⟨0, Nat.zero_le _, rfl, Ext.refl _, fun j hj => by omega⟩
  case round =>
    obtain ⟨k, hk, rfl, hx, hb⟩ := hrel
    have HB := Lib.hid hb; clear hb
    by_cases hlt : k < n
    · obtain ⟨b, off, rfl, hcell⟩ := intsN h (by omega)
      have d0 := hx.cells (hcell k hlt)
      clear hcell h
      by_cases hv : nth xs k = v
      · have hv' : (nth xs k == v) = true := by simp [hv]
        have HV := Lib.hid hv; clear hv
        go_wp2
        go_ret
        exact ⟨ret_b (by rw [hasI_yes hlt HV.out]), (by repeat (first | (with_reducible exact Ext.refl _) | (with_reducible assumption) | with_reducible refine Ext.drew ?_ | with_reducible refine Ext.alloc ?_ _ | with_reducible refine Ext.setCell ?_ (by first | (simp; done) | (simp; omega) | omega) _ | with_reducible refine Ext.trans ?_ (by with_reducible assumption)))⟩
      · have hv' : (nth xs k == v) = false := by simp [hv]
        go_wp2
        go_roundw
        case rel => exact ⟨k + 1, by omega, by go_num, (by repeat (first | (with_reducible exact Ext.refl _) | (with_reducible assumption) | with_reducible refine Ext.drew ?_ | with_reducible refine Ext.alloc ?_ _ | with_reducible refine Ext.setCell ?_ (by first | (simp; done) | (simp; omega) | omega) _ | with_reducible refine Ext.trans ?_ (by with_reducible assumption))), fun j hj => by by_cases e : j = k; (subst e; exact hv); exact HB.out j (by omega)⟩
        case measure => simp [intOf]; omega
    · have hkn : k = n := by omega
      subst hkn
      go_wp2
      go_ret
      exact ⟨ret_b (by rw [hasI_no HB.out]), (by repeat (first | (with_reducible exact Ext.refl _) | (with_reducible assumption) | with_reducible refine Ext.drew ?_ | with_reducible refine Ext.alloc ?_ _ | with_reducible refine Ext.setCell ?_ (by first | (simp; done) | (simp; omega) | omega) _ | with_reducible refine Ext.trans ?_ (by with_reducible assumption)))⟩

theorem slices_Contains {ao : Option Addr} {cap n : Nat} {xs : List Int} {v : Int} {w : World} (h : RowAt w ao 1 n (ic xs)) (hn : n ≤ 9223372036854775807) :
    Calls Tryz.prog 37 #[.slice ao n cap, .int .i64 v] w fun e w' => e = .returned (.bool (hasI xs n v)) ∧ Ext w w' := by
  go_enter Tryz.func37, Tryz.ntmps37
  go_wp2_with fail
  refine (slices_Index h hn).mono ?_; rintro e w1 ⟨rfl, hx1⟩
  go_wp2
  go_ret
  exact ⟨ret_b idxI_has, (by repeat (first | (with_reducible exact Ext.refl _) | (with_reducible assumption) | with_reducible refine Ext.drew ?_ | with_reducible refine Ext.alloc ?_ _ | with_reducible refine Ext.setCell ?_ (by first | (simp; done) | (simp; omega) | omega) _ | with_reducible refine Ext.trans ?_ (by with_reducible assumption)))⟩

/-- no number stands twice among the first n -/
def onceU (xs : List Int) (n : Nat) : Bool := upto (fun k => !hasI xs k (nth xs k)) n

end Go.Proofs.YtckgjpaccgpdpaaGreatDoor
