/-
  Proved here: the laws' own comparison of lists of entries, at equal lists; the sum of a list.
  Conditions: the lengths fit an int.
-/
import Derived.Test.YtkejhhflpnfepaaEntPl
import Derived.Test.YtkejhhflpnfepaaCur1
import Derived.Test.YtkejhhflpnfepaaInts
namespace Go.Proofs.Ytkejhhflpnfepaa
open Go.RowKit

theorem laws_rEntries {ao bo : Option Addr} {ac bc : Nat} {xs : List Ent} {w : World} (h : RowAt w ao 5 xs.length (fun k => (nth xs k).c)) (h' : RowAt w bo 5 xs.length (fun k => (nth xs k).c)) (hn : xs.length ≤ 9223372036854775807) :
    Calls Try.prog 9 #[.slice ao xs.length ac, .slice bo xs.length bc] w fun e w' => e = .returned (.bool true) ∧ Ext w w' := by
  go_enter Try.func9, Try.ntmps9
  go_wp2
  go_loopw [5] (fun i wr => ∃ k : Nat, k ≤ xs.length ∧ i = .int .i64 k ∧ Ext w wr) (fun i _ => xs.length - (intOf i).toNat)
  case atStart => exact ⟨0, Nat.zero_le _, rfl, Ext.refl _⟩
  case round =>
    obtain ⟨k, hk, rfl, hx⟩ := hrel
    by_cases hlt : k < xs.length
    · obtain ⟨b, off, rfl, hcell⟩ := h (by omega)
      obtain ⟨b', off', rfl, hcell'⟩ := h' (by omega)
      have d0 : wr.cell? ⟨b, off + k * 5, none⟩ = some (.int .i64 (nth xs k).runner) := hx.cells (hcell k hlt 0 (by decide))
      have d1 : wr.cell? ⟨b, off + k * 5 + 1, none⟩ = some (.int .i64 (nth xs k).cls) := hx.cells (hcell k hlt 1 (by decide))
      have d2 : wr.cell? ⟨b, off + k * 5 + 2, none⟩ = some (.int .i64 (nth xs k).day) := hx.cells (hcell k hlt 2 (by decide))
      have d3 : wr.cell? ⟨b, off + k * 5 + 3, none⟩ = some (.bool (nth xs k).rent) := hx.cells (hcell k hlt 3 (by decide))
      have d4 : wr.cell? ⟨b, off + k * 5 + 4, none⟩ = some (.int .i64 (nth xs k).paid) := hx.cells (hcell k hlt 4 (by decide))
      have e0 : wr.cell? ⟨b', off' + k * 5, none⟩ = some (.int .i64 (nth xs k).runner) := hx.cells (hcell' k hlt 0 (by decide))
      have e1 : wr.cell? ⟨b', off' + k * 5 + 1, none⟩ = some (.int .i64 (nth xs k).cls) := hx.cells (hcell' k hlt 1 (by decide))
      have e2 : wr.cell? ⟨b', off' + k * 5 + 2, none⟩ = some (.int .i64 (nth xs k).day) := hx.cells (hcell' k hlt 2 (by decide))
      have e3 : wr.cell? ⟨b', off' + k * 5 + 3, none⟩ = some (.bool (nth xs k).rent) := hx.cells (hcell' k hlt 3 (by decide))
      have e4 : wr.cell? ⟨b', off' + k * 5 + 4, none⟩ = some (.int .i64 (nth xs k).paid) := hx.cells (hcell' k hlt 4 (by decide))
      have hk0 : (0 : Int) ≤ (k : Int) := by omega
      have hk1 : (k : Int) < (xs.length : Int) := by omega
      clear hcell hcell'
      generalize (nth xs k).runner = a0 at *
      generalize (nth xs k).cls = a1 at *
      generalize (nth xs k).day = a2 at *
      generalize (nth xs k).rent = a3 at *
      generalize (nth xs k).paid = a4 at *
      go_wp2
      go_quiet (fail)
      go_wp2
      go_roundw
      case rel => exact ⟨k + 1, by omega, by go_num, hx.trans (Ext.drewQ _ _)⟩
      case measure => simp [intOf] <;> omega
    · have hkn : k = xs.length := by omega
      subst hkn
      go_wp2
      go_ret
      exact ⟨rfl, hx⟩

theorem sumU_sum (xs : List Int) : ∀ n, n ≤ xs.length → sumU xs n = (xs.take n).sum := by
  intro n
  induction n with
  | zero => intro _; rfl
  | succ n ih =>
    intro hn
    have e : sumU xs (n + 1) = sumU xs n + nth xs n := rfl
    rw [e, ih (by omega), List.take_succ_eq_append_getElem (by omega), List.sum_append]
    simp [nth, List.getD, List.getElem?_eq_getElem (show n < xs.length by omega)]

theorem laws_rSum {ao : Option Addr} {cap : Nat} {xs : List Int} {w : World} (h : RowAt w ao 1 xs.length (ic xs)) (hn : xs.length ≤ 9223372036854775807) (hs : ∀ k, k ≤ xs.length → I64 (sumU xs k)) :
    Calls Try.prog 15 #[.slice ao xs.length cap] w fun e w' => e = .returned (.int .i64 (sumU xs xs.length)) ∧ w = w' := by
  have HS := Lib.hid hs; clear hs
  go_enter Try.func15, Try.ntmps15
  go_wp2
  go_loop [3, 4] (fun s i => ∃ k : Nat, k ≤ xs.length ∧ i = .int .i64 k ∧ s = .int .i64 (sumU xs k)) (fun _ i => xs.length - (intOf i).toNat)
  case atStart => exact ⟨0, Nat.zero_le _, rfl, rfl⟩
  case round =>
    obtain ⟨k, hk, rfl, rfl⟩ := hrel
    by_cases hlt : k < xs.length
    · obtain ⟨b, off, rfl, hcell⟩ := ints_at' h (by omega)
      have d0 := hcell k hlt
      have h1 := HS.out (k + 1) hlt
      have h2 := HS.out k hk
      have e : sumU xs (k + 1) = sumU xs k + nth xs k := rfl
      have HE := Lib.hid e
      rw [e] at h1
      unfold I64 at h1 h2
      obtain ⟨h10, h11⟩ := h1
      clear hcell e
      generalize nth xs k = q at *
      generalize sumU xs k = p at *
      go_wp2
      go_round
      case rel => exact ⟨k + 1, by omega, by go_num, by rw [HE.out]⟩
      case measure => simp [intOf]; omega
    · have hkn : k = xs.length := by omega
      subst hkn
      go_wp2
      go_ret
      exact ⟨rfl, rfl⟩

end Go.Proofs.Ytkejhhflpnfepaa
