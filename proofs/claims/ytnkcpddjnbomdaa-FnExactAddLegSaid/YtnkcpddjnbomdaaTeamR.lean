/-
  Proved here: teams handed back: how they are read, marked and held.
  Conditions: the lengths are small.
-/
import Derived.Test.YtnkcpddjnbomdaaAddLeg1
namespace Go.Proofs.Ytnkcpddjnbomdaa
open Go.RowKit

/-- teams handed back: none, or in memory from B0 on -/
def RT (B0 : Nat) (w : World) (bo : Option Addr) (bc : Nat) (L : List TeamD) : Prop :=
  (bo = none ∧ bc = 0 ∧ L = []) ∨ ∃ b A cp, bo = some ⟨b, 0, none⟩ ∧ TeamsF B0 w b L.length A (tnum L) (tlen L) cp (tleg L) ∧ ∀ k, k < L.length → tlen L k ≤ cp k
/-- the same, marked -/
def RM (B0 : Nat) (w : World) (bo : Option Addr) (bc : Nat) (L : List TeamD) (k0 : Int) : Prop :=
  (bo = none ∧ bc = 0 ∧ L = []) ∨ ∃ b A cp, bo = some ⟨b, 0, none⟩ ∧ TeamsF B0 w b L.length A (tkU (tlen L) k0) (tlen L) cp (fun k => mkI (tkU (tlen L) k0 k + 1))
theorem RT.ext {B0 : Nat} {w w' : World} {bo : Option Addr} {bc : Nat} {L : List TeamD} (h : RT B0 w bo bc L) (hx : Ext w w') : RT B0 w' bo bc L := by
  rcases h with h | ⟨b, A, cp, e, h, hc⟩
  · exact .inl h
  · exact .inr ⟨b, A, cp, e, h.ext hx, hc⟩
theorem RM.ext {B0 : Nat} {w w' : World} {bo : Option Addr} {bc : Nat} {L : List TeamD} {k0 : Int} (h : RM B0 w bo bc L k0) (hx : Ext w w') : RM B0 w' bo bc L k0 := by
  rcases h with h | ⟨b, A, cp, e, h⟩
  · exact .inl h
  · exact .inr ⟨b, A, cp, e, h.ext hx⟩
theorem RT.low {B0 : Nat} {w w' : World} {bo : Option Addr} {bc : Nat} {L : List TeamD} {S : Nat → Prop} (h : RT B0 w bo bc L) (ht : Touch w w' S) (hS : ∀ k, S k → k < B0) : RT B0 w' bo bc L := by
  rcases h with h | ⟨b, A, cp, e, h, hc⟩
  · exact .inl h
  · refine .inr ⟨b, A, cp, e, h.touch ht (fun q => ?_) (fun k hk q => ?_), hc⟩
    · have h1 := hS _ q
      have h2 := h.base.1
      omega
    · have h1 := hS _ q
      have h2 := ((h.inner k hk).base _ rfl).1
      simp only at h2
      omega
theorem RT.row {B0 : Nat} {w : World} {bo : Option Addr} {bc : Nat} {L : List TeamD} (h : RT B0 w bo bc L) (hl : ∀ k, tlen L k ≤ 1048577) : GRow w bo 2 L.length (tsC L) := by
  rcases h with ⟨_, _, e⟩ | ⟨b, A, cp, e, h, hc⟩
  · subst e; exact fun h0 => absurd h0 (Nat.lt_irrefl _)
  · subst e; exact h.row hc (fun k _ => by have := hl k; omega)

set_option maxHeartbeats 1000000 in
theorem laws_markTeamR {B0 : Nat} {bo : Option Addr} {bc : Nat} {L : List TeamD} {k0 : Int} {w : World} (h : RT B0 w bo bc L) (hn : L.length ≤ 1048577) (hl : ∀ k, tlen L k ≤ 1048577) (h0 : 0 ≤ k0) (h1 : k0 ≤ 1048577) :
    Calls Try.prog 12 #[.slice bo L.length bc, .int .i64 k0] w fun e w' => e = .returned (.int .i64 (tkU (tlen L) k0 L.length)) ∧ (∃ S, Touch w w' S ∧ ∀ k, S k → B0 ≤ k) ∧ RM B0 w' bo bc L k0 := by
  rcases h with ⟨e1, e2, e3⟩ | ⟨b, A, cp, e, h, hc⟩
  · subst e1 e2 e3
    go_enter Try.func12, Try.ntmps12
    go_wp2
    go_loopw [1, 5] (fun q i wr => i = .int .i64 0 ∧ q = .int .i64 k0 ∧ wr = w) (fun _ _ _ => 0)
    case atStart => exact ⟨rfl, rfl, rfl⟩
    case round =>
      obtain ⟨rfl, rfl, rfl⟩ := hrel
      go_wp2
      go_ret
      exact ⟨rfl, ⟨fun _ => False, Touch.refl _ _, fun k hk => hk.elim⟩, .inl ⟨rfl, rfl, rfl⟩⟩
  · subst e
    refine (laws_markTeamF h hn hl h0 h1).mono ?_
    rintro e w' ⟨rfl, ht, hF⟩
    refine ⟨rfl, ⟨_, ht, fun k hk => ?_⟩, .inr ⟨b, A, cp, rfl, hF⟩⟩
    rcases hk with hk | ⟨i, hi, hk⟩
    · rw [hk]; exact h.base.1
    · have := ((h.inner i hi).base _ rfl).1
      rw [hk]; exact this

set_option maxHeartbeats 1000000 in
theorem laws_heldTeamR {B0 : Nat} {bo : Option Addr} {bc : Nat} {L : List TeamD} {k0 : Int} {w : World} (h : RM B0 w bo bc L k0) (hn : L.length ≤ 1048577) (hl : ∀ k, tlen L k ≤ 1048577) (h0 : 0 ≤ k0) (h1 : k0 ≤ 1048577) :
    Calls Try.prog 13 #[.slice bo L.length bc, .int .i64 k0] w fun e w' => e = .returned (.int .i64 (tkU (tlen L) k0 L.length)) ∧ Ext w w' := by
  rcases h with ⟨e1, e2, e3⟩ | ⟨b, A, cp, e, h⟩
  · subst e1 e2 e3
    go_enter Try.func13, Try.ntmps13
    go_wp2
    go_loopw [1, 5] (fun q i wr => i = .int .i64 0 ∧ q = .int .i64 k0 ∧ wr = w) (fun _ _ _ => 0)
    case atStart => exact ⟨rfl, rfl, rfl⟩
    case round =>
      obtain ⟨rfl, rfl, rfl⟩ := hrel
      go_wp2
      go_ret
      exact ⟨rfl, Ext.refl _⟩
  · subst e
    have HF := Lib.hid h; have HL := Lib.hid hl
    have hbd := tkU_bd (k0 := k0) hl
    have HBD := Lib.hid hbd
    generalize L.length = n at *
    clear h hl hbd
    go_enter Try.func13, Try.ntmps13
    go_wp2
    go_loopw [1, 5] (fun q i wr => ∃ k : Nat, k ≤ n ∧ i = .int .i64 k ∧ q = .int .i64 (tkU (tlen L) k0 k) ∧ Ext w wr) (fun _ i _ => n - (intOf i).toNat)
    case atStart => exact ⟨0, Nat.zero_le _, rfl, rfl, Ext.refl _⟩
    case round =>
      obtain ⟨k, hk, rfl, rfl, hx⟩ := hrel
      have HX := Lib.hid hx
      have hq := HBD.out k
      have hlk := HL.out k
      by_cases hlt : k < n
      · have hE := HF.out.ext hx
        have d0 := hE.num k hlt
        have d1 := hE.legs k hlt
        have hk0 : (0 : Int) ≤ (k : Int) := by omega
        have hk1 : (k : Int) < (n : Int) := by omega
        have HM := Lib.hid (laws_heldIntS (cap := cp k) (k0 := tkU (tlen L) k0 k + 1) (hE.inner k hlt).row (by omega) (by omega) (by omega))
        have HS := Lib.hid (show tkU (tlen L) k0 (k + 1) = tkU (tlen L) k0 k + 1 + tlen L k from rfl)
        generalize tkU (tlen L) k0 k = t at *
        generalize tlen L k = l at *
        have hneg : ¬ (t + 1 + (l : Int)) < 0 := by omega
        clear hE hx
        go_wp2_with fail
        refine HM.out.mono ?_; rintro e w2 ⟨rfl, hx2⟩
        have HX2 := Lib.hid (HX.out.trans hx2)
        clear hx2 HM d0 d1
        go_wp2
        go_roundw
        case rel => exact ⟨k + 1, by omega, by go_num, by rw [HS.out], HX2.out⟩
        case measure => simp [intOf] <;> omega
      · obtain rfl : k = n := by omega
        have hnk : ¬ (k : Int) < (k : Int) := by omega
        clear hx
        go_wp2
        go_ret
        exact ⟨rfl, HX.out⟩

end Go.Proofs.Ytnkcpddjnbomdaa
