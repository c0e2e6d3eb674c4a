/-
  Proved here: what strconv.Itoa and the reference's l1Num return: a number's decimal text; the table of powers of ten stays as it is.
  Conditions: Itoa: the table holds the powers of ten; the number is an int.
-/
import Derived.Test.YtckgjpaccgpdpaaGreatDoorTxtPl
import Derived.Test.YtckgjpaccgpdpaaGreatDoorShI
namespace Go.Proofs.YtckgjpaccgpdpaaGreatDoor
open Go.ChangeShapes Go.WideShapes Go.ChangeAt Go.RowKit

theorem var_ext {P : Program} {w w' : World} {n : String} {cs : Array Value} (hv : w.var? P n = some cs) (hx : Ext w w') : w'.var? P n = some cs := by
  unfold World.var? at hv ⊢
  cases hg : P.globalNamed n with
  | none => simp [hg] at hv
  | some g =>
    simp only [hg, Option.bind_some] at hv ⊢
    have hlt : g < w.heap.size := by
      rcases Nat.lt_or_ge g w.heap.size with h' | h'
      · exact h'
      · rw [Array.getElem?_eq_none h'] at hv; simp at hv
    rw [Below.block hx g hlt]
    exact hv
/-- the table of powers of ten holds them -/
def Pow (w : World) : Prop := Lib.TabIs Tryz.prog w "internal/strconv.uint64pow10" .u64 Lib.pow10Tab
theorem Pow.ext {w w' : World} (h : Pow w) (hx : Ext w w') : Pow w' := var_ext h hx
theorem ext_grow (w : World) (k : Nat) (os : Array Obj) : Ext w (Sort.grow (w.drewN k) os) :=
  ⟨rfl, rfl, rfl, by show w.heap.size ≤ (w.heap ++ os).size; simp, fun b hb => Sort.heap_grow_old (w.drewN k) os hb⟩

theorem std_Itoa {n : Int} (h0 : -9223372036854775808 ≤ n) (h1 : n ≤ 9223372036854775807) {w : World} (hp : Pow w) :
    Calls Tryz.prog 60 #[.int .i64 n] w fun e w' => e = .returned (.string (bsOf (Lib.itoa n))) ∧ Ext w w' :=
  (Any.strconv_Itoa laysM171 n h0 h1 w hp).mono fun _ _ ⟨he, k, os, hw⟩ => ⟨he, by rw [hw]; exact ext_grow w k os⟩

/-- two texts behind each other -/
theorem add_bs {x y : ByteArray} {a b : List UInt8} (hx : x = bsOf a) (hy : y = bsOf b) (h : a.length + b.length ≤ 9223372036854775807) (w : World) :
    (Op.stringOp .add x y).run Tryz.prog w = .ok (.string (bsOf (a ++ b))) w := by
  subst hx hy
  rw [run_string_add_sum w _ _ (by rw [bsOf_size, bsOf_size]; exact h), bsOf_append]

theorem digit_piece : ∀ d : Fin 10, (ByteArray.mk #[48, 49, 50, 51, 52, 53, 54, 55, 56, 57]).extract d.val (d.val + 1) = bsOf [UInt8.ofNat (48 + d.val)] := by decide +kernel
theorem digit_at {d : Nat} (h : d < 10) : (ByteArray.mk #[48, 49, 50, 51, 52, 53, 54, 55, 56, 57]).extract d (d + 1) = bsOf [UInt8.ofNat (48 + d)] := digit_piece ⟨d, h⟩

set_option maxHeartbeats 2000000 in
theorem spec_l1Num_nat (u : Nat) : ∀ (_ : (u : Int) ≤ 9223372036854775807) (w : World),
    Calls Tryz.prog 64 #[.int .i64 u] w fun e w' => e = .returned (.string (bsOf (Lib.decDigits u))) ∧ Ext w w' := by
  induction u using Nat.strongRecOn with
  | _ u ih =>
    intro hu w
    by_cases h : u < 10
    · have c1 : ¬ (u : Int) < 0 := by omega
      have c2 : (u : Int) < 10 := by omega
      rw [Lib.decDigits_one h, ← digit_at h]
      go_enter Tryz.func64, Tryz.ntmps64
      go_wp2
      go_ret
      exact ⟨rfl, Ext.refl _⟩
    · have c1 : ¬ (u : Int) < 0 := by omega
      have c2 : ¬ (u : Int) < 10 := by omega
      have HI := Lib.hid (fun y => ih (u / 10) (by omega) (by omega) y)
      have e1 : ((u % 10 : Nat) : Int) + 1 ≤ 10 := by omega
      have e2 : (0 : Int) ≤ ((u % 10 : Nat) : Int) := by omega
      have e3 : ((u % 10 : Nat) : Int) ≤ ((u % 10 : Nat) : Int) + 1 := by omega
      have hlen : (Lib.decDigits (u / 10)).length ≤ 20 := by
        rw [Lib.decDigits_length]
        exact Lib.nDigits_le20 _ (by omega)
      have hadd : ∀ y : World, (Op.stringOp .add (bsOf (Lib.decDigits (u / 10))) ((ByteArray.mk #[48, 49, 50, 51, 52, 53, 54, 55, 56, 57]).extract (u % 10) (u % 10 + 1))).run Tryz.prog y = .ok (.string (bsOf (Lib.decDigits u))) y := fun y => by
        rw [add_bs rfl (digit_at (Nat.mod_lt u (by decide))) (by simp; omega)]
        conv => rhs; rw [Lib.decDigits, dif_neg h]
      clear hlen
      go_enter Tryz.func64, Tryz.ntmps64
      go_wp2_with fail
      refine wp_region_ext (by kernel_rfl) (by kernel_rfl) ?_
      repeat (go_big_quiet_step ((go_at_call 64; exact Calls.ext_of (HI.out _))))
      refine wpQuiet_nil ?_
      rintro _ ⟨⟨w1, hx1⟩, rfl⟩
      go_wp2
      go_ret
      exact ⟨rfl, hx1⟩

set_option maxHeartbeats 2000000 in
theorem spec_l1Num {n : Int} (h0 : -9223372036854775807 ≤ n) (h1 : n ≤ 9223372036854775807) {w : World} :
    Calls Tryz.prog 64 #[.int .i64 n] w fun e w' => e = .returned (.string (bsOf (Lib.itoa n))) ∧ Ext w w' := by
  by_cases h : n < 0
  · have HI := Lib.hid (fun y => spec_l1Num_nat n.natAbs (by omega) y)
    have hn : -n = (n.natAbs : Int) := by omega
    rw [← hn] at HI
    have hlen : (Lib.decDigits n.natAbs).length ≤ 20 := by
      rw [Lib.decDigits_length]
      exact Lib.nDigits_le20 _ (by omega)
    have hadd : ∀ y : World, (Op.stringOp .add (ByteArray.mk #[45]) (bsOf (Lib.decDigits n.natAbs))).run Tryz.prog y = .ok (.string (bsOf (Lib.itoa n))) y := fun y => by
      refine (add_bs (a := [45]) (x := ByteArray.mk #[45]) rfl rfl (by simp; omega) y).trans ?_
      unfold Lib.itoa
      rw [if_pos h]; rfl
    have hw : IntKind.i64.wrap (-n) = -n := IntWalk.i64_in _ (by omega)
    clear hn hlen
    go_enter Tryz.func64, Tryz.ntmps64
    go_wp2_with fail
    refine (HI.out _).mono ?_; rintro e w1 ⟨rfl, hx1⟩
    go_wp2
    go_ret
    exact ⟨rfl, hx1⟩
  · have e : n = (n.toNat : Int) := by omega
    have h2 : Lib.itoa n = Lib.decDigits n.toNat := by unfold Lib.itoa; rw [if_neg h]
    rw [h2, e]
    simp only [Int.toNat_natCast]
    exact spec_l1Num_nat n.toNat (by omega) w

end Go.Proofs.YtckgjpaccgpdpaaGreatDoor
