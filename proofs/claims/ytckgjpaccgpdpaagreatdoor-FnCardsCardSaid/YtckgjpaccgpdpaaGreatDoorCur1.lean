/-
  Proved here: what the cursor's next, pick, one, among return, and which block they write.
  Conditions: the cursor lies in one block; counts are small.
-/
import Derived.Test.YtckgjpaccgpdpaaGreatDoorInts
import Derived.Test.YtckgjpaccgpdpaaGreatDoorTouch
import Derived.Test.YtckgjpaccgpdpaaGreatDoorOwn3
namespace Go.Proofs.YtckgjpaccgpdpaaGreatDoor
open Go.RowKit

/-- a cursor that has been read at most n times -/
structure Cur (w : World) (B n : Nat) (co : Option Addr) (m cc : Nat) : Prop where
  lt : B < w.heap.size
  code : w.cell? ⟨B, 0, none⟩ = some (.slice co m cc)
  pos : ∃ a : Nat, a ≤ n ∧ w.cell? ⟨B, 1, none⟩ = some (.int .i64 a)
  seed : ∃ s : Int, (0 ≤ s ∧ s < 18446744073709551616) ∧ w.cell? ⟨B, 2, none⟩ = some (.int .u64 s)
  free : ∀ j, w.frozen? ⟨B, j, none⟩ = false
theorem Cur.ext {w w' : World} {B n : Nat} {co : Option Addr} {m cc : Nat} (h : Cur w B n co m cc) (hx : Ext w w') : Cur w' B n co m cc :=
  ⟨Nat.lt_of_lt_of_le h.lt hx.size, hx.cells h.code, let ⟨a, ha, e⟩ := h.pos; ⟨a, ha, hx.cells e⟩, let ⟨s, hs, e⟩ := h.seed; ⟨s, hs, hx.cells e⟩, fun j => (hx.frozenr _ _ h.lt).trans (h.free j)⟩
theorem Cur.mono {w : World} {B n n' : Nat} {co : Option Addr} {m cc : Nat} (h : Cur w B n co m cc) (hn : n ≤ n') : Cur w B n' co m cc :=
  ⟨h.lt, h.code, let ⟨a, ha, e⟩ := h.pos; ⟨a, Nat.le_trans ha hn, e⟩, h.seed, h.free⟩
theorem Cur.put {w w1 w2 w3 : World} {B n : Nat} {co : Option Addr} {m cc : Nat} (h : Cur w B n co m cc) (h1 : Ext w w1) {a : Nat} (ha : a ≤ n + 1) (h2 : Ext (w1.setCell ⟨B, 1, none⟩ (.int .i64 a)) w2) {s : Int} (hs : 0 ≤ s ∧ s < 18446744073709551616) (h3 : Ext (w2.setCell ⟨B, 2, none⟩ (.int .u64 s)) w3) :
    Cur w3 B (n + 1) co m cc ∧ Touch w w3 (Span B (B + 1)) := by
  have hS : Span B (B + 1) B := ⟨Nat.le_refl _, Nat.lt_succ_self _⟩
  have k1 := h.ext h1
  obtain ⟨a0, _, e1⟩ := k1.pos
  obtain ⟨s0, _, e2⟩ := k1.seed
  have l1 : B < (w1.setCell ⟨B, 1, none⟩ (.int .i64 a)).heap.size := by simpa [World.setCell] using k1.lt
  have c0 : (w1.setCell ⟨B, 1, none⟩ (.int .i64 a)).cell? ⟨B, 0, none⟩ = some (.slice co m cc) := (World.cell?_setCell_other _ _ _ _ (fun e => by cases e)).trans k1.code
  have c1 : (w1.setCell ⟨B, 1, none⟩ (.int .i64 a)).cell? ⟨B, 1, none⟩ = some (.int .i64 a) := World.cell?_setCell_same _ _ _ e1
  have c2 : (w1.setCell ⟨B, 1, none⟩ (.int .i64 a)).cell? ⟨B, 2, none⟩ = some (.int .u64 s0) := (World.cell?_setCell_other _ _ _ _ (fun e => by cases e)).trans e2
  have f1 : ∀ j, (w1.setCell ⟨B, 1, none⟩ (.int .i64 a)).frozen? ⟨B, j, none⟩ = false := fun j => by rw [World.frozen?_setCell]; exact k1.free j
  have l2 : B < (w2.setCell ⟨B, 2, none⟩ (.int .u64 s)).heap.size := by have := Nat.lt_of_lt_of_le l1 h2.size; simpa [World.setCell] using this
  refine ⟨⟨Nat.lt_of_lt_of_le l2 h3.size, h3.cells ((World.cell?_setCell_other _ _ _ _ (fun e => by cases e)).trans (h2.cells c0)), ⟨a, ha, h3.cells ((World.cell?_setCell_other _ _ _ _ (fun e => by cases e)).trans (h2.cells c1))⟩, ⟨s, hs, h3.cells (World.cell?_setCell_same _ _ _ (h2.cells c2))⟩, fun j => (h3.frozenr _ _ l2).trans (by rw [World.frozen?_setCell]; exact (h2.frozenr _ _ l1).trans (f1 j))⟩, ?_⟩
  exact (Touch.of_ext h1).trans ((Touch.set hS).trans ((Touch.of_ext h2).trans ((Touch.set hS).trans (Touch.of_ext h3))))

theorem Ext.drewQ (w : World) (q : Nat) : Ext w (w.drewN q) := by
  induction q with
  | zero => exact Ext.refl _
  | succ q ih => exact (Below.drew ih)
theorem Cur.put' {w : World} {B n q q' : Nat} {co : Option Addr} {m cc : Nat} (h : Cur w B n co m cc) {a : Nat} (ha : a ≤ n) {s : Int} (hs : 0 ≤ s ∧ s < 18446744073709551616) :
    Cur ((((w.drewN q).setCell ⟨B, 1, none⟩ (.int .i64 ((a : Int) + 1))).setCell ⟨B, 2, none⟩ (.int .u64 s)).drewN q') B (n + 1) co m cc ∧ Touch w ((((w.drewN q).setCell ⟨B, 1, none⟩ (.int .i64 ((a : Int) + 1))).setCell ⟨B, 2, none⟩ (.int .u64 s)).drewN q') (Span B (B + 1)) := by
  have e : ((a : Int) + 1) = ((a + 1 : Nat) : Int) := by omega
  rw [e]
  exact h.put (w1 := w.drewN q) (Ext.drewQ _ _) (a := a + 1) (by omega) (Ext.refl _) hs (Ext.drewQ _ _)

theorem u64_range (x : Int) : 0 ≤ IntKind.u64.wrap x ∧ IntKind.u64.wrap x < 18446744073709551616 := by
  constructor
  · simp [IntKind.wrap, IntKind.bits, IntKind.signed]; try omega
  · simp [IntKind.wrap, IntKind.bits, IntKind.signed]; try omega
theorem and255 (E : Int) : 0 ≤ bits BinOp.and IntKind.u64 E 255 ∧ bits BinOp.and IntKind.u64 E 255 ≤ 255 := by
  have h : (BitVec.ofInt 64 E &&& BitVec.ofInt 64 255).toNat ≤ 255 := by
    rw [BitVec.toNat_and]
    exact Nat.and_le_right
  have e : bits BinOp.and IntKind.u64 E 255 = IntKind.u64.wrap ((BitVec.ofInt 64 E &&& BitVec.ofInt 64 255).toNat : Int) := rfl
  rw [e]
  generalize (BitVec.ofInt 64 E &&& BitVec.ofInt 64 255).toNat = q at h
  simp [IntKind.wrap, IntKind.bits, IntKind.signed]; omega

/-- bytes -/
def by8 (bs : Nat → Nat) (k : Nat) (_ : Nat) : Value := .int .u8 (bs k)

theorem cur_next {B n m cc : Nat} {co : Option Addr} {bs : Nat → Nat} {w : World} (h : Cur w B n co m cc) (hr : RowAt w co 1 m (by8 bs)) (hb : ∀ k, bs k < 256) (hm : m ≤ 9223372036854775807) (hn : n ≤ 1000000) :
    Calls Tryz.prog 65 #[.pointer (some ⟨B, 0, none⟩)] w fun e w' => ∃ b : Int, e = .returned (.int .i64 b) ∧ 0 ≤ b ∧ b ≤ 255 ∧ Cur w' B (n + 1) co m cc ∧ Touch w w' (Span B (B + 1)) := by
  obtain ⟨a, ha, c1⟩ := h.pos
  obtain ⟨s, hs, c2⟩ := h.seed
  have c0 := h.code
  have cl := h.lt
  have f1 := h.free 1
  have f2 := h.free 2
  have hs0 := hs.1
  have hs1 := hs.2
  by_cases hlt : a < m
  · obtain ⟨b, off, rfl, hcell⟩ := hr (by omega)
    have d0 := hcell a hlt 0 (by decide)
    simp only [by8, Nat.mul_one, Nat.add_zero] at d0
    have hb0 := hb a
    have hai : (a : Int) < (m : Int) := by omega
    have ha1 : (a : Int) + 1 ≤ (m : Int) := by omega
    clear hcell hr hb
    go_enter Tryz.func65, Tryz.ntmps65
    go_wp2
    go_quiet (fail)
    go_wp2
    go_quiet (fail)
    go_wp2
    go_quiet (fail)
    go_wp2
    go_ret
    exact ⟨_, rfl, by omega, by omega, h.put' ha (u64_range _)⟩
  · have hai : ¬ (a : Int) < (m : Int) := by omega
    have ha1 : ¬ (a : Int) + 1 ≤ (m : Int) := by omega
    clear hr hb
    go_enter Tryz.func65, Tryz.ntmps65
    go_wp2
    go_quiet (fail)
    go_wp2
    go_quiet (fail)
    go_wp2
    go_ret
    refine ⟨_, rfl, ?_, ?_, h.put' ha (u64_range _)⟩
    · rw [IntWalk.wrap64_in _ (by have := and255 (IntKind.u64.wrap (IntKind.u64.wrap (IntKind.u64.wrap (s * 6364136223846793005)) + 938938) / 1099511627776); omega)]; exact (and255 _).1
    · rw [IntWalk.wrap64_in _ (by have := and255 (IntKind.u64.wrap (IntKind.u64.wrap (IntKind.u64.wrap (s * 6364136223846793005)) + 938938) / 1099511627776); omega)]; exact (and255 _).2

/-- a cursor over bytes that were there before it -/
def Cu (w : World) (B n : Nat) : Prop := ∃ co m cc bs, Cur w B n co m cc ∧ RowAt w co 1 m (by8 bs) ∧ (0 < m → ∀ a, co = some a → a.block < B) ∧ (∀ k, bs k < 256) ∧ m ≤ 9223372036854775807
theorem Cu.ext {w w' : World} {B n : Nat} (h : Cu w B n) (hx : Ext w w') : Cu w' B n := by
  obtain ⟨co, m, cc, bs, h1, h2, h3, h4, h5⟩ := h
  exact ⟨co, m, cc, bs, h1.ext hx, h2.ext hx, h3, h4, h5⟩
theorem Cu.mono {w : World} {B n n' : Nat} (h : Cu w B n) (hn : n ≤ n') : Cu w B n' := by
  obtain ⟨co, m, cc, bs, h1, h2, h3, h4, h5⟩ := h
  exact ⟨co, m, cc, bs, h1.mono hn, h2, h3, h4, h5⟩
theorem Cu.lt {w : World} {B n : Nat} (h : Cu w B n) : B < w.heap.size := by
  obtain ⟨co, m, cc, bs, h1, _⟩ := h
  exact h1.lt

theorem cu_next {B n : Nat} {w : World} (h : Cu w B n) (hn : n ≤ 1000000) :
    Calls Tryz.prog 65 #[.pointer (some ⟨B, 0, none⟩)] w fun e w' => ∃ b : Int, e = .returned (.int .i64 b) ∧ (0 ≤ b ∧ b ≤ 255) ∧ Cu w' B (n + 1) ∧ Touch w w' (Span B (B + 1)) := by
  obtain ⟨co, m, cc, bs, h1, h2, h3, h4, h5⟩ := h
  refine (cur_next h1 h2 h4 h5 hn).mono ?_
  rintro e w' ⟨b, rfl, hb0, hb1, hc, ht⟩
  refine ⟨b, rfl, ⟨hb0, hb1⟩, ⟨co, m, cc, bs, hc, fun hm => ?_, h3, h4, h5⟩, ht⟩
  obtain ⟨b', off, e, H⟩ := h2 hm
  have hlt := h3 hm _ e
  exact ⟨b', off, e, fun k hk j hj => (ht.cell (Nat.lt_trans hlt h1.lt) (fun hs => by have h6 : B ≤ b' := hs.1; have h7 : b' < B := hlt; omega)).trans (H k hk j hj)⟩

theorem cu_pick {B n : Nat} {N : Int} {w : World} (h : Cu w B n) (hn : n ≤ 1000000) (h1 : 1 ≤ N) (h2 : N ≤ 200) :
    Calls Tryz.prog 49 #[.pointer (some ⟨B, 0, none⟩), .int .i64 N] w fun e w' => ∃ x : Int, e = .returned (.int .i64 x) ∧ (0 ≤ x ∧ x < N) ∧ Cu w' B (n + 1) ∧ Touch w w' (Span B (B + 1)) := by
  have H := cu_next h hn
  have HC := Lib.hid h; clear h
  by_cases hN : N ≤ 1
  · go_enter Tryz.func49, Tryz.ntmps49
    go_wp2
    go_ret
    exact ⟨0, rfl, ⟨by omega, by omega⟩, HC.out.mono (by omega), Touch.refl _ _⟩
  · have hN0 : ¬ N = 0 := by omega
    go_enter Tryz.func49, Tryz.ntmps49
    go_wp2_with fail
    refine H.mono ?_; rintro e w1 ⟨b, rfl, hb, hc, ht⟩
    have hb0 := hb.1
    have hb1 := hb.2
    have hm0 : 0 ≤ b % N := Int.emod_nonneg _ hN0
    have hm1 : b % N < N := Int.emod_lt_of_pos _ (by omega)
    have HC2 := Lib.hid hc; clear hc
    have HT := Lib.hid ht; clear ht
    go_wp2
    go_ret
    exact ⟨b % N, rfl, ⟨hm0, hm1⟩, HC2.out, HT.out⟩

theorem cu_one {B n : Nat} {N : Int} {w : World} (h : Cu w B n) (hn : n ≤ 1000000) (h1 : 1 ≤ N) (h2 : N ≤ 200) :
    Calls Tryz.prog 26 #[.pointer (some ⟨B, 0, none⟩), .int .i64 N] w fun e w' => ∃ x : Bool, e = .returned (.bool x) ∧ Cu w' B (n + 1) ∧ Touch w w' (Span B (B + 1)) := by
  have H := cu_pick h hn h1 h2
  clear h hn h1 h2
  go_enter Tryz.func26, Tryz.ntmps26
  go_wp2_with fail
  refine H.mono ?_; rintro e w1 ⟨x, rfl, hb, hc, ht⟩
  have HC2 := Lib.hid hc; clear hc
  have HT := Lib.hid ht; clear ht
  go_wp2
  go_ret
  exact ⟨_, rfl, HC2.out, HT.out⟩

theorem cu_among {B n cap : Nat} {ao : Option Addr} {xs : List Int} {w : World} (h : Cu w B n) (hn : n ≤ 1000000) (hr : RowAt w ao 1 xs.length (ic xs)) (h1 : 1 ≤ xs.length) (h2 : xs.length ≤ 200) (hlo : ∀ a, ao = some a → B < a.block) :
    Calls Tryz.prog 50 #[.pointer (some ⟨B, 0, none⟩), .slice ao xs.length cap] w fun e w' => ∃ i : Nat, i < xs.length ∧ e = .returned (.int .i64 (nth xs i)) ∧ Cu w' B (n + 1) ∧ Touch w w' (Span B (B + 1)) := by
  have H := cu_pick (N := xs.length) h hn (by omega) (by omega)
  clear h
  obtain ⟨b, off, rfl, hcell⟩ := ints_at' hr (by omega)
  have hB := hlo _ rfl
  have hbl : b < w.heap.size := World.block_lt_of_cell? _ _ (hcell 0 (by omega))
  go_enter Tryz.func50, Tryz.ntmps50
  go_wp2_with fail
  refine H.mono ?_; rintro e w1 ⟨x, rfl, hb, hc, ht⟩
  have HC2 := Lib.hid hc; clear hc
  have HT := Lib.hid ht; clear ht
  obtain ⟨i, rfl⟩ := Int.eq_ofNat_of_zero_le hb.1
  have hi : i < xs.length := by omega
  have d0 : w1.cell? ⟨b, off + i, none⟩ = some (.int .i64 (nth xs i)) := (HT.out.cell hbl (fun hs => by have h6 := hs.2; have h7 : B < b := hB; omega)).trans (hcell i hi)
  have hi0 : (0 : Int) ≤ (i : Int) := by omega
  have hi1 : (i : Int) < (xs.length : Int) := by omega
  clear hcell hb
  go_wp2
  go_ret
  exact ⟨i, hi, rfl, HC2.out, HT.out⟩

end Go.Proofs.YtckgjpaccgpdpaaGreatDoor
