/-
  Proved here: the cursor's choice among written numbers; an empty written slice; a new cursor.
  Conditions: the cursor lies in one block; counts are small.
-/
import Derived.Test.YtckgjpaccgpdpaaGreatDoorCur2
namespace Go.Proofs.YtckgjpaccgpdpaaGreatDoor
open Go.RowKit

theorem cu_lit {B n : Nat} {w : World} {cs : Array Value} {T : TypeId} (xs : List Int) (lo hi : Int) (h : Cu w B n) (hn : n ≤ 1000000) (hcs : cs.toList = xs.map (Value.int .i64)) (hb : ∀ i, i < xs.length → lo ≤ nth xs i ∧ nth xs i ≤ hi) (h1 : 1 ≤ xs.length) (h2 : xs.length ≤ 200) :
    Calls Tryz.prog 50 #[.pointer (some ⟨B, 0, none⟩), .slice (some ⟨w.heap.size, 0, none⟩) xs.length xs.length] (w.alloc (.cells cs T)) fun e w' => ∃ x : Int, e = .returned (.int .i64 x) ∧ (lo ≤ x ∧ x ≤ hi) ∧ Cu w' B (n + 1) ∧ Touch w w' (Span B (B + 1)) := by
  refine (cu_among (xs := xs) (h.ext ((Ext.refl w).alloc _)) hn (lit_ints xs hcs) h1 h2 (fun a e => by injection e with e; subst e; exact h.lt)).mono ?_
  rintro e w' ⟨i, hi', rfl, hc, ht⟩
  exact ⟨nth xs i, rfl, hb i hi', hc, (Touch.of_ext ((Ext.refl w).alloc _)).trans ht⟩

theorem cu_litx {B n : Nat} {w x : World} {cs : Array Value} {T : TypeId} (xs : List Int) (lo hi : Int) (h : Cu w B n) (hn : n ≤ 1000000) (hcs : cs.toList = xs.map (Value.int .i64)) (hb : ∀ i, i < xs.length → lo ≤ nth xs i ∧ nth xs i ≤ hi) (h1 : 1 ≤ xs.length) (h2 : xs.length ≤ 200) (hx : Ext (w.alloc (.cells cs T)) x) :
    Calls Tryz.prog 50 #[.pointer (some ⟨B, 0, none⟩), .slice (some ⟨w.heap.size, 0, none⟩) xs.length xs.length] x fun e w' => ∃ y : Int, e = .returned (.int .i64 y) ∧ (lo ≤ y ∧ y ≤ hi) ∧ Cu w' B (n + 1) ∧ Touch w w' (Span B (B + 1)) := by
  have hwx := ((Ext.refl w).alloc (.cells cs T)).trans hx
  refine (cu_among (xs := xs) (h.ext hwx) hn ((lit_ints xs hcs).ext hx) h1 h2 (fun a e => by injection e with e; subst e; exact h.lt)).mono ?_
  rintro e w' ⟨i, hi', rfl, hc, ht⟩
  exact ⟨nth xs i, rfl, hb i hi', hc, (Touch.of_ext hwx).trans ht⟩

theorem fresh_lit0 {B0 : Nat} {w : World} {T : TypeId} {s : Nat} {c : Nat → Nat → Value} (h : B0 ≤ w.heap.size) : FreshAt B0 (w.alloc (.cells #[] T)) (some ⟨w.heap.size, 0, none⟩) s 0 c :=
  ⟨fun hn => by omega, fun a e => by injection e with e; subst e; exact ⟨h, by simp⟩, fun b off e j => by injection e with e; have h1 : w.heap.size = b := congrArg Addr.block e; rw [← h1]; go_simp⟩

theorem cu_box {w : World} {co : Option Addr} {m cc : Nat} {bs : Nat → Nat} {T : TypeId} (hr : RowAt w co 1 m (by8 bs)) (hb : ∀ k, bs k < 256) (hm : m ≤ 9223372036854775807) :
    Cu (w.alloc (.cells #[.slice co m cc, .int .i64 0, .int .u64 0] T)) w.heap.size 0 := by
  refine ⟨co, m, cc, bs, ⟨by simp, by go_simp, ⟨0, Nat.le_refl _, by go_simp⟩, ⟨0, by decide, by go_simp⟩, fun j => by go_simp⟩, hr.ext ((Ext.refl w).alloc _), fun h0 a e => ?_, hb, hm⟩
  obtain ⟨b, off, e2, H⟩ := hr h0
  rw [e2] at e
  injection e with e
  subst e
  exact World.block_lt_of_cell? _ _ (H 0 h0 0 (by decide))

end Go.Proofs.YtckgjpaccgpdpaaGreatDoor
