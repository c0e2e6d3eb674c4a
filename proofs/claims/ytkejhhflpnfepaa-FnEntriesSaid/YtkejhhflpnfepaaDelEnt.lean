/-
  Proved here: what slices.Delete does with one entry of a row of entries of the call's own.
  Conditions: the row is short.
-/
import Derived.Test.YtkejhhflpnfepaaRowL
import Derived.Test.YtkejhhflpnfepaaInsEnt
import Derived.Test.YtkejhhflpnfepaaEntPl
namespace Go.Proofs.Ytkejhhflpnfepaa
open Go.RowKit

attribute [local go_sem ↓] Go.wp_at_zero Go.wp_at_succ

set_option maxRecDepth 100000 in
set_option maxHeartbeats 2000000 in
theorem delete_Ent {B0 g cap i n : Nat} {xs : List Ent} {w : World} (hxl : xs.length = n + 1) (h : FreshAt B0 w (some ⟨g, 0, none⟩) 5 xs.length (fun k => (nth xs k).c)) (hi : i < xs.length) (hn : xs.length ≤ 1048577) (hcap : xs.length ≤ cap) (hcm : cap ≤ 9223372036854775807) :
    Calls Try.prog 46 #[.slice (some ⟨g, 0, none⟩) (n + 1) cap, .int .i64 i, .int .i64 ((i : Int) + 1)] w fun e w' => e = .returned (.slice (some ⟨g, 0, none⟩) n cap) ∧ w.grownBy w' (some g) ∧ FreshAt B0 w' (some ⟨g, 0, none⟩) 5 (delL xs i).length (fun k => (nth (delL xs i) k).c) := by
  obtain ⟨i0, hinf, hz0, hz1, hz2⟩ := info_parts infoEnt
  have hbase := (h.base _ rfl).1
  have hg0 : g < w.heap.size := (h.base _ rfl).2
  have hc := cells_of_row (by decide) h.row
  have hfz := h.free g 0 rfl
  have hdl : (delL xs i).length = n := by rw [delL_len hi]; omega
  have hlt : (fl 5 Ent.c (xs.take i)).length = i * 5 := by rw [fl_length, List.length_take, Nat.min_eq_left (Nat.le_of_lt hi)]
  have hld : (fl 5 Ent.c (xs.drop (i + 1))).length = (n - i) * 5 := by rw [fl_length, List.length_drop, hxl]; congr 1; omega
  have hsome : ∀ q, q < (n + 1) * 5 → (w.cell? ⟨g, q, none⟩).isSome = true := fun q hq => by
    rw [hc q (by rw [hxl]; exact hq), List.getElem?_eq_getElem (by rw [fl_length, hxl]; exact hq)]; rfl
  obtain ⟨W1, hW1⟩ : ∃ W1, W1 = w.drew.setCells g (i * 5) (fl 5 Ent.c (xs.drop (i + 1))) := ⟨_, rfl⟩
  have hap : ∀ ty c' a', (n - i ≠ 0 → a' = ⟨g, (i + 1) * 5, none⟩) → (Builtin.append_ #[24, 24] ty #[.slice (some ⟨g, 0, none⟩) i cap, .slice (some a') (n - i) c']).run Try.prog w.drew = .ok (.slice (some ⟨g, 0, none⟩) n cap) W1 := fun ty c' a' ha => by
    have := run_append_room_cells (P := Try.prog) (w := w.drew) 24 ty 26 i0 Try.underlying24 hinf g 0 i cap a' (n - i) c' (fl 5 Ent.c (xs.drop (i + 1))) (by rw [hld, hz1])
      (fun j u hj => by
        have hjl := (List.getElem?_eq_some_iff.1 hj).1
        rw [hld] at hjl
        have hne : n - i ≠ 0 := by intro e; rw [e] at hjl; omega
        rw [ha hne, Go.WideShapes.add_plain]
        have h1 := hc ((i + 1) * 5 + j) (by rw [hxl]; omega)
        rw [← fl_drop 5 Ent.c xs (i + 1) j hi, hj] at h1
        exact h1)
      (fl_one ent_cells _) (by omega) (fun j hj => by rw [hld] at hj; exact hsome _ (by rw [hz1]; omega)) (fun j _ => hfz _)
    rw [this, hW1, hz1, Nat.zero_add, show i + (n - i) = n by omega]
  have hcell1 : ∀ q, q < n * 5 → W1.cell? ⟨g, q, none⟩ = (fl 5 Ent.c (delL xs i))[q]? := fun q hq => by
    unfold delL
    rw [fl_append, hW1]
    by_cases c1 : q < i * 5
    · rw [World.cell?_setCells_out g _ _ _ _ (fun _ _ => .inl c1), List.getElem?_append_left (by omega), fl_take 5 Ent.c xs i q c1 (Nat.le_of_lt hi)]
      exact hc q (by rw [hxl]; omega)
    · obtain ⟨j, rfl⟩ : ∃ j, q = i * 5 + j := ⟨q - i * 5, by omega⟩
      rw [World.cell?_setCells_in g _ _ _ (fun j hj => by rw [hld] at hj; exact hsome _ (by omega)) j (by rw [hld]; omega), List.getElem?_append_right (by omega), hlt, show i * 5 + j - i * 5 = j by omega, List.getElem?_eq_getElem]
  have hsome1 : ∀ q, q < (n + 1) * 5 → (W1.cell? ⟨g, q, none⟩).isSome = true := fun q hq => by
    rw [hW1]
    by_cases c1 : i * 5 ≤ q ∧ q < i * 5 + (n - i) * 5
    · obtain ⟨j, rfl⟩ : ∃ j, q = i * 5 + j := ⟨q - i * 5, by omega⟩
      rw [World.cell?_setCells_in g _ _ _ (fun j hj => by rw [hld] at hj; exact hsome _ (by omega)) j (by rw [hld]; omega)]; rfl
    · rw [World.cell?_setCells_out g _ _ _ _ (fun _ _ => by rw [hld]; simp only; omega)]
      exact hsome q hq
  have hfz1 : ∀ q, W1.frozen? ⟨g, q, none⟩ = false := fun q => by rw [hW1, World.frozen?_setCells]; exact hfz q
  have hsz1 : g < W1.heap.size := by rw [hW1, size_setCells]; exact hg0
  have hgr : ∀ (vs : List Value) (o : Nat) (x : World), w.grownBy x (some g) → w.grownBy (x.setCells g o vs) (some g) := by
    intro vs
    induction vs with
    | nil => intro o x hx; exact hx
    | cons v vs ih => intro o x hx; exact ih (o + 1) _ (grown_setCell hx)
  have hgr1 : w.grownBy W1 (some g) := by rw [hW1]; exact hgr _ _ _ ⟨rfl, rfl, rfl, Nat.le_refl _, fun _ _ _ => rfl⟩
  have hz : ∀ w, (zeroValue 26).run Try.prog w = .ok (.agg #[.int .i64 0, .int .i64 0, .int .i64 0, .bool false, .int .i64 0]) w := fun _ => by kernel_rfl
  obtain ⟨ZS, hZS⟩ : ∃ ZS, ZS = (Builtin.zeroCells (#[.int .i64 0, .int .i64 0, .int .i64 0, .bool false, .int .i64 0] : Array Value) 1).toList := ⟨_, rfl⟩
  have hcl : ∀ ty c', (Builtin.clear_ #[24] ty #[.slice (some ⟨g, n * 5, none⟩) 1 c']).run Try.prog W1 = .ok (.tuple #[]) (W1.setCells g (n * 5) ZS) := fun ty c' => by
    rw [hZS]
    exact run_clear_rows W1 24 ty 26 Try.underlying24 _ hz (by decide) (by decide) g (n * 5) 1 c' (by omega) (fun j hj => hsome1 _ (by simp only [Value.cells] at hj; simp at hj; omega)) hfz1
  have hend : w.grownBy (W1.setCells g (n * 5) ZS) (some g) ∧ FreshAt B0 (W1.setCells g (n * 5) ZS) (some ⟨g, 0, none⟩) 5 (delL xs i).length (fun k => (nth (delL xs i) k).c) := by
    refine ⟨hgr _ _ _ hgr1, ⟨row_of_cells fun q hq => ?_, fun a e => ?_, fun b off e j => ?_⟩⟩
    · rw [hdl] at hq
      rw [World.cell?_setCells_out g _ _ _ _ (fun _ _ => .inl hq)]
      exact hcell1 q hq
    · injection e with e; subst e; exact ⟨hbase, by rw [size_setCells]; exact hsz1⟩
    · injection e with e; injection e with e1 e2; subst e1
      rw [World.frozen?_setCells]; exact hfz1 j
  have HEND := Lib.hid hend
  have hin : i ≤ n := by omega
  have hi1 : (i : Int) ≤ (n : Int) := by omega
  have hi2 : (i : Int) + 1 ≤ (n : Int) + 1 := by omega
  have hi3 : (i : Int) + 1 ≤ (cap : Int) := by omega
  have hi4 : (n : Int) + 1 ≤ (cap : Int) := by omega
  have hi5 : (0 : Int) ≤ (i : Int) + 1 := by omega
  have hnb : (n : Int) ≤ 1048577 := by omega
  have hne : ¬ cap = n := by omega
  have htn : ((i : Int) + 1).toNat = i + 1 := by omega
  have hw1 : IntKind.i64.wrap ((i : Int) + 1) = (i : Int) + 1 := IntWalk.i64_in _ (by omega)
  have teq : ((i : Int) == (i : Int) + 1) = false := by simp; omega
  clear hend hgr1 hgr hsz1 hfz1 hsome1 hcell1 hW1 hc hfz hdl hlt hld hsome hbase hg0 hZS hz
  by_cases hcj : cap = i + 1
  · obtain rfl : n = i := by omega
    have hap1 := fun ty c' a' => hap ty c' a' (fun h => absurd (Nat.sub_self n) h)
    rw [Nat.sub_self] at hap1
    clear hap hxl
    subst hcj
    have hx1 : (n : Int) ≤ (n : Int) + 1 := by omega
    go_enter Try.func46, Try.ntmps46
    go_wp2
    go_region_law (refine step_append_eq rfl _ _ 24 rfl _ _ rfl rfl (hap1 _ _ _) ?_)
    clear hap1
    go_wp2_with (simp only [hcl])
    go_ret
    exact ⟨rfl, HEND.out.1, HEND.out.2⟩
  · have hap1 := fun ty c' => hap ty c' ⟨g, (i + 1) * 5, none⟩ (fun _ => rfl)
    clear hap hxl
    have hx2 : (i : Int) ≤ (cap : Int) := by omega
    have hx3 : n + 1 - (i + 1) = n - i := by omega
    go_enter Try.func46, Try.ntmps46
    go_wp2
    go_region_law (refine step_append_eq rfl _ _ 24 rfl _ _ rfl rfl (hap1 _ _) ?_)
    clear hap1
    go_wp2_with (simp only [hcl])
    go_ret
    exact ⟨rfl, HEND.out.1, HEND.out.2⟩

end Go.Proofs.Ytkejhhflpnfepaa
