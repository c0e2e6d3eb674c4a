/-
  Proved here: what slices.Insert does with one entry to a row of entries of the call's own.
  Conditions: the row is short; the entry lies in a block of its own.
-/
import Derived.Test.YtkejhhflpnfepaaCopy
import Derived.Test.YtkejhhflpnfepaaTEntry
import Derived.Lib.Overlaps
import Derived.Laws.Externs
import Derived.WalkSpells
import Derived.Deep.RegionLaw
import Derived.Deep.DrawnRows
import Derived.IntWalk
namespace Go.Proofs.Ytkejhhflpnfepaa
open Go.RowKit

theorem ent_cells : ∀ (x : Ent) (j : Nat), j < 5 → (x.c j).oneCell' = true := by
  intro x j hj
  match j, hj with
  | 0, _ => rfl
  | 1, _ => rfl
  | 2, _ => rfl
  | 3, _ => rfl
  | 4, _ => rfl

attribute [local go_sem ↓] Go.wp_at_zero Go.wp_at_succ

set_option maxRecDepth 100000 in
set_option maxHeartbeats 4000000 in
theorem insert_Ent {base g cap vb : Nat} {ms : List Ent} {x : Ent} {i : Nat} {w : World} (ho : Owns w base 26 5 Ent.c (.slice (some ⟨g, 0, none⟩) ms.length cap) ms) (hb : base ≤ w.heap.size)
    (hv : w.heap[vb]? = some (.cells #[.int .i64 x.runner, .int .i64 x.cls, .int .i64 x.day, .bool x.rent, .int .i64 x.paid] 26 (0, 0))) (hne : vb ≠ g) (hi0 : i ≤ ms.length) (hml : ms.length ≤ 1048577) :
    Calls Try.prog 42 #[.slice (some ⟨g, 0, none⟩) ms.length cap, .int .i64 i, .slice (some ⟨vb, 0, none⟩) 1 1] w fun e w' => ∃ go gc, e = .returned (.slice go (insL ms i x).length gc) ∧ Owns w' base 26 5 Ent.c (.slice go (insL ms i x).length gc) (insL ms i x) ∧ Below base w w' := by
  obtain ⟨i0, hi, hz0, hz1, hz2⟩ := info_parts infoEnt
  have hvr : RowAt w (some ⟨vb, 0, none⟩) 5 [x].length (fun k => (nth [x] k).c) := fun _ => ⟨vb, 0, rfl, fun k hk j hj => by
    obtain rfl : k = 0 := by simp at hk; omega
    match j, hj with
    | 0, _ => simp [World.cell?, hv, nth, Ent.c]
    | 1, _ => simp [World.cell?, hv, nth, Ent.c]
    | 2, _ => simp [World.cell?, hv, nth, Ent.c]
    | 3, _ => simp [World.cell?, hv, nth, Ent.c]
    | 4, _ => simp [World.cell?, hv, nth, Ent.c]⟩
  have hlen := insL_len (x := x) hi0
  by_cases hin : i = ms.length
  · obtain rfl := hin
    have hL : insL ms ms.length x = ms ++ [x] := insL_end
    generalize insL ms ms.length x = L at hL hlen ⊢
    have HL := Lib.hid hL; have HLEN := Lib.hid hlen
    have hcap : (ms.length : Int) ≤ (cap : Int) := by
      obtain ⟨_, _, e, _, _, h1, _⟩ := ho.fresh
      injection e with _ _ e3; omega
    have HO := Lib.hid ho; have HV := Lib.hid hvr
    have teq : ((ms.length : Int) == (ms.length : Int)) = true := by simp
    clear hL hlen ho hvr hv hi0
    go_enter Try.func42, Try.ntmps42
    go_wp2_with (at_builtin; refine wpList_append_bf rfl _ _ 24 rfl 26 i0 _ 5 40 Try.underlying24 hi hz0 hz1 hz2 rfl (by decide) Ent.c ent_cells base hb _ ms [x] L HL rfl HO.out ⟨vb, 0, none⟩ 1 1 rfl rfl HV.out (by simp; omega) (by simp; omega) ?_; intro go1 gc1 w1 ho1 hb1 _ _; have HO1 := Lib.hid ho1; have HB1 := Lib.hid hb1; clear ho1 hb1)
    all_goals
      go_wp2
      go_ret
      exact ⟨go1, gc1, rfl, HO1.out, HB1.out⟩
  · have hil : i < ms.length := by omega
    obtain ⟨_, hcase⟩ : ms.length = ms.length ∧ ∃ cur, base ≤ g ∧ w.heap[g]? = some (.cells cur 26 (0, 0)) ∧ ms.length ≤ cap ∧ cap ≤ maxLen ∧ cur.size = cap * 5 ∧ cur.toList.take (ms.length * 5) = fl 5 Ent.c ms := by
      refine ⟨rfl, ?_⟩
      have h0 : w.ownsRow base 26 5 (.slice (some ⟨g, 0, none⟩) ms.length cap) ms.length (fl 5 Ent.c ms) := ho
      rcases h0.2 with ⟨e, _⟩ | ⟨g', cap', cur, e, h1, h2, h3, h4, h5, h6⟩
      · injection e with e; cases e
      · injection e with e1 e2 e3
        injection e1 with e1; injection e1 with e1
        subst e1 e3
        exact ⟨cur, h1, h2, h3, h4, h5, h6⟩
    obtain ⟨cur, hbg, hg, hnc, hcm, hcs, htk⟩ := hcase
    have hcm' : cap ≤ 9223372036854775807 := by unfold maxLen at hcm; exact hcm
    have hold : ∀ q, q < ms.length * 5 → w.cell? ⟨g, q, none⟩ = (fl 5 Ent.c ms)[q]? := fun q hq => by
      rw [← htk, List.getElem?_take_of_lt hq]
      simp [World.cell?, hg]
    have hsome : ∀ q, q < cap * 5 → (w.cell? ⟨g, q, none⟩).isSome = true := fun q hq => by
      simp only [World.cell?, hg]
      rw [Array.getElem?_eq_getElem (by omega)]
      rfl
    have hfz : ∀ q, w.frozen? ⟨g, q, none⟩ = false := fun q => by simp [World.frozen?, hg]
    have hvc : ∀ j v, ((List.range 5).map (Ent.c x))[j]? = some v → w.cell? ⟨vb, j, none⟩ = some v := fun j v e => by
      match j with
      | 0 => simpa [World.cell?, hv, Ent.c] using e
      | 1 => simpa [World.cell?, hv, Ent.c] using e
      | 2 => simpa [World.cell?, hv, Ent.c] using e
      | 3 => simpa [World.cell?, hv, Ent.c] using e
      | 4 => simpa [World.cell?, hv, Ent.c] using e
      | j + 5 => simp at e
    have hz1' : ¬ ((1 : Int) = 0) := by decide
    have hz2' : ¬ ((i : Int) = (ms.length : Int)) := by omega
    have teq : ((i : Int) == (ms.length : Int)) = false := by simpa using hz2'
    have hii : (0 : Int) ≤ (i : Int) := by omega
    have hi1 : (i : Int) ≤ (ms.length : Int) := by omega
    have hi2 : (i : Int) ≤ (cap : Int) := by omega
    have hi3 : ¬ cap = i := by omega
    have hw1 : IntKind.i64.wrap ((i : Int) + 1) = (i : Int) + 1 := IntWalk.i64_in _ (by omega)
    have hw2 : IntKind.i64.wrap ((ms.length : Int) + 1) = (ms.length : Int) + 1 := IntWalk.i64_in _ (by omega)
    have htn : ((i : Int) + 1).toNat = i + 1 := by omega
    have htm : ((ms.length : Int) + 1).toNat = ms.length + 1 := by omega
    have hfdl : (fl 5 Ent.c (ms.drop i)).length = (ms.length - i) * 5 := by rw [fl_length, List.length_drop]
    have hXl : ((List.range 5).map (Ent.c x)).length = 5 := by simp
    have hX1 : ∀ v ∈ (List.range 5).map (Ent.c x), v.oneCell' = true := fun v hv => by
      simp only [List.mem_map, List.mem_range] at hv
      obtain ⟨j, hj, rfl⟩ := hv
      exact ent_cells x j hj
    have hB1 := fl_one ent_cells (ms.drop i)
    by_cases hroom : ms.length + 1 ≤ cap
    · have hcp1 : ∀ ty dc sc, (Builtin.copy_ #[24, 24] ty #[.slice (some ⟨g, (i + 1) * 5, none⟩) (ms.length - i) dc, .slice (some ⟨g, i * 5, none⟩) (ms.length + 1 - i) sc]).run Try.prog w.drew = .ok (goInt (ms.length - i : Nat)) (w.drew.setCells g ((i + 1) * 5) (fl 5 Ent.c (ms.drop i))) := fun ty dc sc =>
        run_copy_rows w.drew _ _ ty 26 i0 5 g _ _ dc ⟨g, i * 5, none⟩ _ sc _ Try.underlying24 hi hz1 (ms.length - i) (by simp only [Nat.min_def]; split <;> omega) hfdl
          (fun j v hj => by
            rw [Go.WideShapes.add_plain]
            have hjl := (List.getElem?_eq_some_iff.1 hj).1
            rw [hfdl] at hjl
            have := hold (i * 5 + j) (by omega)
            rw [← fl_drop 5 Ent.c ms i j hi0, hj] at this
            exact this)
          (fun j hj => by rw [hfdl] at hj; exact hsome _ (by omega)) (fun j _ => hfz _) hB1
      obtain ⟨W1, hW1⟩ : ∃ W1, W1 = w.drew.setCells g ((i + 1) * 5) (fl 5 Ent.c (ms.drop i)) := ⟨_, rfl⟩
      have hg0 : w.drew.heap[g]? = some (.cells cur 26 (0, 0)) := hg
      obtain ⟨cur1, hg1, hs1⟩ := heap_setCells g (fl 5 Ent.c (ms.drop i)) ((i + 1) * 5) w.drew cur hg0
      rw [← hW1] at hg1
      have hfz1 : ∀ q, W1.frozen? ⟨g, q, none⟩ = false := fun q => by simp [World.frozen?, hg1]
      have hsome1 : ∀ q, q < cap * 5 → (W1.cell? ⟨g, q, none⟩).isSome = true := fun q hq => by
        simp only [World.cell?, hg1]
        rw [Array.getElem?_eq_getElem (by omega)]
        rfl
      have hv1 : ∀ j, W1.cell? ⟨vb, j, none⟩ = w.cell? ⟨vb, j, none⟩ := fun j => by
        rw [hW1, World.cell?_setCells_out g _ _ _ _ (fun h _ => absurd h hne)]
        rfl
      have hcp2 : ∀ (W : World), (∀ y, W.cell? y = W1.cell? y) → (∀ y, W.frozen? y = W1.frozen? y) → ∀ ty dc, (Builtin.copy_ #[24, 24] ty #[.slice (some ⟨g, i * 5, none⟩) (ms.length + 1 - i) dc, .slice (some ⟨vb, 0, none⟩) 1 1]).run Try.prog W = .ok (goInt (1 : Nat)) (W.setCells g (i * 5) ((List.range 5).map (Ent.c x))) := fun W hWc hWf ty dc =>
        run_copy_rows W _ _ ty 26 i0 5 g _ _ dc ⟨vb, 0, none⟩ _ 1 _ Try.underlying24 hi hz1 1 (by simp only [Nat.min_def]; split <;> omega) (by simp)
          (fun j v hj => by rw [Go.WideShapes.add_plain, hWc, Nat.zero_add, hv1]; exact hvc j v hj)
          (fun j hj => by rw [hWc]; rw [hXl] at hj; exact hsome1 _ (by omega)) (fun j _ => by rw [hWf]; exact hfz1 _) hX1
      have hov : ∀ lb cb, (callFunc 75 #[.slice (some ⟨vb, 0, none⟩) 1 1, .slice (some ⟨g, (i + 1) * 5, none⟩) lb cb]).run Try.prog w = .ok (.value (.bool false)) w := fun lb cb => by
        rw [run_callFunc_extern Try.func75 (by kernel_rfl) (by kernel_rfl) (by kernel_rfl) (e := Extern.SlicesOverlaps.overlaps #[24, 24] #[4]) (by kernel_rfl),
          Lib.run_overlaps_apart w 24 4 26 Try.underlying24 5 (fun _ => by kernel_rfl) ⟨vb, 0, none⟩ ⟨g, (i + 1) * 5, none⟩ 1 1 lb cb hne 26 26 5 cur.size (by simp [World.shape?, hv]) (by simp [World.shape?, hg]) (by omega) (by simp [World.frozen?, hv]) (by simp [World.frozen?, hv])]
        rfl
      have hfin : ∀ W : World, W.heap = W1.heap → (∀ y, W.cell? y = W1.cell? y) → Below base w W → Owns (W.setCells g (i * 5) ((List.range 5).map (Ent.c x))) base 26 5 Ent.c (.slice (some ⟨g, 0, none⟩) (insL ms i x).length cap) (insL ms i x) ∧ Below base w (W.setCells g (i * 5) ((List.range 5).map (Ent.c x))) := fun W hWh hWc hWb => by
        have hgW : W.heap[g]? = some (.cells cur1 26 (0, 0)) := by rw [hWh]; exact hg1
        obtain ⟨cur2, hg2, hs2⟩ := heap_setCells g ((List.range 5).map (Ent.c x)) (i * 5) W cur1 hgW
        refine ⟨?_, hWb.trans (below_setCells hbg _ _ _)⟩
        have hcW : ∀ q, q < cap * 5 → (W.cell? ⟨g, q, none⟩).isSome = true := fun q hq => by rw [hWc]; exact hsome1 q hq
        have h0 : ∀ q, (q < (i + 1) * 5) → W.cell? ⟨g, q, none⟩ = w.cell? ⟨g, q, none⟩ := fun q hq => by
          rw [hWc, hW1, World.cell?_setCells_out g _ _ _ _ (fun _ _ => .inl hq)]
          rfl
        have h3 : ∀ q, q < (ms.length - i) * 5 → W.cell? ⟨g, (i + 1) * 5 + q, none⟩ = (fl 5 Ent.c (ms.drop i))[q]? := fun q hq => by
          rw [hWc, hW1, World.cell?_setCells_in g _ _ _ (fun j hj => by rw [hfdl] at hj; exact hsome _ (by omega)) q (by rw [hfdl]; exact hq), List.getElem?_eq_getElem]
        unfold Owns
        refine own_of_cells hbg hg2 (by omega) (by rw [hlen]; exact hroom) hcm (fl_length _ _ _) ?_
        rw [hlen]
        refine ins_cells hi0 (f := fun q => (W.setCells g (i * 5) ((List.range 5).map (Ent.c x))).cell? ⟨g, q, none⟩) (fun q hq => ?_) (fun q hq => ?_) (fun q hq => ?_)
        · show (W.setCells g (i * 5) ((List.range 5).map (Ent.c x))).cell? ⟨g, q, none⟩ = _
          rw [World.cell?_setCells_out g _ _ _ _ (fun _ _ => .inl hq), h0 q (by omega), hold q (by omega)]
        · show (W.setCells g (i * 5) ((List.range 5).map (Ent.c x))).cell? ⟨g, i * 5 + q, none⟩ = _
          rw [World.cell?_setCells_in g _ _ _ (fun j hj => by rw [hXl] at hj; exact hcW _ (by omega)) q (by rw [hXl]; exact hq)]
          simp
        · show (W.setCells g (i * 5) ((List.range 5).map (Ent.c x))).cell? ⟨g, (i + 1) * 5 + q, none⟩ = _
          rw [World.cell?_setCells_out g _ _ _ _ (fun _ _ => .inr (by rw [hXl]; simp only; omega)), h3 q hq, fl_drop 5 Ent.c ms i q hi0]
      rw [← hW1] at hcp1
      have hbW : Below base w W1 := by rw [hW1]; exact ((Below.refl _ _).drew).trans (below_setCells hbg _ _ _)
      have HF := Lib.hid hfin
      have HBW := Lib.hid hbW
      have hi4 : ¬ cap = i + 1 := by omega
      have hi5 : (i : Int) + 1 ≤ (ms.length : Int) + 1 := by omega
      have hi6 : (ms.length : Int) + 1 ≤ (cap : Int) := by omega
      have hi7 : (0 : Int) ≤ (i : Int) + 1 := by omega
      have hi8 : (0 : Int) ≤ (ms.length : Int) + 1 := by omega
      have hi9 : (i : Int) ≤ (ms.length : Int) + 1 := by omega
      have hHV := Lib.hid hv; have HW1 := Lib.hid hW1; have HOLD := Lib.hid hold
      have HLEN := Lib.hid hlen
      clear hfin hbW ho hv hvr hvc hold hsome hfz hsome1 hfz1 hv1 hX1 hB1 hg hg0 hg1 htk hW1 hlen hcs hs1 hcm
      go_enter Try.func42, Try.ntmps42
      go_wp2_with (simp only [hov])
      go_region_law (refine step_copy_eq rfl _ _ 24 24 rfl _ _ (by simp [Act.eval, Act.put]) (by simp [Act.eval, Act.put]) (hcp1 _ _ _) ?_)
      clear hcp1 hov
      go_wp2_with (with_reducible refine wpList_copy_eq _ rfl _ _ 24 24 rfl _ _ rfl rfl (hcp2 _ (fun _ => rfl) (fun _ => rfl) _ _) ?_)
      go_ret
      obtain ⟨r1, r2⟩ := HF.out W1 rfl (fun _ => rfl) HBW.out
      exact ⟨some ⟨g, 0, none⟩, cap, by rw [HLEN.out]; rfl, r1, r2⟩
    · have hk : i + (ms.length + 1 - i) = ms.length + 1 := by omega
      have hkc : ((ms.length + 1 - i : Nat) : Int) = (ms.length : Int) + 1 - (i : Int) := by omega
      have htl : (ms.take i).length = i := by simp; omega
      have hfc : (Builtin.firstCells i0.size i (.slice (some ⟨g, 0, none⟩) i cap)).run Try.prog w.drew = .ok (fl 5 Ent.c (ms.take i)).toArray w.drew :=
        run_firstCells_some (P := Try.prog) w.drew i0.size i ⟨g, 0, none⟩ i cap (fl 5 Ent.c (ms.take i)) (by rw [fl_length, htl, hz1]) (fun j v hj => by
          have hjl := (List.getElem?_eq_some_iff.1 hj).1
          rw [fl_length, htl] at hjl
          rw [Go.WideShapes.add_plain, Nat.zero_add]
          have := hold j (by omega)
          rw [← fl_take 5 Ent.c ms i j hjl hi0, hj] at this
          exact this)
      have happ := fun ty => Lib.run_append_grow_zeros (P := Try.prog) w 24 3 ty 26 i0 _ .i64 .i64 Try.underlying24 Try.underlying3 hi hz0 (some ⟨g, 0, none⟩) i cap _ hfc (ms.length + 1 - i) (by omega) (by omega) (by omega) (by omega) (by rw [hz2]; omega) (by rw [hk, hz2]; exact growslice_fits (by omega) (by omega))
      simp only [hk, hkc] at happ
      have hge := grownCap_ge w (ms.length + 1) cap 26
      have hle := grownCap_le_maxLen w (ms.length + 1) cap 26 (by unfold maxLen; omega)
      generalize grownCap w (ms.length + 1) cap 26 = gcap at happ hge hle
      have hgm : gcap ≤ 9223372036854775807 := by unfold maxLen at hle; exact hle
      obtain ⟨arr, harr⟩ : ∃ arr, arr = (fl 5 Ent.c (ms.take i)).toArray ++ Builtin.zeroCells (#[.int .i64 0, .int .i64 0, .int .i64 0, .bool false, .int .i64 0] : Array Value) (ms.length + 1 - i) ++ Builtin.zeroCells (#[.int .i64 0, .int .i64 0, .int .i64 0, .bool false, .int .i64 0] : Array Value) (gcap - (ms.length + 1)) := ⟨_, rfl⟩
      have hflt : (fl 5 Ent.c (ms.take i)).length = i * 5 := by rw [fl_length, htl]
      have has : arr.size = gcap * 5 := by
        rw [harr, Array.size_append, Array.size_append, size_zeroCells, size_zeroCells, List.size_toArray, hflt]
        simp only [List.size_toArray, List.length_cons, List.length_nil]
        omega
      have hat : ∀ q, q < i * 5 → arr[q]? = (fl 5 Ent.c (ms.take i))[q]? := fun q hq => by
        rw [harr, Array.append_assoc, Array.getElem?_append_left (by simp only [List.size_toArray]; omega)]
        simp
      have happ2 : ∀ ty, (Builtin.append_ #[24, 3] ty #[.slice (some ⟨g, 0, none⟩) i cap, .int .i64 ((ms.length : Int) + 1 - (i : Int))]).run Try.prog w = .ok (.slice (some ⟨w.heap.size, 0, none⟩) (ms.length + 1) gcap) (w.drew.alloc (.cells arr 26)) := fun ty => by
        rw [happ ty, harr]
        rfl
      obtain ⟨H, hH⟩ : ∃ H, H = w.heap.size := ⟨_, rfl⟩
      obtain ⟨W1, hW1⟩ : ∃ W1, W1 = w.drew.alloc (.cells arr 26) := ⟨_, rfl⟩
      rw [← hW1, ← hH] at happ2
      have hgl : g < w.heap.size := (Array.getElem?_eq_some_iff.1 hg).1
      have hvl : vb < w.heap.size := by
        have := (Array.getElem?_eq_some_iff.1 hv).1
        exact this
      have hx1 : Ext w W1 := by rw [hW1]; exact ((Ext.refl w).drew).alloc _
      have hg1 : W1.heap[H]? = some (.cells arr 26 (0, 0)) := by
        rw [hW1, hH]
        exact heap_alloc_new w.drew _
      have hsome1 : ∀ W : World, (∀ cc : Array Value, W.heap[H]? = some (.cells cc 26 (0, 0)) → cc.size = gcap * 5 → ∀ q, q < gcap * 5 → (W.cell? ⟨H, q, none⟩).isSome = true) := fun W cc hW hcc q hq => by
        simp only [World.cell?, hW]
        rw [Array.getElem?_eq_getElem (by omega)]
        rfl
      obtain ⟨W2, hW2⟩ : ∃ W2, W2 = W1.setCells H (i * 5) ((List.range 5).map (Ent.c x)) := ⟨_, rfl⟩
      obtain ⟨c2, hg2, hs2⟩ := heap_setCells H ((List.range 5).map (Ent.c x)) (i * 5) W1 arr hg1
      rw [← hW2] at hg2
      have hcp1 : ∀ ty dc, (Builtin.copy_ #[24, 24] ty #[.slice (some ⟨H, i * 5, none⟩) (ms.length + 1 - i) dc, .slice (some ⟨vb, 0, none⟩) 1 1]).run Try.prog W1 = .ok (goInt (1 : Nat)) W2 := fun ty dc => by
        rw [hW2]
        exact run_copy_rows W1 _ _ ty 26 i0 5 H _ _ dc ⟨vb, 0, none⟩ _ 1 _ Try.underlying24 hi hz1 1 (by simp only [Nat.min_def]; split <;> omega) (by simp)
          (fun j v hj => by rw [Go.WideShapes.add_plain, Nat.zero_add]; exact hx1.cells (hvc j v hj))
          (fun j hj => by rw [hXl] at hj; exact hsome1 W1 arr hg1 has _ (by omega)) (fun j _ => by simp [World.frozen?, hg1]) hX1
      have hne2 : g ≠ H := by omega
      have hcp2 : ∀ (W : World), W.heap = W2.heap → ∀ ty dc sc, (Builtin.copy_ #[24, 24] ty #[.slice (some ⟨H, (i + 1) * 5, none⟩) (ms.length - i) dc, .slice (some ⟨g, i * 5, none⟩) (ms.length - i) sc]).run Try.prog W = .ok (goInt (ms.length - i : Nat)) (W.setCells H ((i + 1) * 5) (fl 5 Ent.c (ms.drop i))) := fun W hWh ty dc sc => by
        have hgW : W.heap[H]? = some (.cells c2 26 (0, 0)) := by rw [hWh]; exact hg2
        exact run_copy_rows W _ _ ty 26 i0 5 H _ _ dc ⟨g, i * 5, none⟩ _ sc _ Try.underlying24 hi hz1 (ms.length - i) (by simp only [Nat.min_def]; split <;> omega) hfdl
          (fun j v hj => by
            rw [Go.WideShapes.add_plain]
            have hjl := (List.getElem?_eq_some_iff.1 hj).1
            rw [hfdl] at hjl
            have := hold (i * 5 + j) (by omega)
            rw [← fl_drop 5 Ent.c ms i j hi0, hj] at this
            rw [World.cell?_of_block (w := W2) (a := ⟨g, _, none⟩) (by rw [hWh]), hW2, World.cell?_setCells_out H _ _ _ _ (fun h _ => absurd h hne2)]
            exact hx1.cells this)
          (fun j hj => by rw [hfdl] at hj; exact hsome1 W c2 hgW (by omega) _ (by omega)) (fun j _ => by simp [World.frozen?, hgW]) hB1
      have hbW1 : Below base w W1 := hx1.mono hb
      have hfin : ∀ W : World, W.heap = W2.heap → Below base w W → Owns (W.setCells H ((i + 1) * 5) (fl 5 Ent.c (ms.drop i))) base 26 5 Ent.c (.slice (some ⟨H, 0, none⟩) (insL ms i x).length gcap) (insL ms i x) ∧ Below base w (W.setCells H ((i + 1) * 5) (fl 5 Ent.c (ms.drop i))) := fun W hWh hWb => by
        have hgW : W.heap[H]? = some (.cells c2 26 (0, 0)) := by rw [hWh]; exact hg2
        obtain ⟨c3, hg3, hs3⟩ := heap_setCells H (fl 5 Ent.c (ms.drop i)) ((i + 1) * 5) W c2 hgW
        have hbH : base ≤ H := by omega
        refine ⟨?_, hWb.trans (below_setCells hbH _ _ _)⟩
        have hWc : ∀ q, W.cell? ⟨H, q, none⟩ = W2.cell? ⟨H, q, none⟩ := fun q => World.cell?_of_block (a := ⟨H, q, none⟩) (by rw [hWh])
        unfold Owns
        refine own_of_cells hbH hg3 (by omega) (by rw [hlen]; exact hge) hle (fl_length _ _ _) ?_
        rw [hlen]
        refine ins_cells hi0 (f := fun q => (W.setCells H ((i + 1) * 5) (fl 5 Ent.c (ms.drop i))).cell? ⟨H, q, none⟩) (fun q hq => ?_) (fun q hq => ?_) (fun q hq => ?_)
        · show (W.setCells H ((i + 1) * 5) (fl 5 Ent.c (ms.drop i))).cell? ⟨H, q, none⟩ = _
          rw [World.cell?_setCells_out H _ _ _ _ (fun _ _ => .inl (by simp only; omega)), hWc, hW2, World.cell?_setCells_out H _ _ _ _ (fun _ _ => .inl hq), ← fl_take 5 Ent.c ms i q hq hi0, ← hat q hq]
          simp [World.cell?, hg1]
        · show (W.setCells H ((i + 1) * 5) (fl 5 Ent.c (ms.drop i))).cell? ⟨H, i * 5 + q, none⟩ = _
          rw [World.cell?_setCells_out H _ _ _ _ (fun _ _ => .inl (by simp only; omega)), hWc, hW2, World.cell?_setCells_in H _ _ _ (fun j hj => by rw [hXl] at hj; exact hsome1 W1 arr hg1 has _ (by omega)) q (by rw [hXl]; exact hq)]
          simp
        · show (W.setCells H ((i + 1) * 5) (fl 5 Ent.c (ms.drop i))).cell? ⟨H, (i + 1) * 5 + q, none⟩ = _
          rw [World.cell?_setCells_in H _ _ _ (fun j hj => by rw [hfdl] at hj; exact hsome1 W c2 hgW (by omega) _ (by omega)) q (by rw [hfdl]; exact hq), ← fl_drop 5 Ent.c ms i q hi0, List.getElem?_eq_getElem]
      have hbW2 : Below base w W2 := by rw [hW2]; exact hbW1.trans (below_setCells (by omega) _ _ _)
      obtain ⟨W3, hW3⟩ : ∃ W3, W3 = W2.drew.setCells H ((i + 1) * 5) (fl 5 Ent.c (ms.drop i)) := ⟨_, rfl⟩
      have hcp3 := hcp2 W2.drew rfl
      obtain ⟨r1, r2⟩ := hfin W2.drew rfl hbW2.drew
      rw [← hW3] at hcp3 r1 r2
      have HR1 := Lib.hid r1
      have HR2 := Lib.hid r2
      clear hcp2 hW3 r1 r2
      have HF := Lib.hid hfin
      have HBW := Lib.hid hbW2
      have HHH := Lib.hid hH
      have HLEN := Lib.hid hlen
      have hi4 : ¬ gcap = i + 1 := by omega
      have hi44 : ¬ gcap = i := by omega
      have hi5 : (i : Int) + 1 ≤ (ms.length : Int) + 1 := by omega
      have hi6 : ¬ (ms.length : Int) + 1 ≤ (cap : Int) := by omega
      have hi7 : (0 : Int) ≤ (i : Int) + 1 := by omega
      have hi9 : (i : Int) ≤ (ms.length : Int) + 1 := by omega
      have hi10 : (ms.length : Int) + 1 ≤ (gcap : Int) := by omega
      clear hfin hbW1 hbW2 ho hv hvr hvc hold hsome hfz hsome1 hX1 hB1 hg hg1 hg2 htk hW1 hW2 hlen hcs hs2 hcm happ hfc hat has harr hx1 hge hle hflt hk hkc htl hH
      go_enter Try.func42, Try.ntmps42
      go_wp2_with (at_builtin; refine Lib.wpList_append_run _ rfl _ _ _ _ rfl _ _ rfl rfl _ _ (happ2 _) ?_)
      clear happ2
      go_wp2_with (with_reducible refine wpList_copy_eq _ rfl _ _ 24 24 rfl _ _ rfl rfl (hcp1 _ _) ?_)
      clear hcp1
      go_region_law (refine step_copy_eq rfl _ _ 24 24 rfl _ _ (by simp [Act.eval, Act.put]) (by simp [Act.eval, Act.put]) (hcp3 _ _ _) ?_)
      go_wp2
      go_ret
      exact ⟨some ⟨H, 0, none⟩, gcap, by rw [HLEN.out]; rfl, HR1.out, HR2.out⟩

end Go.Proofs.Ytkejhhflpnfepaa
