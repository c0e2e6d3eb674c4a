/-
  Proved here: what isEntry, AreEntries and their references return.
  Conditions: the number of entries fits an int.
-/
import Derived.Test.YtkejhhflpnfepaaEntPl
namespace Go.Proofs.Ytkejhhflpnfepaa
open Go.RowKit

theorem Grow.new {w : World} {cs : Array Value} {T : TypeId} {j : Nat} {v : Value} (h : cs[j]? = some v) : ∀ x : Grow (w.alloc (.cells cs T)), x.w.cell? ⟨w.heap.size, j, none⟩ = some v := Grow.cells (by rw [World.cell?_alloc_new]; simpa using h)

theorem impl_isDay {x : Int} {w : World} :
    Calls Try.prog 45 #[.int .i64 x] w fun e w' => e = .returned (.bool (inB x 0 365)) ∧ w = w' := by
  go_enter Try.func45, Try.ntmps45
  go_wp2_with (go_at_call 56; refine (impl_inside).mono ?_; rintro e w1 ⟨rfl, rfl⟩)
  go_ret
  exact ⟨rfl, rfl⟩
theorem spec_l11Day {x : Int} {w : World} :
    Calls Try.prog 58 #[.int .i64 x] w fun e w' => e = .returned (.bool (inB x 0 365)) ∧ w = w' := by
  go_enter Try.func58, Try.ntmps58
  go_wp2_with (go_at_call 57; refine (spec_l1In).mono ?_; rintro e w1 ⟨rfl, rfl⟩)
  go_ret
  exact ⟨rfl, rfl⟩

theorem impl_isEntry {r c d p : Int} {g : Bool} {w : World} :
    Calls Try.prog 50 #[.agg #[.int .i64 r, .int .i64 c, .int .i64 d, .bool g, .int .i64 p]] w fun e w' => e = .returned (.bool (entB ⟨r, c, d, g, p⟩)) ∧ Ext w w' := by
  go_enter Try.func50, Try.ntmps50
  go_wp2_with (first | (go_at_call 56; refine (impl_inside).mono ?_; rintro e w1 ⟨rfl, rfl⟩) | (go_at_call 45; refine (impl_isDay).mono ?_; rintro e w1 ⟨rfl, rfl⟩))
  all_goals go_ret
  all_goals exact ⟨ret_b (by simp [entB, *]), (by repeat (first | (with_reducible exact Ext.refl _) | (with_reducible assumption) | with_reducible refine Ext.drew ?_ | with_reducible refine Ext.alloc ?_ _ | with_reducible refine Ext.setCell ?_ (by first | (simp; done) | (simp; omega) | omega) _ | with_reducible refine Ext.trans ?_ (by with_reducible assumption)))⟩
theorem spec_l11One {r c d p : Int} {g : Bool} {w : World} :
    Calls Try.prog 69 #[.agg #[.int .i64 r, .int .i64 c, .int .i64 d, .bool g, .int .i64 p]] w fun e w' => e = .returned (.bool (entB ⟨r, c, d, g, p⟩)) ∧ Ext w w' := by
  go_enter Try.func69, Try.ntmps69
  go_wp2_with (first | (go_at_call 57; refine (spec_l1In).mono ?_; rintro e w1 ⟨rfl, rfl⟩) | (go_at_call 58; refine (spec_l11Day).mono ?_; rintro e w1 ⟨rfl, rfl⟩))
  all_goals go_ret
  all_goals exact ⟨ret_b (by simp [entB, *]), (by repeat (first | (with_reducible exact Ext.refl _) | (with_reducible assumption) | with_reducible refine Ext.drew ?_ | with_reducible refine Ext.alloc ?_ _ | with_reducible refine Ext.setCell ?_ (by first | (simp; done) | (simp; omega) | omega) _ | with_reducible refine Ext.trans ?_ (by with_reducible assumption)))⟩

set_option maxHeartbeats 1000000 in
theorem impl_AreEntries {ao : Option Addr} {cap : Nat} {ms : List Ent} {w : World} (h : RowAt w ao 5 ms.length (fun k => (nth ms k).c)) (hn : ms.length ≤ 9223372036854775807) :
    Calls Try.prog 16 #[.slice ao ms.length cap] w fun e w' => e = .returned (.bool (entsB ms)) ∧ Ext w w' := by
  obtain ⟨n, hN⟩ : ∃ n, n = ms.length := ⟨_, rfl⟩
  have hfin : entsB ms = (upto (okEnt ms) n && decide (n ≤ 12)) := by rw [hN]; rfl
  have HF := Lib.hid hfin; clear hfin
  rw [← hN] at hn h ⊢
  clear hN
  go_enter Try.func16, Try.ntmps16
  go_wp2
  go_loopw [7] (fun i wr => ∃ k : Nat, k ≤ n ∧ i = .int .i64 k ∧ Ext w wr ∧ upto (okEnt ms) k = true) (fun i _ => n - (intOf i).toNat)
  case atStart => exact ⟨0, Nat.zero_le _, rfl, Ext.refl _, rfl⟩
  case round =>
    obtain ⟨k, hk, rfl, hx, hu⟩ := hrel
    have HU := Lib.hid hu; clear hu
    by_cases hlt : k < n
    · obtain ⟨b, off, rfl, hcell⟩ := h (by omega)
      have d0 := hx.cells (hcell k hlt 0 (by decide))
      have d1 := hx.cells (hcell k hlt 1 (by decide))
      have d2 := hx.cells (hcell k hlt 2 (by decide))
      have d3 := hx.cells (hcell k hlt 3 (by decide))
      have d4 := hx.cells (hcell k hlt 4 (by decide))
      simp only [Ent.c0, Ent.c1, Ent.c2, Ent.c3, Ent.c4, Nat.add_zero] at d0 d1 d2 d3 d4
      have hx0 : Ext wr (wr.alloc (.cells #[.int .i64 (nth ms k).runner, .int .i64 (nth ms k).cls, .int .i64 (nth ms k).day, .bool (nth ms k).rent, .int .i64 (nth ms k).paid] 26)) := (Ext.refl _).alloc _
      have g0 := Grow.new (w := wr) (T := 26) (cs := #[.int .i64 (nth ms k).runner, .int .i64 (nth ms k).cls, .int .i64 (nth ms k).day, .bool (nth ms k).rent, .int .i64 (nth ms k).paid]) (j := 0) rfl
      have g1 := Grow.new (w := wr) (T := 26) (cs := #[.int .i64 (nth ms k).runner, .int .i64 (nth ms k).cls, .int .i64 (nth ms k).day, .bool (nth ms k).rent, .int .i64 (nth ms k).paid]) (j := 1) rfl
      have g2 := Grow.new (w := wr) (T := 26) (cs := #[.int .i64 (nth ms k).runner, .int .i64 (nth ms k).cls, .int .i64 (nth ms k).day, .bool (nth ms k).rent, .int .i64 (nth ms k).paid]) (j := 2) rfl
      have g3 := Grow.new (w := wr) (T := 26) (cs := #[.int .i64 (nth ms k).runner, .int .i64 (nth ms k).cls, .int .i64 (nth ms k).day, .bool (nth ms k).rent, .int .i64 (nth ms k).paid]) (j := 3) rfl
      have g4 := Grow.new (w := wr) (T := 26) (cs := #[.int .i64 (nth ms k).runner, .int .i64 (nth ms k).cls, .int .i64 (nth ms k).day, .bool (nth ms k).rent, .int .i64 (nth ms k).paid]) (j := 4) rfl
      have p0 : ∀ x : Grow (wr.alloc (.cells #[.int .i64 (nth ms k).runner, .int .i64 (nth ms k).cls, .int .i64 (nth ms k).day, .bool (nth ms k).rent, .int .i64 (nth ms k).paid] 26)), 0 < k → x.w.cell? ⟨b, off + (k - 1) * 5, none⟩ = some (.int .i64 (nth ms (k - 1)).runner) := fun x hk0 => x.h.cells (hx0.cells (hx.cells (hcell (k - 1) (by omega) 0 (by decide))))
      have HE := Lib.hid (fun x => (impl_isEntry (r := (nth ms k).runner) (c := (nth ms k).cls) (d := (nth ms k).day) (g := (nth ms k).rent) (p := (nth ms k).paid) (w := x)))
      clear hcell h hx0
      go_wp2
      cases hA : entB (nth ms k)
      · have HA := Lib.hid hA; clear hA
        refine wp_region_ext (by kernel_rfl) (by kernel_rfl) ?_
        repeat (go_big_quiet_step ((go_at_call 50; exact Calls.ext_of (by have := HE.out; simp only [show entB ⟨(nth ms k).runner, (nth ms k).cls, (nth ms k).day, (nth ms k).rent, (nth ms k).paid⟩ = false from HA.out] at this; exact this _))))
        refine wpQuiet_nil ?_
        rintro _ ⟨⟨w1, hx1⟩, rfl⟩
        clear g0 g1 g2 g3 g4 p0
        go_wp2
        go_ret
        exact ⟨ret_b (by rw [HF.out, upto_false hlt (okEnt_a HA.out)]; rfl), (by repeat (first | (with_reducible exact Ext.refl _) | (with_reducible assumption) | with_reducible refine Ext.drew ?_ | with_reducible refine Ext.alloc ?_ _ | with_reducible refine Ext.setCell ?_ (by first | (simp; done) | (simp; omega) | omega) _ | with_reducible refine Ext.trans ?_ (by with_reducible assumption)))⟩
      · have HA := Lib.hid hA; clear hA
        by_cases hC : 0 < k
        · by_cases hD : (nth ms k).runner ≤ (nth ms (k - 1)).runner
          · refine wp_region_ext (by kernel_rfl) (by kernel_rfl) ?_
            repeat (go_big_quiet_step ((go_at_call 50; exact Calls.ext_of (by have := HE.out; simp only [show entB ⟨(nth ms k).runner, (nth ms k).cls, (nth ms k).day, (nth ms k).rent, (nth ms k).paid⟩ = true from HA.out] at this; exact this _))))
            refine wpQuiet_nil ?_
            rintro _ ⟨⟨w1, hx1⟩, rfl⟩
            clear g0 g1 g2 g3 g4 p0
            go_wp2
            go_ret
            exact ⟨ret_b (by rw [HF.out, upto_false hlt (okEnt_b hC hD)]; rfl), (by repeat (first | (with_reducible exact Ext.refl _) | (with_reducible assumption) | with_reducible refine Ext.drew ?_ | with_reducible refine Ext.alloc ?_ _ | with_reducible refine Ext.setCell ?_ (by first | (simp; done) | (simp; omega) | omega) _ | with_reducible refine Ext.trans ?_ (by with_reducible assumption)))⟩
          · refine wp_region_ext (by kernel_rfl) (by kernel_rfl) ?_
            repeat (go_big_quiet_step ((go_at_call 50; exact Calls.ext_of (by have := HE.out; simp only [show entB ⟨(nth ms k).runner, (nth ms k).cls, (nth ms k).day, (nth ms k).rent, (nth ms k).paid⟩ = true from HA.out] at this; exact this _))))
            refine wpQuiet_nil ?_
            rintro _ ⟨⟨w1, hx1⟩, rfl⟩
            clear g0 g1 g2 g3 g4 p0
            go_wp2
            go_roundw
            case rel => exact ⟨k + 1, by omega, by go_num, (by repeat (first | (with_reducible exact Ext.refl _) | (with_reducible assumption) | with_reducible refine Ext.drew ?_ | with_reducible refine Ext.alloc ?_ _ | with_reducible refine Ext.setCell ?_ (by first | (simp; done) | (simp; omega) | omega) _ | with_reducible refine Ext.trans ?_ (by with_reducible assumption))), upto_succ HU.out (okEnt_c HA.out hD)⟩
            case measure => simp [intOf]; omega
        · have hd : decide ((0 : Int) < (k : Int)) = false := by simpa using hC
          refine wp_region_ext (by kernel_rfl) (by kernel_rfl) ?_
          repeat (go_big_quiet_step ((go_at_call 50; exact Calls.ext_of (by have := HE.out; simp only [show entB ⟨(nth ms k).runner, (nth ms k).cls, (nth ms k).day, (nth ms k).rent, (nth ms k).paid⟩ = true from HA.out] at this; exact this _))))
          refine wpQuiet_nil ?_
          rintro _ ⟨⟨w1, hx1⟩, rfl⟩
          clear g0 g1 g2 g3 g4 p0
          go_wp2
          go_roundw
          case rel => exact ⟨k + 1, by omega, by go_num, (by repeat (first | (with_reducible exact Ext.refl _) | (with_reducible assumption) | with_reducible refine Ext.drew ?_ | with_reducible refine Ext.alloc ?_ _ | with_reducible refine Ext.setCell ?_ (by first | (simp; done) | (simp; omega) | omega) _ | with_reducible refine Ext.trans ?_ (by with_reducible assumption))), upto_succ HU.out (okEnt_d HA.out hC)⟩
          case measure => simp [intOf]; omega
    · obtain rfl : k = n := by omega
      go_wp2
      go_ret
      exact ⟨ret_b (by rw [HF.out, HU.out]; simp; omega), hx⟩

set_option maxHeartbeats 1000000 in
theorem spec_l11Good {ao : Option Addr} {cap : Nat} {ms : List Ent} {w : World} (h : RowAt w ao 5 ms.length (fun k => (nth ms k).c)) (hn : ms.length ≤ 9223372036854775807) :
    Calls Try.prog 43 #[.slice ao ms.length cap] w fun e w' => e = .returned (.bool (entsB ms)) ∧ Ext w w' := by
  obtain ⟨n, hN⟩ : ∃ n, n = ms.length := ⟨_, rfl⟩
  have hfin : entsB ms = (upto (okEnt ms) n && decide (n ≤ 12)) := by rw [hN]; rfl
  have HF := Lib.hid hfin; clear hfin
  rw [← hN] at hn h ⊢
  clear hN
  go_enter Try.func43, Try.ntmps43
  go_wp2
  go_loopw [3] (fun i wr => ∃ k : Nat, k ≤ n ∧ i = .int .i64 k ∧ Ext w wr ∧ upto (okEnt ms) k = true) (fun i _ => n - (intOf i).toNat)
  case atStart => exact ⟨0, Nat.zero_le _, rfl, Ext.refl _, rfl⟩
  case round =>
    obtain ⟨k, hk, rfl, hx, hu⟩ := hrel
    have HU := Lib.hid hu; clear hu
    by_cases hlt : k < n
    · obtain ⟨b, off, rfl, hcell⟩ := h (by omega)
      have g0 := Grow.cells (show wr.cell? ⟨b, off + k * 5, none⟩ = some (.int .i64 (nth ms k).runner) from hx.cells (hcell k hlt 0 (by decide)))
      have g1 := Grow.cells (show wr.cell? ⟨b, off + k * 5 + 1, none⟩ = some (.int .i64 (nth ms k).cls) from hx.cells (hcell k hlt 1 (by decide)))
      have g2 := Grow.cells (show wr.cell? ⟨b, off + k * 5 + 2, none⟩ = some (.int .i64 (nth ms k).day) from hx.cells (hcell k hlt 2 (by decide)))
      have g3 := Grow.cells (show wr.cell? ⟨b, off + k * 5 + 3, none⟩ = some (.bool (nth ms k).rent) from hx.cells (hcell k hlt 3 (by decide)))
      have g4 := Grow.cells (show wr.cell? ⟨b, off + k * 5 + 4, none⟩ = some (.int .i64 (nth ms k).paid) from hx.cells (hcell k hlt 4 (by decide)))
      have p0 : ∀ x : Grow wr, 0 < k → x.w.cell? ⟨b, off + (k - 1) * 5, none⟩ = some (.int .i64 (nth ms (k - 1)).runner) := fun x hk0 => x.h.cells (hx.cells (hcell (k - 1) (by omega) 0 (by decide)))
      have HE := Lib.hid (fun x => (spec_l11One (r := (nth ms k).runner) (c := (nth ms k).cls) (d := (nth ms k).day) (g := (nth ms k).rent) (p := (nth ms k).paid) (w := x)))
      clear hcell h
      go_wp2
      cases hA : entB (nth ms k)
      · have HA := Lib.hid hA; clear hA
        refine wp_region_ext (by kernel_rfl) (by kernel_rfl) ?_
        repeat (go_big_quiet_step ((go_at_call 69; exact Calls.ext_of (by have := HE.out; simp only [show entB ⟨(nth ms k).runner, (nth ms k).cls, (nth ms k).day, (nth ms k).rent, (nth ms k).paid⟩ = false from HA.out] at this; exact this _))))
        refine wpQuiet_nil ?_
        rintro _ ⟨⟨w1, hx1⟩, rfl⟩
        clear g0 g1 g2 g3 g4 p0
        go_wp2
        go_ret
        exact ⟨ret_b (by rw [HF.out, upto_false hlt (okEnt_a HA.out)]; rfl), (by repeat (first | (with_reducible exact Ext.refl _) | (with_reducible assumption) | with_reducible refine Ext.drew ?_ | with_reducible refine Ext.alloc ?_ _ | with_reducible refine Ext.setCell ?_ (by first | (simp; done) | (simp; omega) | omega) _ | with_reducible refine Ext.trans ?_ (by with_reducible assumption)))⟩
      · have HA := Lib.hid hA; clear hA
        by_cases hC : 0 < k
        · by_cases hD : (nth ms k).runner ≤ (nth ms (k - 1)).runner
          · refine wp_region_ext (by kernel_rfl) (by kernel_rfl) ?_
            repeat (go_big_quiet_step ((go_at_call 69; exact Calls.ext_of (by have := HE.out; simp only [show entB ⟨(nth ms k).runner, (nth ms k).cls, (nth ms k).day, (nth ms k).rent, (nth ms k).paid⟩ = true from HA.out] at this; exact this _))))
            refine wpQuiet_nil ?_
            rintro _ ⟨⟨w1, hx1⟩, rfl⟩
            clear g0 g1 g2 g3 g4 p0
            go_wp2
            go_ret
            exact ⟨ret_b (by rw [HF.out, upto_false hlt (okEnt_b hC hD)]; rfl), (by repeat (first | (with_reducible exact Ext.refl _) | (with_reducible assumption) | with_reducible refine Ext.drew ?_ | with_reducible refine Ext.alloc ?_ _ | with_reducible refine Ext.setCell ?_ (by first | (simp; done) | (simp; omega) | omega) _ | with_reducible refine Ext.trans ?_ (by with_reducible assumption)))⟩
          · refine wp_region_ext (by kernel_rfl) (by kernel_rfl) ?_
            repeat (go_big_quiet_step ((go_at_call 69; exact Calls.ext_of (by have := HE.out; simp only [show entB ⟨(nth ms k).runner, (nth ms k).cls, (nth ms k).day, (nth ms k).rent, (nth ms k).paid⟩ = true from HA.out] at this; exact this _))))
            refine wpQuiet_nil ?_
            rintro _ ⟨⟨w1, hx1⟩, rfl⟩
            clear g0 g1 g2 g3 g4 p0
            go_wp2
            go_roundw
            case rel => exact ⟨k + 1, by omega, by go_num, (by repeat (first | (with_reducible exact Ext.refl _) | (with_reducible assumption) | with_reducible refine Ext.drew ?_ | with_reducible refine Ext.alloc ?_ _ | with_reducible refine Ext.setCell ?_ (by first | (simp; done) | (simp; omega) | omega) _ | with_reducible refine Ext.trans ?_ (by with_reducible assumption))), upto_succ HU.out (okEnt_c HA.out hD)⟩
            case measure => simp [intOf]; omega
        · have hd : decide ((0 : Int) < (k : Int)) = false := by simpa using hC
          refine wp_region_ext (by kernel_rfl) (by kernel_rfl) ?_
          repeat (go_big_quiet_step ((go_at_call 69; exact Calls.ext_of (by have := HE.out; simp only [show entB ⟨(nth ms k).runner, (nth ms k).cls, (nth ms k).day, (nth ms k).rent, (nth ms k).paid⟩ = true from HA.out] at this; exact this _))))
          refine wpQuiet_nil ?_
          rintro _ ⟨⟨w1, hx1⟩, rfl⟩
          clear g0 g1 g2 g3 g4 p0
          go_wp2
          go_roundw
          case rel => exact ⟨k + 1, by omega, by go_num, (by repeat (first | (with_reducible exact Ext.refl _) | (with_reducible assumption) | with_reducible refine Ext.drew ?_ | with_reducible refine Ext.alloc ?_ _ | with_reducible refine Ext.setCell ?_ (by first | (simp; done) | (simp; omega) | omega) _ | with_reducible refine Ext.trans ?_ (by with_reducible assumption))), upto_succ HU.out (okEnt_d HA.out hC)⟩
          case measure => simp [intOf]; omega
    · obtain rfl : k = n := by omega
      go_wp2
      go_ret
      exact ⟨ret_b (by rw [HF.out, HU.out]; simp; omega), hx⟩

end Go.Proofs.Ytkejhhflpnfepaa
