/-
  Proved here: what AreClockMarks and its reference return.
  Conditions: the number of marks fits an int.
-/
import Derived.Test.YtemencnfackplaaTClockMark
namespace Go.Proofs.Ytemencnfackplaa
open Go.RowKit

/-- mark k is well formed and after mark k - 1 -/
def okMark (ms : List Mark) (k : Nat) : Bool :=
  inB (nth ms k).shown 0 36000 && inB (nth ms k).real 0 36000 && !(decide (0 < k) && (decide ((nth ms k).shown ≤ (nth ms (k - 1)).shown) || decide ((nth ms k).real ≤ (nth ms (k - 1)).real)))
def marksB (ms : List Mark) : Bool := upto (okMark ms) ms.length && inB ms.length 1 6

theorem okMark_a {ms : List Mark} {k : Nat} (h : ¬ inB (nth ms k).shown 0 36000 = true) : okMark ms k = false := by simp [okMark, h]
theorem okMark_b {ms : List Mark} {k : Nat} (h : ¬ inB (nth ms k).real 0 36000 = true) : okMark ms k = false := by simp [okMark, h]
theorem okMark_c {ms : List Mark} {k : Nat} (hk : 0 < k) (h : (nth ms k).shown ≤ (nth ms (k - 1)).shown) : okMark ms k = false := by simp [okMark, h, hk]
theorem okMark_d {ms : List Mark} {k : Nat} (hk : 0 < k) (h : (nth ms k).real ≤ (nth ms (k - 1)).real) : okMark ms k = false := by simp [okMark, h, hk]
theorem okMark_e {ms : List Mark} {k : Nat} (h1 : inB (nth ms k).shown 0 36000 = true) (h2 : inB (nth ms k).real 0 36000 = true) (hk : ¬ 0 < k) : okMark ms k = true := by simp [okMark, h1, h2, hk]
theorem okMark_f {ms : List Mark} {k : Nat} (h1 : inB (nth ms k).shown 0 36000 = true) (h2 : inB (nth ms k).real 0 36000 = true) (h3 : ¬ (nth ms k).shown ≤ (nth ms (k - 1)).shown) (h4 : ¬ (nth ms k).real ≤ (nth ms (k - 1)).real) : okMark ms k = true := by
  simp [okMark, h1, h2]; omega

set_option maxHeartbeats 1000000 in
theorem impl_AreClockMarks {ao : Option Addr} {cap : Nat} {ms : List Mark} {w : World} (h : RowAt w ao 2 ms.length (fun k => (nth ms k).c)) (hn : ms.length ≤ 9223372036854775807) :
    Calls Try.prog 17 #[.slice ao ms.length cap] w fun e w' => e = .returned (.bool (marksB ms)) ∧ Ext w w' := by
  obtain ⟨n, hN⟩ : ∃ n, n = ms.length := ⟨_, rfl⟩
  have hfin : marksB ms = (upto (okMark ms) n && inB n 1 6) := by rw [hN]; rfl
  have HF := Lib.hid hfin; clear hfin
  rw [← hN] at hn h ⊢
  clear hN
  go_enter Try.func17, Try.ntmps17
  go_wp2
  go_loopw [7] (fun i wr => ∃ k : Nat, k ≤ n ∧ i = .int .i64 k ∧ Ext w wr ∧ upto (okMark ms) k = true) (fun i _ => n - (intOf i).toNat)
  case atStart => exact ⟨0, Nat.zero_le _, rfl, Ext.refl _, rfl⟩
  case round =>
    obtain ⟨k, hk, rfl, hx, hu⟩ := hrel
    have HU := Lib.hid hu; clear hu
    by_cases hlt : k < n
    · obtain ⟨b, off, rfl, hcell⟩ := h (by omega)
      have d0 : wr.cell? ⟨b, off + k * 2, none⟩ = some (.int .i64 (nth ms k).shown) := hx.cells (hcell k hlt 0 (by decide))
      have d1 : wr.cell? ⟨b, off + k * 2 + 1, none⟩ = some (.int .i64 (nth ms k).real) := hx.cells (hcell k hlt 1 (by decide))
      have hx0 : Ext wr (wr.alloc (Obj.cells #[Value.int IntKind.i64 (nth ms k).shown, Value.int IntKind.i64 (nth ms k).real] 30)) := (Ext.refl _).alloc _
      have p0 : ∀ x : Grow (wr.alloc (Obj.cells #[Value.int IntKind.i64 (nth ms k).shown, Value.int IntKind.i64 (nth ms k).real] 30)), 0 < k → x.w.cell? ⟨b, off + (k - 1) * 2, none⟩ = some (.int .i64 (nth ms (k - 1)).shown) :=
        fun x hk0 => x.h.cells (hx0.cells (hx.cells (hcell (k - 1) (by omega) 0 (by decide))))
      have p1 : ∀ x : Grow (wr.alloc (Obj.cells #[Value.int IntKind.i64 (nth ms k).shown, Value.int IntKind.i64 (nth ms k).real] 30)), 0 < k → x.w.cell? ⟨b, off + (k - 1) * 2 + 1, none⟩ = some (.int .i64 (nth ms (k - 1)).real) :=
        fun x hk0 => x.h.cells (hx0.cells (hx.cells (hcell (k - 1) (by omega) 1 (by decide))))
      clear hcell h hx0
      go_wp2
      refine wp_region_ext (by kernel_rfl) (by kernel_rfl) ?_
      have g0 : ∀ x : Grow (wr.alloc (Obj.cells #[Value.int IntKind.i64 (nth ms k).shown, Value.int IntKind.i64 (nth ms k).real] 30)), x.w.cell? ⟨wr.heap.size, 0, none⟩ = some (.int .i64 (nth ms k).shown) := Grow.cells (by go_simp)
      have g1 : ∀ x : Grow (wr.alloc (Obj.cells #[Value.int IntKind.i64 (nth ms k).shown, Value.int IntKind.i64 (nth ms k).real] 30)), x.w.cell? ⟨wr.heap.size, 1, none⟩ = some (.int .i64 (nth ms k).real) := Grow.cells (by go_simp)
      by_cases hA : inB (nth ms k).shown 0 36000 = true
      · by_cases hB : inB (nth ms k).real 0 36000 = true
        · by_cases hC : 0 < k
          · by_cases hD : (nth ms k).shown ≤ (nth ms (k - 1)).shown
            · repeat (go_big_quiet_step ((go_at_call 34; exact Calls.ext_of_same (impl_isTime))))
              refine wpQuiet_nil ?_
              rintro _ ⟨⟨w1, hx1⟩, rfl⟩
              clear g0 g1 p0 p1
              go_wp2
              go_ret
              exact ⟨ret_b (by rw [HF.out, upto_false hlt (okMark_c hC hD)]; rfl), (by repeat (first | (with_reducible exact Ext.refl _) | (with_reducible assumption) | with_reducible refine Ext.drew ?_ | with_reducible refine Ext.alloc ?_ _ | with_reducible refine Ext.setCell ?_ (by first | (simp; done) | (simp; omega) | omega) _ | with_reducible refine Ext.trans ?_ (by with_reducible assumption)))⟩
            · by_cases hE : (nth ms k).real ≤ (nth ms (k - 1)).real
              · repeat (go_big_quiet_step ((go_at_call 34; exact Calls.ext_of_same (impl_isTime))))
                refine wpQuiet_nil ?_
                rintro _ ⟨⟨w1, hx1⟩, rfl⟩
                clear g0 g1 p0 p1
                go_wp2
                go_ret
                exact ⟨ret_b (by rw [HF.out, upto_false hlt (okMark_d hC hE)]; rfl), (by repeat (first | (with_reducible exact Ext.refl _) | (with_reducible assumption) | with_reducible refine Ext.drew ?_ | with_reducible refine Ext.alloc ?_ _ | with_reducible refine Ext.setCell ?_ (by first | (simp; done) | (simp; omega) | omega) _ | with_reducible refine Ext.trans ?_ (by with_reducible assumption)))⟩
              · repeat (go_big_quiet_step ((go_at_call 34; exact Calls.ext_of_same (impl_isTime))))
                refine wpQuiet_nil ?_
                rintro _ ⟨⟨w1, hx1⟩, rfl⟩
                clear g0 g1 p0 p1
                go_wp2
                go_roundw
                case rel => exact ⟨k + 1, by omega, by go_num, (by repeat (first | (with_reducible exact Ext.refl _) | (with_reducible assumption) | with_reducible refine Ext.drew ?_ | with_reducible refine Ext.alloc ?_ _ | with_reducible refine Ext.setCell ?_ (by first | (simp; done) | (simp; omega) | omega) _ | with_reducible refine Ext.trans ?_ (by with_reducible assumption))), upto_succ HU.out (okMark_f hA hB hD hE)⟩
                case measure => simp [intOf]; omega
          · have hd : decide ((0 : Int) < (k : Int)) = false := by simpa using hC
            repeat (go_big_quiet_step ((go_at_call 34; exact Calls.ext_of_same (impl_isTime))))
            refine wpQuiet_nil ?_
            rintro _ ⟨⟨w1, hx1⟩, rfl⟩
            clear g0 g1 p0 p1
            go_wp2
            go_roundw
            case rel => exact ⟨k + 1, by omega, by go_num, (by repeat (first | (with_reducible exact Ext.refl _) | (with_reducible assumption) | with_reducible refine Ext.drew ?_ | with_reducible refine Ext.alloc ?_ _ | with_reducible refine Ext.setCell ?_ (by first | (simp; done) | (simp; omega) | omega) _ | with_reducible refine Ext.trans ?_ (by with_reducible assumption))), upto_succ HU.out (okMark_e hA hB hC)⟩
            case measure => simp [intOf]; omega
        · repeat (go_big_quiet_step ((go_at_call 34; exact Calls.ext_of_same (impl_isTime))))
          refine wpQuiet_nil ?_
          rintro _ ⟨⟨w1, hx1⟩, rfl⟩
          clear g0 g1 p0 p1
          go_wp2
          go_ret
          exact ⟨ret_b (by rw [HF.out, upto_false hlt (okMark_b hB)]; rfl), (by repeat (first | (with_reducible exact Ext.refl _) | (with_reducible assumption) | with_reducible refine Ext.drew ?_ | with_reducible refine Ext.alloc ?_ _ | with_reducible refine Ext.setCell ?_ (by first | (simp; done) | (simp; omega) | omega) _ | with_reducible refine Ext.trans ?_ (by with_reducible assumption)))⟩
      · repeat (go_big_quiet_step ((go_at_call 34; exact Calls.ext_of_same (impl_isTime))))
        refine wpQuiet_nil ?_
        rintro _ ⟨⟨w1, hx1⟩, rfl⟩
        clear g0 g1 p0 p1
        go_wp2
        go_ret
        exact ⟨ret_b (by rw [HF.out, upto_false hlt (okMark_a hA)]; rfl), (by repeat (first | (with_reducible exact Ext.refl _) | (with_reducible assumption) | with_reducible refine Ext.drew ?_ | with_reducible refine Ext.alloc ?_ _ | with_reducible refine Ext.setCell ?_ (by first | (simp; done) | (simp; omega) | omega) _ | with_reducible refine Ext.trans ?_ (by with_reducible assumption)))⟩
    · obtain rfl : k = n := by omega
      go_wp2_with (go_at_call 38; refine (impl_inside).mono ?_; rintro e w1 ⟨rfl, rfl⟩)
      go_ret
      exact ⟨ret_b (by rw [HF.out, HU.out]; rfl), hx⟩

set_option maxHeartbeats 1000000 in
theorem spec_l13Marks {ao : Option Addr} {cap : Nat} {ms : List Mark} {w : World} (h : RowAt w ao 2 ms.length (fun k => (nth ms k).c)) (hn : ms.length ≤ 9223372036854775807) :
    Calls Try.prog 29 #[.slice ao ms.length cap] w fun e w' => e = .returned (.bool (marksB ms)) ∧ Ext w w' := by
  obtain ⟨n, hN⟩ : ∃ n, n = ms.length := ⟨_, rfl⟩
  have hfin : marksB ms = (upto (okMark ms) n && inB n 1 6) := by rw [hN]; rfl
  have HF := Lib.hid hfin; clear hfin
  rw [← hN] at hn h ⊢
  clear hN
  go_enter Try.func29, Try.ntmps29
  go_wp2
  go_loopw [3] (fun i wr => ∃ k : Nat, k ≤ n ∧ i = .int .i64 k ∧ Ext w wr ∧ upto (okMark ms) k = true) (fun i _ => n - (intOf i).toNat)
  case atStart => exact ⟨0, Nat.zero_le _, rfl, Ext.refl _, rfl⟩
  case round =>
    obtain ⟨k, hk, rfl, hx, hu⟩ := hrel
    have HU := Lib.hid hu; clear hu
    by_cases hlt : k < n
    · obtain ⟨b, off, rfl, hcell⟩ := h (by omega)
      have d0 : wr.cell? ⟨b, off + k * 2, none⟩ = some (.int .i64 (nth ms k).shown) := hx.cells (hcell k hlt 0 (by decide))
      have d1 : wr.cell? ⟨b, off + k * 2 + 1, none⟩ = some (.int .i64 (nth ms k).real) := hx.cells (hcell k hlt 1 (by decide))
      have p0 : ∀ x : Grow wr, 0 < k → x.w.cell? ⟨b, off + (k - 1) * 2, none⟩ = some (.int .i64 (nth ms (k - 1)).shown) :=
        fun x hk0 => x.h.cells (hx.cells (hcell (k - 1) (by omega) 0 (by decide)))
      have p1 : ∀ x : Grow wr, 0 < k → x.w.cell? ⟨b, off + (k - 1) * 2 + 1, none⟩ = some (.int .i64 (nth ms (k - 1)).real) :=
        fun x hk0 => x.h.cells (hx.cells (hcell (k - 1) (by omega) 1 (by decide)))
      have g0 := Grow.cells d0
      have g1 := Grow.cells d1
      clear hcell h
      by_cases hA : inB (nth ms k).shown 0 36000 = true
      · by_cases hB : inB (nth ms k).real 0 36000 = true
        · by_cases hC : 0 < k
          · by_cases hD : (nth ms k).shown ≤ (nth ms (k - 1)).shown
            · go_wp2_with (go_at_call 45; refine (spec_l12Time).mono ?_; rintro e w1 ⟨rfl, rfl⟩)
              refine wp_region_ext (by kernel_rfl) (by kernel_rfl) ?_
              repeat (go_big_quiet_step (fail))
              refine wpQuiet_nil ?_
              rintro _ ⟨⟨w1, hx1⟩, rfl⟩
              clear g0 g1 p0 p1
              go_wp2
              go_ret
              exact ⟨ret_b (by rw [HF.out, upto_false hlt (okMark_c hC hD)]; rfl), (by repeat (first | (with_reducible exact Ext.refl _) | (with_reducible assumption) | with_reducible refine Ext.drew ?_ | with_reducible refine Ext.alloc ?_ _ | with_reducible refine Ext.setCell ?_ (by first | (simp; done) | (simp; omega) | omega) _ | with_reducible refine Ext.trans ?_ (by with_reducible assumption)))⟩
            · have hD' : decide ((nth ms k).shown ≤ (nth ms (k - 1)).shown) = false := by simpa using hD
              by_cases hE : (nth ms k).real ≤ (nth ms (k - 1)).real
              · go_wp2_with (go_at_call 45; refine (spec_l12Time).mono ?_; rintro e w1 ⟨rfl, rfl⟩)
                refine wp_region_ext (by kernel_rfl) (by kernel_rfl) ?_
                repeat (go_big_quiet_step (fail))
                refine wpQuiet_nil ?_
                rintro _ ⟨⟨w1, hx1⟩, rfl⟩
                clear g0 g1 p0 p1
                go_wp2
                go_ret
                exact ⟨ret_b (by rw [HF.out, upto_false hlt (okMark_d hC hE)]; rfl), (by repeat (first | (with_reducible exact Ext.refl _) | (with_reducible assumption) | with_reducible refine Ext.drew ?_ | with_reducible refine Ext.alloc ?_ _ | with_reducible refine Ext.setCell ?_ (by first | (simp; done) | (simp; omega) | omega) _ | with_reducible refine Ext.trans ?_ (by with_reducible assumption)))⟩
              · have hE' : decide ((nth ms k).real ≤ (nth ms (k - 1)).real) = false := by simpa using hE
                go_wp2_with (go_at_call 45; refine (spec_l12Time).mono ?_; rintro e w1 ⟨rfl, rfl⟩)
                refine wp_region_ext (by kernel_rfl) (by kernel_rfl) ?_
                repeat (go_big_quiet_step (fail))
                refine wpQuiet_nil ?_
                rintro _ ⟨⟨w1, hx1⟩, rfl⟩
                clear g0 g1 p0 p1
                go_wp2
                go_roundw
                case rel => exact ⟨k + 1, by omega, by go_num, (by repeat (first | (with_reducible exact Ext.refl _) | (with_reducible assumption) | with_reducible refine Ext.drew ?_ | with_reducible refine Ext.alloc ?_ _ | with_reducible refine Ext.setCell ?_ (by first | (simp; done) | (simp; omega) | omega) _ | with_reducible refine Ext.trans ?_ (by with_reducible assumption))), upto_succ HU.out (okMark_f hA hB (by simpa using hD') (by simpa using hE'))⟩
                case measure => simp [intOf]; omega
          · have hd : decide ((0 : Int) < (k : Int)) = false := by simpa using hC
            go_wp2_with (go_at_call 45; refine (spec_l12Time).mono ?_; rintro e w1 ⟨rfl, rfl⟩)
            refine wp_region_ext (by kernel_rfl) (by kernel_rfl) ?_
            repeat (go_big_quiet_step (fail))
            refine wpQuiet_nil ?_
            rintro _ ⟨⟨w1, hx1⟩, rfl⟩
            clear g0 g1 p0 p1
            go_wp2
            go_roundw
            case rel => exact ⟨k + 1, by omega, by go_num, (by repeat (first | (with_reducible exact Ext.refl _) | (with_reducible assumption) | with_reducible refine Ext.drew ?_ | with_reducible refine Ext.alloc ?_ _ | with_reducible refine Ext.setCell ?_ (by first | (simp; done) | (simp; omega) | omega) _ | with_reducible refine Ext.trans ?_ (by with_reducible assumption))), upto_succ HU.out (okMark_e hA hB hC)⟩
            case measure => simp [intOf]; omega
        · go_wp2_with (go_at_call 45; refine (spec_l12Time).mono ?_; rintro e w1 ⟨rfl, rfl⟩)
          go_ret
          exact ⟨ret_b (by rw [HF.out, upto_false hlt (okMark_b hB)]; rfl), (by repeat (first | (with_reducible exact Ext.refl _) | (with_reducible assumption) | with_reducible refine Ext.drew ?_ | with_reducible refine Ext.alloc ?_ _ | with_reducible refine Ext.setCell ?_ (by first | (simp; done) | (simp; omega) | omega) _ | with_reducible refine Ext.trans ?_ (by with_reducible assumption)))⟩
      · go_wp2_with (go_at_call 45; refine (spec_l12Time).mono ?_; rintro e w1 ⟨rfl, rfl⟩)
        go_ret
        exact ⟨ret_b (by rw [HF.out, upto_false hlt (okMark_a hA)]; rfl), (by repeat (first | (with_reducible exact Ext.refl _) | (with_reducible assumption) | with_reducible refine Ext.drew ?_ | with_reducible refine Ext.alloc ?_ _ | with_reducible refine Ext.setCell ?_ (by first | (simp; done) | (simp; omega) | omega) _ | with_reducible refine Ext.trans ?_ (by with_reducible assumption)))⟩
    · obtain rfl : k = n := by omega
      go_wp2_with (go_at_call 46; refine (spec_l1In).mono ?_; rintro e w1 ⟨rfl, rfl⟩)
      go_ret
      exact ⟨ret_b (by rw [HF.out, HU.out]; rfl), hx⟩

theorem spec_AreClockMarks {ao : Option Addr} {cap : Nat} {ms : List Mark} {w : World} (h : RowAt w ao 2 ms.length (fun k => (nth ms k).c)) (hn : ms.length ≤ 9223372036854775807) :
    Calls Try.prog 18 #[.slice ao ms.length cap] w fun e w' => e = .returned (.bool (marksB ms)) ∧ Ext w w' := by
  go_enter Try.func18, Try.ntmps18
  go_wp2_with (go_at_call 29; refine (spec_l13Marks h hn).mono ?_; rintro e w1 ⟨rfl, hx1⟩)
  go_ret
  exact ⟨rfl, hx1⟩

end Go.Proofs.Ytemencnfackplaa
