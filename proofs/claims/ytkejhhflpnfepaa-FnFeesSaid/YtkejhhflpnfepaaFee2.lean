/-
  Proved here: what AreRunners returns.
  Conditions: the number of runners fits an int; names are no longer than a string may be.
-/
import Derived.Test.YtkejhhflpnfepaaFee1
import Derived.Test.YtkejhhflpnfepaaEnt1
namespace Go.Proofs.Ytkejhhflpnfepaa
open Go.RowKit

theorem cdIx_take {xs : List Rnr} {n : Nat} {x : Int} : cdIx (xs.take n) n x = cdIx xs n x := by
  unfold cdIx
  rcases idxU_cases (fun k => (nth xs k).card == x) n with ⟨e, h⟩ | ⟨k, hk, e, h, hb⟩
  · rw [e]; exact idxU_none (fun j hj => by have := h j hj; simp only [nth, List.getD] at this ⊢; rw [List.getElem?_take_of_lt hj]; exact this)
  · rw [e]
    exact idxU_at hk (by simp only [nth, List.getD] at h ⊢; rw [List.getElem?_take_of_lt hk]; exact h) (fun j hj => by have := hb j hj; simp only [nth, List.getD] at this ⊢; rw [List.getElem?_take_of_lt (by omega)]; exact this)
theorem cdIx_has (xs : List Rnr) (n : Nat) (x : Int) : decide (0 ≤ cdIx xs n x) = hasC xs n x := by
  unfold cdIx hasC
  rw [idxU_nonneg]
  rfl
theorem impl_cardIndexN {ao : Option Addr} {cap n : Nat} {xs : List Rnr} {x : Int} {w : World} (h : RowAt w ao 6 xs.length (fun k => (nth xs k).c)) (hl : n ≤ xs.length) (hn : xs.length ≤ 9223372036854775807) :
    Calls Try.prog 80 #[.slice ao n cap, .int .i64 x] w fun e w' => e = .returned (.int .i64 (cdIx xs n x)) ∧ Ext w w' := by
  have hlt : (xs.take n).length = n := by simp; omega
  have H := impl_cardIndex (ao := ao) (cap := cap) (xs := xs.take n) (x := x) (w := w) (fun h0 => by
    obtain ⟨b, off, e, hc⟩ := h (by rw [hlt] at h0; omega)
    refine ⟨b, off, e, fun k hk j hj => ?_⟩
    rw [hlt] at hk
    have e2 : nth (xs.take n) k = nth xs k := by simp only [nth, List.getD]; rw [List.getElem?_take_of_lt hk]
    show w.cell? _ = some ((nth (xs.take n) k).c j)
    rw [e2]; exact hc k (by omega) j hj) (by omega)
  rw [hlt, cdIx_take] at H
  exact H

set_option maxRecDepth 100000 in
set_option maxHeartbeats 2000000 in
theorem impl_AreRunners {ao : Option Addr} {cap : Nat} {ms : List Rnr} {w : World} (h : RowAt w ao 6 ms.length (fun k => (nth ms k).c)) (hn : ms.length ≤ 9223372036854775807) (hs : ∀ k, k < ms.length → (nth ms k).name.size ≤ 9223372036854775807 ∧ (nth ms k).club.size ≤ 9223372036854775807) (hcap : ms.length ≤ cap) :
    Calls Try.prog 60 #[.slice ao ms.length cap] w fun e w' => e = .returned (.bool (rnsB ms)) ∧ Ext w w' := by
  have HCX := Lib.hid (fun y (hy : Ext w y) n x hl => impl_cardIndexN (cap := cap) (n := n) (x := x) (h.ext hy) hl hn)
  obtain ⟨n, hN⟩ : ∃ n, n = ms.length := ⟨_, rfl⟩
  have hfin : rnsB ms = (upto (okRn ms) n && decide (n ≤ 10)) := by rw [hN]; rfl
  have HF := Lib.hid hfin; clear hfin
  rw [← hN] at hn h hs hcap HCX ⊢
  clear hN
  go_enter Try.func60, Try.ntmps60
  go_wp2
  go_loopw [7] (fun i wr => ∃ k : Nat, k ≤ n ∧ i = .int .i64 k ∧ Ext w wr ∧ upto (okRn ms) k = true) (fun i _ => n - (intOf i).toNat)
  case atStart => exact ⟨0, Nat.zero_le _, rfl, Ext.refl _, rfl⟩
  case round =>
    obtain ⟨k, hk, rfl, hx, hu⟩ := hrel
    have HU := Lib.hid hu; clear hu
    by_cases hlt : k < n
    · obtain ⟨b, off, rfl, hcell⟩ := h (by omega)
      have hss := hs k hlt
      have d0 := hx.cells (hcell k hlt 0 (by decide))
      have d1 := hx.cells (hcell k hlt 1 (by decide))
      have d2 := hx.cells (hcell k hlt 2 (by decide))
      have d3 := hx.cells (hcell k hlt 3 (by decide))
      have d4 := hx.cells (hcell k hlt 4 (by decide))
      have d5 := hx.cells (hcell k hlt 5 (by decide))
      simp only [Rnr.c0, Rnr.c1, Rnr.c2, Rnr.c3, Rnr.c4, Rnr.c5, Nat.add_zero] at d0 d1 d2 d3 d4 d5
      have hx0 : Ext wr (wr.alloc (.cells #[.int .i64 (nth ms k).id, .string (nth ms k).name, .string (nth ms k).club, .int .i64 (nth ms k).born, .bool (nth ms k).woman, .int .i64 (nth ms k).card] 88)) := (Ext.refl _).alloc _
      have g0 := Grow.new (w := wr) (T := 88) (cs := #[.int .i64 (nth ms k).id, .string (nth ms k).name, .string (nth ms k).club, .int .i64 (nth ms k).born, .bool (nth ms k).woman, .int .i64 (nth ms k).card]) (j := 0) rfl
      have g1 := Grow.new (w := wr) (T := 88) (cs := #[.int .i64 (nth ms k).id, .string (nth ms k).name, .string (nth ms k).club, .int .i64 (nth ms k).born, .bool (nth ms k).woman, .int .i64 (nth ms k).card]) (j := 1) rfl
      have g2 := Grow.new (w := wr) (T := 88) (cs := #[.int .i64 (nth ms k).id, .string (nth ms k).name, .string (nth ms k).club, .int .i64 (nth ms k).born, .bool (nth ms k).woman, .int .i64 (nth ms k).card]) (j := 2) rfl
      have g3 := Grow.new (w := wr) (T := 88) (cs := #[.int .i64 (nth ms k).id, .string (nth ms k).name, .string (nth ms k).club, .int .i64 (nth ms k).born, .bool (nth ms k).woman, .int .i64 (nth ms k).card]) (j := 3) rfl
      have g4 := Grow.new (w := wr) (T := 88) (cs := #[.int .i64 (nth ms k).id, .string (nth ms k).name, .string (nth ms k).club, .int .i64 (nth ms k).born, .bool (nth ms k).woman, .int .i64 (nth ms k).card]) (j := 4) rfl
      have g5 := Grow.new (w := wr) (T := 88) (cs := #[.int .i64 (nth ms k).id, .string (nth ms k).name, .string (nth ms k).club, .int .i64 (nth ms k).born, .bool (nth ms k).woman, .int .i64 (nth ms k).card]) (j := 5) rfl
      have p0 : ∀ x : Grow (wr.alloc (.cells #[.int .i64 (nth ms k).id, .string (nth ms k).name, .string (nth ms k).club, .int .i64 (nth ms k).born, .bool (nth ms k).woman, .int .i64 (nth ms k).card] 88)), 0 < k → x.w.cell? ⟨b, off + (k - 1) * 6, none⟩ = some (.int .i64 (nth ms (k - 1)).id) := fun x hk0 => x.h.cells (hx0.cells (hx.cells (hcell (k - 1) (by omega) 0 (by decide))))
      have HE := Lib.hid (fun x => (impl_IsRunner (i := (nth ms k).id) (n := (nth ms k).name) (u := (nth ms k).club) (b := (nth ms k).born) (g := (nth ms k).woman) (c := (nth ms k).card) (w := x) hss.1 hss.2))
      have HCI := Lib.hid (fun x : Grow (wr.alloc (.cells #[.int .i64 (nth ms k).id, .string (nth ms k).name, .string (nth ms k).club, .int .i64 (nth ms k).born, .bool (nth ms k).woman, .int .i64 (nth ms k).card] 88)) => HCX.out x.w (hx.trans (hx0.trans x.h)) k (nth ms k).card (by omega))
      have HX := Lib.hid hx
      have hkc : (k : Int) ≤ (cap : Int) := by omega
      clear hcell h hx0 hss hs hx hcap
      go_wp2
      cases hA : rnB (nth ms k)
      · have HA := Lib.hid hA; clear hA
        refine wp_region_ext (by kernel_rfl) (by kernel_rfl) ?_
        repeat (go_big_quiet_step ((go_at_call 79; exact Calls.ext_of (by have := HE.out; simp only [show rnB ⟨(nth ms k).id, (nth ms k).name, (nth ms k).club, (nth ms k).born, (nth ms k).woman, (nth ms k).card⟩ = false from HA.out] at this; exact this _))))
        refine wpQuiet_nil ?_
        rintro _ ⟨⟨w1, hx1⟩, rfl⟩
        clear g0 g1 g2 g3 g4 g5 p0
        go_wp2
        go_ret
        have hx := HX.out
        exact ⟨ret_b (by rw [HF.out, upto_false hlt (okRn_a HA.out)]; rfl), (by repeat (first | (with_reducible exact Ext.refl _) | (with_reducible assumption) | with_reducible refine Ext.drew ?_ | with_reducible refine Ext.alloc ?_ _ | with_reducible refine Ext.setCell ?_ (by first | (simp; done) | (simp; omega) | omega) _ | with_reducible refine Ext.trans ?_ (by with_reducible assumption)))⟩
      · have HA := Lib.hid hA; clear hA
        by_cases hD : 0 < k ∧ (nth ms k).id ≤ (nth ms (k - 1)).id
        · obtain ⟨hC, hD⟩ := hD
          refine wp_region_ext (by kernel_rfl) (by kernel_rfl) ?_
          repeat (go_big_quiet_step ((go_at_call 79; exact Calls.ext_of (by have := HE.out; simp only [show rnB ⟨(nth ms k).id, (nth ms k).name, (nth ms k).club, (nth ms k).born, (nth ms k).woman, (nth ms k).card⟩ = true from HA.out] at this; exact this _))))
          refine wpQuiet_nil ?_
          rintro _ ⟨⟨w1, hx1⟩, rfl⟩
          clear g0 g1 g2 g3 g4 g5 p0
          go_wp2
          go_ret
          have hx := HX.out
          exact ⟨ret_b (by rw [HF.out, upto_false hlt (okRn_b hC hD)]; rfl), (by repeat (first | (with_reducible exact Ext.refl _) | (with_reducible assumption) | with_reducible refine Ext.drew ?_ | with_reducible refine Ext.alloc ?_ _ | with_reducible refine Ext.setCell ?_ (by first | (simp; done) | (simp; omega) | omega) _ | with_reducible refine Ext.trans ?_ (by with_reducible assumption)))⟩
        · have HD := Lib.hid (show 0 < k → ¬ (nth ms k).id ≤ (nth ms (k - 1)).id from fun h1 h2 => hD ⟨h1, h2⟩)
          clear hD
          by_cases hcp : 0 < (nth ms k).card
          · cases hH : hasC ms k (nth ms k).card
            · have hcd : decide (0 ≤ cdIx ms k (nth ms k).card) = false := by rw [cdIx_has]; exact hH
              have HOK := Lib.hid (okRn_d HA.out HD.out (fun _ => hH))
              clear hH
              by_cases hC : 0 < k
              case' pos =>
                have hD2 : ¬ (nth ms k).id ≤ (nth ms (k - 1)).id := HD.out hC
                refine wp_region_ext (by kernel_rfl) (by kernel_rfl) ?_
                repeat (go_big_quiet_step (first | (go_at_call 79; exact Calls.ext_of (by have := HE.out; simp only [show rnB ⟨(nth ms k).id, (nth ms k).name, (nth ms k).club, (nth ms k).born, (nth ms k).woman, (nth ms k).card⟩ = true from HA.out] at this; exact this _)) | (go_at_call 80; exact Calls.ext_of (HCI.out _))))
                refine wpQuiet_nil ?_
                rintro _ ⟨⟨w1, hx1⟩, rfl⟩
                clear g0 g1 g2 g3 g4 g5 p0
                skip
              case' neg =>
                have hd : decide ((0 : Int) < (k : Int)) = false := by simpa using hC
                refine wp_region_ext (by kernel_rfl) (by kernel_rfl) ?_
                repeat (go_big_quiet_step (first | (go_at_call 79; exact Calls.ext_of (by have := HE.out; simp only [show rnB ⟨(nth ms k).id, (nth ms k).name, (nth ms k).club, (nth ms k).born, (nth ms k).woman, (nth ms k).card⟩ = true from HA.out] at this; exact this _)) | (go_at_call 80; exact Calls.ext_of (HCI.out _))))
                refine wpQuiet_nil ?_
                rintro _ ⟨⟨w1, hx1⟩, rfl⟩
                clear g0 g1 g2 g3 g4 g5 p0
                skip
              all_goals
                go_wp2
                have hx := HX.out
                go_roundw
                case rel => exact ⟨k + 1, by omega, by go_num, (by repeat (first | (with_reducible exact Ext.refl _) | (with_reducible assumption) | with_reducible refine Ext.drew ?_ | with_reducible refine Ext.alloc ?_ _ | with_reducible refine Ext.setCell ?_ (by first | (simp; done) | (simp; omega) | omega) _ | with_reducible refine Ext.trans ?_ (by with_reducible assumption))), upto_succ HU.out HOK.out⟩
                case measure => simp [intOf] <;> omega
            · have hcd : decide (0 ≤ cdIx ms k (nth ms k).card) = true := by rw [cdIx_has]; exact hH
              have HBAD := Lib.hid (okRn_c hcp hH)
              clear hH
              by_cases hC : 0 < k
              case' pos =>
                have hD2 : ¬ (nth ms k).id ≤ (nth ms (k - 1)).id := HD.out hC
                refine wp_region_ext (by kernel_rfl) (by kernel_rfl) ?_
                repeat (go_big_quiet_step (first | (go_at_call 79; exact Calls.ext_of (by have := HE.out; simp only [show rnB ⟨(nth ms k).id, (nth ms k).name, (nth ms k).club, (nth ms k).born, (nth ms k).woman, (nth ms k).card⟩ = true from HA.out] at this; exact this _)) | (go_at_call 80; exact Calls.ext_of (HCI.out _))))
                refine wpQuiet_nil ?_
                rintro _ ⟨⟨w1, hx1⟩, rfl⟩
                clear g0 g1 g2 g3 g4 g5 p0
                skip
              case' neg =>
                have hd : decide ((0 : Int) < (k : Int)) = false := by simpa using hC
                refine wp_region_ext (by kernel_rfl) (by kernel_rfl) ?_
                repeat (go_big_quiet_step (first | (go_at_call 79; exact Calls.ext_of (by have := HE.out; simp only [show rnB ⟨(nth ms k).id, (nth ms k).name, (nth ms k).club, (nth ms k).born, (nth ms k).woman, (nth ms k).card⟩ = true from HA.out] at this; exact this _)) | (go_at_call 80; exact Calls.ext_of (HCI.out _))))
                refine wpQuiet_nil ?_
                rintro _ ⟨⟨w1, hx1⟩, rfl⟩
                clear g0 g1 g2 g3 g4 g5 p0
                skip
              all_goals
                go_wp2
                go_ret
                have hx := HX.out
                exact ⟨ret_b (by rw [HF.out, upto_false hlt HBAD.out]; rfl), (by repeat (first | (with_reducible exact Ext.refl _) | (with_reducible assumption) | with_reducible refine Ext.drew ?_ | with_reducible refine Ext.alloc ?_ _ | with_reducible refine Ext.setCell ?_ (by first | (simp; done) | (simp; omega) | omega) _ | with_reducible refine Ext.trans ?_ (by with_reducible assumption)))⟩
          · have HOK := Lib.hid (okRn_d HA.out HD.out (fun hp => absurd hp hcp))
            have hcd : decide (0 < (nth ms k).card) = false := by simpa using hcp
            by_cases hC : 0 < k
            case' pos =>
              have hD2 : ¬ (nth ms k).id ≤ (nth ms (k - 1)).id := HD.out hC
              refine wp_region_ext (by kernel_rfl) (by kernel_rfl) ?_
              repeat (go_big_quiet_step ((go_at_call 79; exact Calls.ext_of (by have := HE.out; simp only [show rnB ⟨(nth ms k).id, (nth ms k).name, (nth ms k).club, (nth ms k).born, (nth ms k).woman, (nth ms k).card⟩ = true from HA.out] at this; exact this _))))
              refine wpQuiet_nil ?_
              rintro _ ⟨⟨w1, hx1⟩, rfl⟩
              clear g0 g1 g2 g3 g4 g5 p0
              skip
            case' neg =>
              have hd : decide ((0 : Int) < (k : Int)) = false := by simpa using hC
              refine wp_region_ext (by kernel_rfl) (by kernel_rfl) ?_
              repeat (go_big_quiet_step ((go_at_call 79; exact Calls.ext_of (by have := HE.out; simp only [show rnB ⟨(nth ms k).id, (nth ms k).name, (nth ms k).club, (nth ms k).born, (nth ms k).woman, (nth ms k).card⟩ = true from HA.out] at this; exact this _))))
              refine wpQuiet_nil ?_
              rintro _ ⟨⟨w1, hx1⟩, rfl⟩
              clear g0 g1 g2 g3 g4 g5 p0
              skip
            all_goals
              go_wp2
              have hx := HX.out
              go_roundw
              case rel => exact ⟨k + 1, by omega, by go_num, (by repeat (first | (with_reducible exact Ext.refl _) | (with_reducible assumption) | with_reducible refine Ext.drew ?_ | with_reducible refine Ext.alloc ?_ _ | with_reducible refine Ext.setCell ?_ (by first | (simp; done) | (simp; omega) | omega) _ | with_reducible refine Ext.trans ?_ (by with_reducible assumption))), upto_succ HU.out HOK.out⟩
              case measure => simp [intOf] <;> omega
    · obtain rfl : k = n := by omega
      go_wp2
      go_ret
      exact ⟨ret_b (by rw [HF.out, HU.out]; simp; omega), hx⟩

end Go.Proofs.Ytkejhhflpnfepaa
