/-
  Proved here: what the reference's l2Word, l5One, l5Good return.
  Conditions: the number of runners fits an int; names are no longer than a string may be.
-/
import Derived.Test.YtkejhhflpnfepaaTRunner
import Derived.Test.YtkejhhflpnfepaaCur1
namespace Go.Proofs.Ytkejhhflpnfepaa
open Go.RowKit

/-- byte k of a text -/
def bAt (s : ByteArray) (k : Nat) : Int := ((s.data.toList.getD k 0).toNat : Int)
theorem bAt_eq {s : ByteArray} {k : Nat} (h : k < s.size) : bAt s k = (s[k].toNat : Int) := by
  unfold bAt
  have h2 : k < s.data.toList.length := by simpa using h
  rw [List.getD, List.getElem?_eq_getElem h2]
  simp [ByteArray.getElem_eq_getElem_data]
/-- 1 to 10 letters -/
def wordB (s : ByteArray) : Bool := upto (fun k => inB (bAt s k) 97 122) s.size && inB s.size 1 10

theorem spec_l2Word {s : ByteArray} {w : World} (hs : s.size ≤ 9223372036854775807) :
    Calls Try.prog 91 #[.string s] w fun e w' => e = .returned (.bool (wordB s)) ∧ w = w' := by
  have HF := Lib.hid (show wordB s = (upto (fun k => inB (bAt s k) 97 122) s.size && inB s.size 1 10) from rfl)
  go_enter Try.func91, Try.ntmps91
  go_wp2
  go_loop [3] (fun i => ∃ k : Nat, k ≤ s.size ∧ i = .int .i64 k ∧ upto (fun k => inB (bAt s k) 97 122) k = true) (fun i => s.size - (intOf i).toNat)
  case atStart => exact ⟨0, Nat.zero_le _, rfl, rfl⟩
  case round =>
    obtain ⟨k, hk, rfl, hu⟩ := hrel
    have HU := Lib.hid hu; clear hu
    by_cases hlt : k < s.size
    · have hb := bAt_eq hlt
      have HB := Lib.hid hb; clear hb
      cases hA : inB (bAt s k) 97 122
      · have HA := Lib.hid hA
        rw [inB_no, HB.out] at hA
        rcases hA with h1 | h1
        · go_wp2
          go_ret
          exact ⟨ret_b (by rw [HF.out, upto_false hlt HA.out]; rfl), rfl⟩
        · have h2 : ¬ (s[k].toNat : Int) < 97 := by omega
          go_wp2
          go_ret
          exact ⟨ret_b (by rw [HF.out, upto_false hlt HA.out]; rfl), rfl⟩
      · have HA := Lib.hid hA
        rw [inB_iff, HB.out] at hA
        have h1 : ¬ (s[k].toNat : Int) < 97 := by omega
        have h2 : ¬ (122 : Int) < (s[k].toNat : Int) := by omega
        clear hA
        go_wp2
        go_round
        case rel => exact ⟨k + 1, by omega, by go_num, upto_succ HU.out HA.out⟩
        case measure => simp [intOf]; omega
    · obtain rfl : k = s.size := by omega
      go_wp2_with (go_at_call 57; refine (spec_l1In).mono ?_; rintro e w1 ⟨rfl, rfl⟩)
      go_ret
      exact ⟨ret_b (by rw [HF.out, HU.out]; rfl), rfl⟩

def rnB (x : Rnr) : Bool := inB x.id 1 999 && wordB x.name && wordB x.club && inB x.born 1920 2020 && inB x.card 0 9999

set_option maxRecDepth 100000 in
set_option maxHeartbeats 2000000 in
theorem spec_l5One {i b c : Int} {n u : ByteArray} {g : Bool} {w : World} (hn : n.size ≤ 9223372036854775807) (hu : u.size ≤ 9223372036854775807) :
    Calls Try.prog 85 #[.agg #[.int .i64 i, .string n, .string u, .int .i64 b, .bool g, .int .i64 c]] w fun e w' => e = .returned (.bool (rnB ⟨i, n, u, b, g, c⟩)) ∧ Ext w w' := by
  go_enter Try.func85, Try.ntmps85
  go_wp2_with (first | (go_at_call 57; refine (spec_l1In).mono ?_; rintro e w1 ⟨rfl, rfl⟩) | (go_at_call 91; ((with_reducible refine (spec_l2Word hn).mono ?_); rintro e w1 ⟨rfl, rfl⟩)) | (go_at_call 91; ((with_reducible refine (spec_l2Word hu).mono ?_); rintro e w1 ⟨rfl, rfl⟩)))
  all_goals go_ret
  all_goals exact ⟨ret_b (by simp [rnB, *]), (by repeat (first | (with_reducible exact Ext.refl _) | (with_reducible assumption) | with_reducible refine Ext.drew ?_ | with_reducible refine Ext.alloc ?_ _ | with_reducible refine Ext.setCell ?_ (by first | (simp; done) | (simp; omega) | omega) _ | with_reducible refine Ext.trans ?_ (by with_reducible assumption)))⟩

/-- whether one of the first n has a card -/
def hasC (xs : List Rnr) (n : Nat) (c : Int) : Bool := !upto (fun j => (nth xs j).card != c) n
theorem hasC_yes {xs : List Rnr} {n k : Nat} {c : Int} (hk : k < n) (h : (nth xs k).card = c) : hasC xs n c = true := by
  unfold hasC; rw [upto_false hk (by simp [h])]; rfl
theorem hasC_no {xs : List Rnr} {n : Nat} {c : Int} (h : ∀ k, k < n → ((nth xs k).card == c) = false) : hasC xs n c = false := by
  unfold hasC; rw [upto_true.2 (fun k hk => by have := h k hk; simp only [bne, this]; rfl)]; rfl
def okRn (xs : List Rnr) (k : Nat) : Bool := rnB (nth xs k) && !(decide (0 < k) && decide ((nth xs k).id ≤ (nth xs (k - 1)).id)) && !(decide (0 < (nth xs k).card) && hasC xs k (nth xs k).card)
def rnsB (xs : List Rnr) : Bool := upto (okRn xs) xs.length && decide (xs.length ≤ 10)
theorem okRn_a {xs : List Rnr} {k : Nat} (h : rnB (nth xs k) = false) : okRn xs k = false := by simp [okRn, h]
theorem okRn_b {xs : List Rnr} {k : Nat} (h : 0 < k) (h2 : (nth xs k).id ≤ (nth xs (k - 1)).id) : okRn xs k = false := by
  unfold okRn; rw [decide_eq_true h, decide_eq_true h2]; simp
theorem okRn_c {xs : List Rnr} {k : Nat} (h : 0 < (nth xs k).card) (h2 : hasC xs k (nth xs k).card = true) : okRn xs k = false := by
  unfold okRn; rw [decide_eq_true h, h2]; simp
theorem okRn_d {xs : List Rnr} {k : Nat} (h : rnB (nth xs k) = true) (h1 : 0 < k → ¬ (nth xs k).id ≤ (nth xs (k - 1)).id) (h2 : 0 < (nth xs k).card → hasC xs k (nth xs k).card = false) : okRn xs k = true := by
  unfold okRn
  rw [h]
  have e1 : (decide (0 < k) && decide ((nth xs k).id ≤ (nth xs (k - 1)).id)) = false := by
    by_cases e : 0 < k
    · rw [decide_eq_false (h1 e)]; simp
    · rw [decide_eq_false e]; rfl
  have e2 : (decide (0 < (nth xs k).card) && hasC xs k (nth xs k).card) = false := by
    by_cases e : 0 < (nth xs k).card
    · rw [h2 e]; simp
    · rw [decide_eq_false e]; rfl
  rw [e1, e2]; rfl

set_option maxRecDepth 100000 in
set_option maxHeartbeats 2000000 in
theorem spec_l5Good {ao : Option Addr} {cap : Nat} {ms : List Rnr} {w : World} (h : RowAt w ao 6 ms.length (fun k => (nth ms k).c)) (hn : ms.length ≤ 9223372036854775807) (hs : ∀ k, k < ms.length → (nth ms k).name.size ≤ 9223372036854775807 ∧ (nth ms k).club.size ≤ 9223372036854775807) :
    Calls Try.prog 68 #[.slice ao ms.length cap] w fun e w' => e = .returned (.bool (rnsB ms)) ∧ Ext w w' := by
  obtain ⟨n, hN⟩ : ∃ n, n = ms.length := ⟨_, rfl⟩
  have hfin : rnsB ms = (upto (okRn ms) n && decide (n ≤ 10)) := by rw [hN]; rfl
  have HF := Lib.hid hfin; clear hfin
  rw [← hN] at hn h hs ⊢
  clear hN
  go_enter Try.func68, Try.ntmps68
  go_wp2
  go_loopw [3] (fun i wr => ∃ k : Nat, k ≤ n ∧ k ≤ 11 ∧ i = .int .i64 k ∧ Ext w wr ∧ upto (okRn ms) k = true) (fun i _ => n - (intOf i).toNat)
  case atStart => exact ⟨0, Nat.zero_le _, by omega, rfl, Ext.refl _, rfl⟩
  case round =>
    obtain ⟨k, hk, hk11, rfl, hx, hu⟩ := hrel
    have HU := Lib.hid hu; clear hu
    by_cases hlt : k < n ∧ k ≤ 10
    · obtain ⟨hlt, hk10⟩ := hlt
      have hlti : (k : Int) < (n : Int) := by omega
      have hk10i : (k : Int) ≤ 10 := by omega
      obtain ⟨b, off, rfl, hcell⟩ := h (by omega)
      have HC := Lib.hid (fun j hj q hq => hx.cells (hcell j hj q hq))
      have hss := hs k hlt
      have g0 := Grow.cells (show wr.cell? ⟨b, off + k * 6, none⟩ = some (.int .i64 (nth ms k).id) from hx.cells (hcell k hlt 0 (by decide)))
      have g1 := Grow.cells (show wr.cell? ⟨b, off + k * 6 + 1, none⟩ = some (.string (nth ms k).name) from hx.cells (hcell k hlt 1 (by decide)))
      have g2 := Grow.cells (show wr.cell? ⟨b, off + k * 6 + 2, none⟩ = some (.string (nth ms k).club) from hx.cells (hcell k hlt 2 (by decide)))
      have g3 := Grow.cells (show wr.cell? ⟨b, off + k * 6 + 3, none⟩ = some (.int .i64 (nth ms k).born) from hx.cells (hcell k hlt 3 (by decide)))
      have g4 := Grow.cells (show wr.cell? ⟨b, off + k * 6 + 4, none⟩ = some (.bool (nth ms k).woman) from hx.cells (hcell k hlt 4 (by decide)))
      have g5 := Grow.cells (show wr.cell? ⟨b, off + k * 6 + 5, none⟩ = some (.int .i64 (nth ms k).card) from hx.cells (hcell k hlt 5 (by decide)))
      have p0 : ∀ x : Grow wr, 0 < k → x.w.cell? ⟨b, off + (k - 1) * 6, none⟩ = some (.int .i64 (nth ms (k - 1)).id) := fun x hk0 => x.h.cells (hx.cells (hcell (k - 1) (by omega) 0 (by decide)))
      have HE := Lib.hid (fun x => (spec_l5One (i := (nth ms k).id) (n := (nth ms k).name) (u := (nth ms k).club) (b := (nth ms k).born) (g := (nth ms k).woman) (c := (nth ms k).card) (w := x) hss.1 hss.2))
      have HX := Lib.hid hx
      clear hcell hss hx
      cases hA : rnB (nth ms k)
      · have HA := Lib.hid hA; clear hA
        go_wp2
        refine wp_region_ext (by kernel_rfl) (by kernel_rfl) ?_
        repeat (go_big_quiet_step ((go_at_call 85; exact Calls.ext_of (by have := HE.out; simp only [show rnB ⟨(nth ms k).id, (nth ms k).name, (nth ms k).club, (nth ms k).born, (nth ms k).woman, (nth ms k).card⟩ = false from HA.out] at this; exact this _))))
        refine wpQuiet_nil ?_
        rintro _ ⟨⟨w1, hx1⟩, rfl⟩
        clear g0 g1 g2 g3 g4 g5 p0
        go_wp2
        go_ret
        have hx := HX.out
        exact ⟨ret_b (by rw [HF.out, upto_false hlt (okRn_a HA.out)]; rfl), (by repeat (first | (with_reducible exact Ext.refl _) | (with_reducible assumption) | with_reducible refine Ext.drew ?_ | with_reducible refine Ext.alloc ?_ _ | with_reducible refine Ext.setCell ?_ (by first | (simp; done) | (simp; omega) | omega) _ | with_reducible refine Ext.trans ?_ (by with_reducible assumption)))⟩
      · have HA := Lib.hid hA; clear hA
        by_cases hD : 0 < k ∧ (nth ms k).id ≤ (nth ms (k - 1)).id
        · obtain ⟨hC, hD⟩ := hD
          go_wp2
          refine wp_region_ext (by kernel_rfl) (by kernel_rfl) ?_
          repeat (go_big_quiet_step ((go_at_call 85; exact Calls.ext_of (by have := HE.out; simp only [show rnB ⟨(nth ms k).id, (nth ms k).name, (nth ms k).club, (nth ms k).born, (nth ms k).woman, (nth ms k).card⟩ = true from HA.out] at this; exact this _))))
          refine wpQuiet_nil ?_
          rintro _ ⟨⟨w1, hx1⟩, rfl⟩
          clear g0 g1 g2 g3 g4 g5 p0
          go_wp2
          go_ret
          have hx := HX.out
          exact ⟨ret_b (by rw [HF.out, upto_false hlt (okRn_b hC hD)]; rfl), (by repeat (first | (with_reducible exact Ext.refl _) | (with_reducible assumption) | with_reducible refine Ext.drew ?_ | with_reducible refine Ext.alloc ?_ _ | with_reducible refine Ext.setCell ?_ (by first | (simp; done) | (simp; omega) | omega) _ | with_reducible refine Ext.trans ?_ (by with_reducible assumption)))⟩
        · have HD := Lib.hid (show 0 < k → ¬ (nth ms k).id ≤ (nth ms (k - 1)).id from fun h1 h2 => hD ⟨h1, h2⟩)
          clear hD
          by_cases hC : 0 < k
          case' pos =>
            have hD2 : ¬ (nth ms k).id ≤ (nth ms (k - 1)).id := HD.out hC
            go_wp2
            refine wp_region_ext (by kernel_rfl) (by kernel_rfl) ?_
            repeat (go_big_quiet_step ((go_at_call 85; exact Calls.ext_of (by have := HE.out; simp only [show rnB ⟨(nth ms k).id, (nth ms k).name, (nth ms k).club, (nth ms k).born, (nth ms k).woman, (nth ms k).card⟩ = true from HA.out] at this; exact this _))))
            refine wpQuiet_nil ?_
            rintro _ ⟨⟨w1, hx1⟩, rfl⟩
            clear g0 g1 g2 g3 g4 g5 p0
            skip
          case' neg =>
            have hd : decide ((0 : Int) < (k : Int)) = false := by simpa using hC
            go_wp2
            refine wp_region_ext (by kernel_rfl) (by kernel_rfl) ?_
            repeat (go_big_quiet_step ((go_at_call 85; exact Calls.ext_of (by have := HE.out; simp only [show rnB ⟨(nth ms k).id, (nth ms k).name, (nth ms k).club, (nth ms k).born, (nth ms k).woman, (nth ms k).card⟩ = true from HA.out] at this; exact this _))))
            refine wpQuiet_nil ?_
            rintro _ ⟨⟨w1, hx1⟩, rfl⟩
            clear g0 g1 g2 g3 g4 g5 p0
            clear hd
          all_goals
            clear HE
            go_wp2
            try clear hD2
            go_loopw [4] (fun i wz => ∃ j : Nat, j ≤ k ∧ i = .int .i64 j ∧ Ext wr wz ∧ (0 < (nth ms k).card → ∀ q, q < j → ((nth ms q).card == (nth ms k).card) = false)) (fun i _ => k - (intOf i).toNat)
            case atStart => exact ⟨0, by omega, rfl, hx1, fun _ q hq => by omega⟩
            case round =>
              obtain ⟨j, hj, rfl, hy, hq⟩ := hrel
              have HQ := Lib.hid hq
              clear hq
              by_cases hjk : j < k
              · have hji : (j : Int) < (k : Int) := by omega
                have hjn : (j : Int) < (n : Int) := by omega
                have e5 := hy.cells (HC.out k hlt 5 (by decide))
                have e6 := hy.cells (HC.out j (by omega) 5 (by decide))
                simp only [Rnr.c5] at e5 e6
                have HY := Lib.hid hy
                clear hy
                by_cases hcp : 0 < (nth ms k).card
                · cases hce : ((nth ms j).card == (nth ms k).card)
                  · have HCE := Lib.hid hce
                    go_wp2
                    go_quiet (fail)
                    go_wp2
                    go_roundw
                    case rel => exact ⟨j + 1, by omega, by go_num, HY.out.trans (Ext.drewQ _ _), fun hp q hq => by by_cases e : q = j; (subst e; exact HCE.out); exact HQ.out hp q (by omega)⟩
                    case measure => simp [intOf] <;> omega
                  · have HCE := Lib.hid (show (nth ms j).card = (nth ms k).card from by simpa using hce)
                    have HBAD := Lib.hid (okRn_c hcp (hasC_yes hjk HCE.out))
                    go_wp2
                    go_quiet (fail)
                    go_wp2
                    go_ret
                    exact ⟨ret_b (by rw [HF.out, upto_false hlt HBAD.out]; rfl), HX.out.trans (HY.out.trans (Ext.drewQ _ _))⟩
                · have hcd : decide (0 < (nth ms k).card) = false := by simpa using hcp
                  have HCP := Lib.hid hcp
                  have e7 := Grow.cells e5
                  clear hcp
                  go_wp2
                  have HJ := Lib.hid hjk
                  clear hjk hji hj
                  refine wp_region_ext (by kernel_rfl) (by kernel_rfl) ?_
                  repeat (go_big_quiet_step (fail))
                  refine wpQuiet_nil ?_
                  rintro _ ⟨⟨w1, hx1⟩, rfl⟩
                  clear e7
                  go_wp2
                  have hjk := HJ.out
                  go_roundw
                  case rel => exact ⟨j + 1, by omega, by go_num, HY.out.trans hx1, fun hp q hq => by have := HCP.out; omega⟩
                  case measure => simp [intOf] <;> omega
              · obtain rfl : j = k := by omega
                have HOK := Lib.hid (okRn_d HA.out (fun h0 => by have := HD.out h0; omega) (fun hp => hasC_no (HQ.out hp)))
                have HY := Lib.hid (HX.out.trans hy)
                clear hy
                go_wp2
                go_roundw
                case rel => exact ⟨j + 1, by omega, by omega, by go_num, HY.out, upto_succ HU.out HOK.out⟩
                case measure => simp [intOf]; omega
    · by_cases hkn : k < n
      · have hk10 : ¬ (k : Int) ≤ 10 := by omega
        have hlti : (k : Int) < (n : Int) := by omega
        have hnn : ¬ (n : Int) ≤ 10 := by omega
        go_wp2
        go_ret
        exact ⟨ret_b (by rw [HF.out, show decide (n ≤ 10) = false by simp; omega]; simp), hx⟩
      · obtain rfl : k = n := by omega
        go_wp2
        go_ret
        exact ⟨ret_b (by rw [HF.out, HU.out]; simp; omega), hx⟩

end Go.Proofs.Ytkejhhflpnfepaa
