/-
  Proved here: what slices.SortStableFunc leaves of a short row of teams, whatever the key.
  Conditions: fewer than 20 teams; the order leaves what was there as it was.
-/
import Derived.Test.YtlpogglcbphilaaTmV
import Derived.Test.YtlpogglcbphilaaRelPl
import Derived.BigQuiet
import Derived.Deep.DeepCutAuto
namespace Go.Proofs.Ytlpogglcbphilaa
open Go.RowKit

set_option maxRecDepth 100000 in
set_option maxHeartbeats 4000000 in
theorem insSort_Team {g cap : Nat} {xs : List TmV} {K : TmV → Int} {F : FuncId} {w : World} (hE : EntersF Try.prog F) (hn : xs.length ≤ 1000) (hH : HoldsF w w g (xs.length * 2) (fc 2 TmV.c xs))
    (hp : ∀ a b, a ∈ xs → b ∈ xs → ∀ w', w.grownBy w' (some g) → Calls Try.prog F #[a.val, b.val] w' fun e w'' => e = .returned (.int .i64 (cmpJ (K a) (K b))) ∧ Ext w' w'') :
    Calls Try.prog 71 #[.slice (some ⟨g, 0, none⟩) xs.length cap, .int .i64 0, .int .i64 xs.length, .func (.func F) #[] #[]] w fun e w' => e = .returned (.tuple #[]) ∧ HoldsF w w' g (xs.length * 2) (fc 2 TmV.c (insF K xs)) := by
  have HE : Hid (EntersF Try.prog F) := hE
  have HP := Lib.hid hp
  have HH := Lib.hid hH
  obtain ⟨n, hN⟩ : ∃ n, n = xs.length := ⟨_, rfl⟩
  rw [← hN] at hn HH ⊢
  have HN := Lib.hid hN
  have HSTART := Lib.hid (show xs = insF K (xs.take 1) ++ xs.drop 1 from by
    cases xs with
    | nil => rfl
    | cons x L => rfl)
  clear hE hp hH hN
  go_enter Try.func71, Try.ntmps71
  go_wp2
  go_loopw [8] (fun i wr => ∃ (k : Nat), 1 ≤ k ∧ (k ≤ n ∨ k = 1) ∧ i = .int .i64 k ∧ HoldsF w wr g (n * 2) (fc 2 TmV.c (insF K (xs.take k) ++ xs.drop k))) (fun i _ => n - (intOf i).toNat)
  case atStart => exact ⟨1, Nat.le_refl _, .inr rfl, rfl, by rw [← HSTART.out]; exact HH.out⟩
  case round =>
    obtain ⟨k, hk1, hk, rfl, hH⟩ := hrel
    by_cases hlt : k < n
    · have hlt' : (k : Int) < (n : Int) := by omega
      have hlx : k < xs.length := by rw [← HN.out]; exact hlt
      have hdr : xs.drop k = nth xs k :: xs.drop (k + 1) := by
        rw [List.drop_eq_getElem_cons hlx]
        simp [nth, hlx]
      obtain ⟨A, hA⟩ : ∃ A, A = insF K (xs.take k) := ⟨_, rfl⟩
      obtain ⟨x, hx⟩ : ∃ x, x = nth xs k := ⟨_, rfl⟩
      have hAl : A.length = k := by rw [hA, insF_len, List.length_take]; omega
      have hst : insF K (xs.take k) ++ xs.drop k = stJ A x (xs.drop (k + 1)) k := by rw [hdr, ← hA, ← hx]; have := stJ_start A x (xs.drop (k + 1)); rw [hAl] at this; exact this.symm
      have hen : insF K (xs.take (k + 1)) ++ xs.drop (k + 1) = stJ A x (xs.drop (k + 1)) (posR K A x k) := by
        have := stJ_end K A x (xs.drop (k + 1))
        rw [hAl] at this
        rw [this, take_succ_nth hlx, insF_snoc, ← hA, ← hx]
      have HEN := Lib.hid hen
      have hxm : x ∈ xs := by rw [hx]; simp [nth, hlx]
      have hAm : ∀ i, i < k → nth A i ∈ xs := fun i hi => by
        have h1 : nth A i ∈ A := by simp [nth, show i < A.length by omega]
        have h2 : ∀ z, z ∈ A → z ∈ xs := fun z hz => by
          rw [hA] at hz
          exact List.mem_of_mem_take (insF_mem K hz)
        exact h2 _ h1
      have HAM := Lib.hid hAm
      have hRl : (xs.drop (k + 1)).length = n - (k + 1) := by rw [List.length_drop, HN.out]
      rw [hst] at hH
      have HAL := Lib.hid hAl; have HRL := Lib.hid hRl
      have HH2 := Lib.hid hH
      generalize hRd : xs.drop (k + 1) = R at HEN HRL HH2
      have HRD := Lib.hid hRd
      clear hst hen hAl hAm hRl hdr hA hx hH HH hRd
      go_wp2
      go_loopw [9] (fun i wr => ∃ (j : Nat), j ≤ k ∧ i = .int .i64 j ∧ posR K A x j = posR K A x k ∧ HoldsF w wr g (n * 2) (fc 2 TmV.c (stJ A x R j))) (fun i _ => (intOf i).toNat)
      case atStart => exact ⟨k, Nat.le_refl _, rfl, rfl, HH2.out⟩
      case round =>
        clear HH2
        obtain ⟨j, hjk, rfl, hpos, hH⟩ := hrel
        have HPOS := Lib.hid hpos; have HH2 := Lib.hid hH
        clear hpos
        have hSl : n = (stJ A x R j).length := by rw [stJ_len A x R (by have := HAL.out; omega)]; have := HAL.out; have := HRL.out; omega
        have HSL := Lib.hid hSl
        clear hSl
        by_cases hj : 0 < j
        · have hj' : (0 : Int) < (j : Int) := by omega
          have hdec : decide ((0 : Int) < (j : Int)) = true := by simpa using hj'
          obtain ⟨i, rfl⟩ : ∃ i, j = i + 1 := ⟨j - 1, by omega⟩
          have HXA := Lib.hid (stJ_at A x R (j := i + 1) (by have := HAL.out; omega))
          have HYA := Lib.hid (stJ_before A x R (i := i) (by have := HAL.out; omega))
          have hym := HAM.out i (by omega)
          have HPS := Lib.hid (show posR K A x (i + 1) = if K x < K (nth A i) then posR K A x i else i + 1 from rfl)
          have d0 := hH.cell ((i + 1) * 2) (by omega)
          have d1 := hH.cell ((i + 1) * 2 + 1) (by omega)
          have e0 := hH.cell (i * 2) (by omega)
          have e1 := hH.cell (i * 2 + 1) (by omega)
          simp only [fc, show (i + 1) * 2 / 2 = i + 1 by omega, show (i + 1) * 2 % 2 = 0 by omega, show ((i + 1) * 2 + 1) / 2 = i + 1 by omega, show ((i + 1) * 2 + 1) % 2 = 1 by omega, show i * 2 / 2 = i by omega, show i * 2 % 2 = 0 by omega, show (i * 2 + 1) / 2 = i by omega, show (i * 2 + 1) % 2 = 1 by omega, HXA.out, HYA.out, TmV.c0, TmV.c1] at d0 d1 e0 e1
          have hc0 := fun z : Grow wr => HP.out x (nth A i) hxm hym z.w (hH.ext z.h).grown
          generalize hY : nth A i = y at *
          unfold TmV.val at hc0
          have HC := Lib.hid hc0
          have HYE := Lib.hid hY
          have hE : ∀ (args : Array Value) (w : World), (callFunc F args).run Try.prog w = .ok (.enter F args) w := HE
          have f0 := hH.free ((i + 1) * 2)
          have f1 := hH.free ((i + 1) * 2 + 1)
          have f2 := hH.free (i * 2)
          have f3 := hH.free (i * 2 + 1)
          have hk0 : (0 : Int) ≤ (i : Int) := by omega
          have hk1' : (i : Int) + 1 < (n : Int) := by omega
          have hk2 : (i : Int) < (n : Int) := by omega
          clear hH hc0 hY
          go_wp2
          refine wp_region_ext (by kernel_rfl) (by kernel_rfl) ?_
          have gl0 : g < wr.heap.size := World.block_lt_of_cell? _ _ d0
          have g0 := Grow.cells d0
          have g1 := Grow.cells d1
          have g2 := Grow.cells e0
          have g3 := Grow.cells e1
          repeat (go_big_quiet_step (exact Calls.ext_of (HC.out _)))
          refine wpQuiet_nil ?_
          rintro _ ⟨⟨w1, hx1⟩, rfl⟩
          clear g0 g1 g2 g3
          rename_i w1
          have d0 := hx1.cells d0
          have d1 := hx1.cells d1
          have e0 := hx1.cells e0
          have e1 := hx1.cells e1
          have gl := World.block_lt_of_cell? _ _ d0
          have f0 := (hx1.frozenr _ _ gl0).trans f0
          have f1 := (hx1.frozenr _ _ gl0).trans f1
          have f2 := (hx1.frozenr _ _ gl0).trans f2
          have f3 := (hx1.frozenr _ _ gl0).trans f3
          have HH3 := Lib.hid (HH2.out.ext hx1)
          clear hx1 HH2 HC
          by_cases hc : K x < K y
          · have hc2 : cmpJ (K x) (K y) < 0 := cmpJ_neg.2 hc
            have hc' : decide (cmpJ (K x) (K y) < 0) = true := by simpa using hc2
            have HLT := Lib.hid (HPS.out.symm.trans HPOS.out)
            rw [if_pos hc] at HLT
            clear hc
            go_wp2
            go_region
            all_goals
              go_wp2
              go_roundw
              case rel =>
                have hsw := HH3.out.swap (i := i) (by omega) HSL.out
                rw [HXA.out, HYA.out, stJ_swap A x R (by have := HAL.out; omega)] at hsw
                simp only [TmV.c0, TmV.c1] at hsw
                first
                  | exact ⟨i, by omega, by go_num, HLT.out, hsw.1.ext (by repeat (first | (with_reducible exact Ext.refl _) | (with_reducible assumption) | with_reducible refine Ext.drew ?_ | with_reducible refine Ext.alloc ?_ _ | with_reducible refine Ext.setCell ?_ (by first | (simp; done) | (simp; omega) | omega) _ | with_reducible refine Ext.trans ?_ (by with_reducible assumption)))⟩
                  | exact ⟨i, by omega, by go_num, HLT.out, hsw.2.ext (by repeat (first | (with_reducible exact Ext.refl _) | (with_reducible assumption) | with_reducible refine Ext.drew ?_ | with_reducible refine Ext.alloc ?_ _ | with_reducible refine Ext.setCell ?_ (by first | (simp; done) | (simp; omega) | omega) _ | with_reducible refine Ext.trans ?_ (by with_reducible assumption)))⟩
              case measure => simp [intOf] <;> omega
          · have hc2 : ¬ cmpJ (K x) (K y) < 0 := fun h => hc (cmpJ_neg.1 h)
            have hc' : decide (cmpJ (K x) (K y) < 0) = false := by simpa using hc2
            have HLT := Lib.hid (HPS.out.symm.trans HPOS.out)
            rw [if_neg hc] at HLT
            have hc3 : 0 ≤ cmpJ (K x) (K y) := by omega
            clear hc hc2
            go_wp2
            go_roundw
            case rel => exact ⟨k + 1, by omega, .inl (by omega), by go_num, by rw [HRD.out, HEN.out, ← HLT.out]; exact HH3.out⟩
            case measure => simp [intOf] <;> omega
        · obtain rfl : j = 0 := by omega
          have hdec : decide ((0 : Int) < ((0 : Nat) : Int)) = false := by decide
          clear hH
          go_wp2
          refine wp_region_ext (by kernel_rfl) (by kernel_rfl) ?_
          repeat (go_big_quiet_step (fail))
          refine wpQuiet_nil ?_
          rintro _ ⟨⟨w1, hx1⟩, rfl⟩
          rename_i w1
          have HH3 := Lib.hid (HH2.out.ext hx1)
          clear hx1 HH2
          go_wp2
          go_roundw
          case rel => exact ⟨k + 1, by omega, .inl (by omega), by go_num, by rw [HRD.out, HEN.out, ← HPOS.out]; exact HH3.out⟩
          case measure => simp [intOf] <;> omega
    · have hlt' : ¬ (k : Int) < (n : Int) := by omega
      have HFIN := Lib.hid (show insF K (xs.take k) ++ xs.drop k = insF K xs from by
        have h1 : xs.length ≤ k := by rw [← HN.out]; omega
        rw [List.take_of_length_le h1, List.drop_eq_nil_of_le h1, List.append_nil])
      go_wp2
      go_end0
      exact ⟨rfl, by rw [← HFIN.out]; exact hH⟩

set_option maxRecDepth 100000 in
set_option maxHeartbeats 2000000 in
theorem stable_Team {g cap : Nat} {xs : List TmV} {K : TmV → Int} {F : FuncId} {w : World} (hE : EntersF Try.prog F) (hn : xs.length ≤ 12) (hH : HoldsF w w g (xs.length * 2) (fc 2 TmV.c xs))
    (hp : ∀ a b, a ∈ xs → b ∈ xs → ∀ w', w.grownBy w' (some g) → Calls Try.prog F #[a.val, b.val] w' fun e w'' => e = .returned (.int .i64 (cmpJ (K a) (K b))) ∧ Ext w' w'') :
    Calls Try.prog 69 #[.slice (some ⟨g, 0, none⟩) xs.length cap, .int .i64 xs.length, .func (.func F) #[] #[]] w fun e w' => e = .returned (.tuple #[]) ∧ HoldsF w w' g (xs.length * 2) (fc 2 TmV.c (insF K xs)) := by
  have H := insSort_Team (cap := cap) hE (by omega) hH hp
  have hl1 : ¬ (20 : Int) ≤ (xs.length : Int) := by omega
  have hl2 : ¬ (20 : Int) < (xs.length : Int) := by omega
  clear hE hH hp
  go_enter Try.func69, Try.ntmps69
  go_wp2
  go_loopw [7, 8] (fun a b wr => a = .int .i64 0 ∧ b = .int .i64 20 ∧ wr = w) (fun _ _ _ => 0)
  case atStart => exact ⟨rfl, rfl, rfl⟩
  case round =>
    obtain ⟨rfl, rfl, rfl⟩ := hrel
    go_wp2_with fail
    refine H.mono ?_; rintro e w1 ⟨rfl, h1⟩
    have HF := Lib.hid h1
    clear h1 H
    go_wp2
    go_loopw [6] (fun a wr => a = .int .i64 20 ∧ wr = w1) (fun _ _ => 0)
    case atStart => exact ⟨rfl, rfl⟩
    case round =>
      obtain ⟨rfl, rfl⟩ := hrel
      go_wp2
      go_end0
      exact ⟨rfl, HF.out⟩

set_option maxRecDepth 100000 in
theorem sortStable_Team {g cap : Nat} {xs : List TmV} {K : TmV → Int} {F : FuncId} {w : World} (hE : EntersF Try.prog F) (hn : xs.length ≤ 12) (hH : HoldsF w w g (xs.length * 2) (fc 2 TmV.c xs))
    (hp : ∀ a b, a ∈ xs → b ∈ xs → ∀ w', w.grownBy w' (some g) → Calls Try.prog F #[a.val, b.val] w' fun e w'' => e = .returned (.int .i64 (cmpJ (K a) (K b))) ∧ Ext w' w'') :
    Calls Try.prog 53 #[.slice (some ⟨g, 0, none⟩) xs.length cap, .func (.func F) #[] #[]] w fun e w' => e = .returned (.tuple #[]) ∧ HoldsF w w' g (xs.length * 2) (fc 2 TmV.c (insF K xs)) := by
  have H := stable_Team (cap := cap) hE hn hH hp
  clear hE hH hp
  go_enter Try.func53, Try.ntmps53
  go_wp2_with fail
  refine H.mono ?_; rintro e w1 ⟨rfl, h1⟩
  have HF := Lib.hid h1
  clear h1 H
  go_wp2
  go_end0
  exact ⟨rfl, HF.out⟩

end Go.Proofs.Ytlpogglcbphilaa
