/-
  Proved here: what slices.Compact returns and leaves of a row of texts.
  Conditions: the length fits an int.
-/
import Derived.Test.YtkejhhflpnfepaaCompS
import Derived.Test.YtkejhhflpnfepaaStrO
import Derived.BigQuiet
namespace Go.Proofs.Ytkejhhflpnfepaa
open Go.RowKit

/-- equal, as the program tests it -/
def eqT (a b : ByteArray) : Bool := a.toList == b.toList

set_option maxRecDepth 100000 in
set_option maxHeartbeats 4000000 in
theorem compact_T {g cap : Nat} {xs : List ByteArray} {w : World} (hn : xs.length ≤ 1048576) (hcap : xs.length ≤ cap) (hH : HoldsA w w g xs.length Value.string xs) :
    Calls Try.prog 82 #[.slice (some ⟨g, 0, none⟩) xs.length cap] w fun e w' => e = .returned (.slice (some ⟨g, 0, none⟩) (keepU eqT xs xs.length).length cap) ∧ HoldsA w w' g (keepU eqT xs xs.length).length Value.string (keepU eqT xs xs.length) := by
  obtain ⟨n, hN⟩ : ∃ n, n = xs.length := ⟨_, rfl⟩
  obtain ⟨L, hL⟩ : ∃ L, L = keepU eqT xs n := ⟨_, rfl⟩
  have hLl : L.length ≤ n := by rw [hL]; exact keepU_le _ _ _
  rw [← hN] at hn hcap hH ⊢
  rw [← hL]
  have HN := Lib.hid hN; have HL := Lib.hid hL
  have HH := Lib.hid hH
  clear hN hL hH
  by_cases h2 : n < 2
  · have hfin : L = xs := by
      rw [HL.out, keepU_all (by rw [HN.out]; exact Nat.le_refl _) (fun j h1 h3 => by omega), HN.out, List.take_length]
    have HF := Lib.hid hfin
    have h2' : (n : Int) < 2 := by omega
    clear hfin h2
    go_enter Try.func82, Try.ntmps82
    go_wp2
    go_ret
    have hll : L.length = n := by rw [HF.out, HN.out]
    rw [hll, HF.out]
    exact ⟨rfl, HH.out⟩
  · have h2' : ¬ (n : Int) < 2 := by omega
    have hz : ∀ w, (zeroValue 9).run Try.prog w = .ok (.string ByteArray.empty) w := fun _ => by kernel_rfl
    have HZ := Lib.hid hz; clear hz
    go_enter Try.func82, Try.ntmps82
    go_wp2
    go_loopw [3] (fun i wr => ∃ k : Nat, 1 ≤ k ∧ k ≤ n ∧ i = .int .i64 k ∧ HoldsA w wr g n Value.string xs ∧ ∀ j, 1 ≤ j → j < k → eqT (nth xs j) (nth xs (j - 1)) = false) (fun i _ => n - (intOf i).toNat)
    case atStart => exact ⟨1, Nat.le_refl _, by omega, rfl, HH.out, fun j h1 h3 => by omega⟩
    case round =>
      obtain ⟨k, hk1, hk, rfl, hH, hb⟩ := hrel
      have HB := Lib.hid hb; have HH2 := Lib.hid hH
      clear hb HH
      by_cases hlt : k < n
      · have hlt' : (k : Int) < (n : Int) := by omega
        obtain ⟨i, rfl⟩ : ∃ i, k = i + 1 := ⟨k - 1, by omega⟩
        obtain ⟨x, hx⟩ : ∃ x, x = nth xs (i + 1) := ⟨_, rfl⟩
        obtain ⟨y, hy⟩ : ∃ y, y = nth xs i := ⟨_, rfl⟩
        have d0 := hH.cell (i + 1) hlt
        have d1 := hH.cell i (by omega)
        rw [← hx] at d0
        rw [← hy] at d1
        have HX := Lib.hid hx; have HY := Lib.hid hy
        have hk0 : (0 : Int) ≤ (i : Int) := by omega
        have hk2 : (i : Int) < (n : Int) := by omega
        have hk3 : (i : Int) + 1 < (n : Int) := by omega
        have HQ := Lib.hid (show eqT (nth xs (i + 1)) (nth xs i) = eqT x y by rw [HX.out, HY.out])
        clear hH hx hy
        go_wp2
        refine wp_region_ext (by kernel_rfl) (by kernel_rfl) ?_
        have g0 := Grow.cells d0
        have g1 := Grow.cells d1
        repeat (go_big_quiet_step (fail))
        refine wpQuiet_nil ?_
        rintro _ ⟨⟨w1, hx1⟩, rfl⟩
        clear g0 g1
        rename_i w1
        have HH3 := Lib.hid (HH2.out.ext hx1)
        clear hx1 HH2 d0 d1
        cases hq0 : (x.toList == y.toList)
        · have hq : eqT x y = false := hq0
          go_wp2
          go_roundw
          case rel => exact ⟨i + 1 + 1, by omega, by omega, by go_num, HH3.out, fun j h1 h3 => by by_cases e : j = i + 1; (subst e; rw [Nat.add_sub_cancel, HQ.out]; exact hq); exact HB.out j h1 (by omega)⟩
          case measure => simp [intOf] <;> omega
        · have hq : eqT x y = true := hq0
          have HQT := Lib.hid hq
          have hck : ¬ cap = i + 1 := by omega
          have hck0 : (0 : Int) ≤ (i : Int) + 1 := by omega
          have hck1 : (i : Int) + 1 ≤ (n : Int) := by omega
          have hck2 : (n : Int) ≤ (cap : Int) := by omega
          have hD0 : DW w w1 g n (i + 1) (i + 1) (fun p => Value.string (nth L p)) (fun p => Value.string (nth xs p)) := ⟨HH3.out.grown, HH3.out.size, fun p hp => by
              rw [HH3.out.cell p (by omega)]
              have e1 : keepU eqT xs p = xs.take p := keepU_all (by have := HN.out; omega) (fun j h1 h3 => HB.out j h1 (by omega))
              have e2 : keepU eqT xs (p + 1) = keepU eqT xs p ++ [nth xs p] := by
                rw [keepU_all (by have := HN.out; omega) (fun j h1 h3 => HB.out j h1 (by omega)), e1, take_succ_nth (by have := HN.out; omega)]
              have e3 := keepU_nth (q := eqT) (d := xs) (n := p) (N := n) (by omega) e2
              rw [e1, List.length_take, Nat.min_eq_left (by have := HN.out; omega), ← HL.out] at e3
              show _ = some (Value.string (nth L p))
              rw [e3], fun p _ h4 => HH3.out.cell p h4, fun p hp => ⟨_, HH3.out.cell p hp⟩, HH3.out.free⟩
          have hcnt0 : (keepU eqT xs (i + 2)).length = i + 1 := by
            rw [keepU_yes (by omega) (by rw [Nat.add_sub_cancel, HQ.out]; exact HQT.out), keepU_all (by have := HN.out; omega) (fun j h1 h3 => HB.out j h1 h3), List.length_take, Nat.min_eq_left (by have := HN.out; omega)]
          have HD0 := Lib.hid hD0; have HCN0 := Lib.hid hcnt0
          clear hq hq0 hD0 hcnt0 HB HQ HQT
          go_wp2
          go_loopw [3, 5] (fun m j wr => ∃ (mi jj : Nat), 1 ≤ jj ∧ i + 1 + jj ≤ n ∧ mi ≤ i + jj ∧ m = .int .i64 mi ∧ j = .int .i64 jj ∧ (keepU eqT xs (i + 1 + jj)).length = mi ∧ DW w wr g n mi (i + jj) (fun p => Value.string (nth L p)) (fun p => Value.string (nth xs p))) (fun _ j _ => n - (intOf j).toNat)
          case atStart => exact ⟨i + 1, 1, Nat.le_refl _, by omega, by omega, by go_num, rfl, HCN0.out, HD0.out⟩
          case round =>
            clear HD0 HCN0 HH3
            obtain ⟨mi, jj, hj1, hj, hmi, rfl, rfl, hcnt, hD⟩ := hrel
            have HCN := Lib.hid hcnt; have HD := Lib.hid hD
            clear hcnt
            by_cases hlt2 : i + 1 + jj < n
            · obtain ⟨p, rfl⟩ : ∃ p, jj = p + 1 := ⟨jj - 1, by omega⟩
              have hlt3 : (p : Int) + 1 < ((n - (i + 1) : Nat) : Int) := by omega
              have hlt4 : (p : Int) < ((n - (i + 1) : Nat) : Int) := by omega
              have hp0 : (0 : Int) ≤ (p : Int) := by omega
              obtain ⟨x, hx⟩ : ∃ x, x = nth xs (i + 1 + (p + 1)) := ⟨_, rfl⟩
              obtain ⟨y, hy⟩ : ∃ y, y = nth xs (i + 1 + p) := ⟨_, rfl⟩
              have d0 := hD.hi (i + 1 + (p + 1)) (by omega) hlt2
              have d1 := hD.hi (i + 1 + p) (by omega) (by omega)
              skip
              rw [← hx] at d0
              rw [← hy] at d1
              have HX := Lib.hid hx; have HY := Lib.hid hy
              have HQ := Lib.hid (show eqT (nth xs (i + 1 + (p + 1))) (nth xs (i + 1 + (p + 1) - 1)) = eqT x y by rw [HX.out, HY.out]; rfl)
              clear hD hx hy
              go_wp2
              refine wp_region_ext (by kernel_rfl) (by kernel_rfl) ?_
              have g0 := Grow.cells d0
              have g1 := Grow.cells d1
              repeat (go_big_quiet_step (fail))
              refine wpQuiet_nil ?_
              rintro _ ⟨⟨w1, hx1⟩, rfl⟩
              clear g0 g1
              rename_i w1
              have d0 := hx1.cells d0
              have hD := HD.out.kept hx1
              obtain ⟨u0, e0⟩ := hD.all mi (by omega)
              have f0 := hD.free mi
              have HD2 := Lib.hid (hD.skip (J' := i + (p + 1) + 1) (by omega))
              have hm0 : (0 : Int) ≤ (mi : Int) := by omega
              have hm1 : (mi : Int) < (n : Int) := by omega
              clear hx1 HD d1 hD
              cases hq0 : (x.toList == y.toList)
              · have hq : eqT x y = false := hq0
                have hqn : (x.toList != y.toList) = true := by simp only [bne, hq0]; rfl
                have hK : keepU eqT xs (i + 1 + (p + 1) + 1) = keepU eqT xs (i + 1 + (p + 1)) ++ [nth xs (i + 1 + (p + 1))] := keepU_no (by rw [HQ.out]; exact hq)
                have hLm : nth L mi = x := by
                  have := keepU_nth (q := eqT) (d := xs) (n := i + 1 + (p + 1)) (N := n) hlt2 hK
                  rw [HCN.out, ← HL.out, ← HX.out] at this
                  exact this
                have HK := Lib.hid (show (keepU eqT xs (i + 1 + (p + 1 + 1))).length = mi + 1 by
                  rw [show i + 1 + (p + 1 + 1) = i + 1 + (p + 1) + 1 by omega, hK, List.length_append, HCN.out]; rfl)
                have HR := Lib.hid (HD2.out.put (by omega) (by omega) (u := .string x) (by rw [hLm]))
                clear hK hLm hq
                go_wp2
                go_roundw
                case rel => exact ⟨mi + 1, p + 1 + 1, by omega, by omega, by omega, by go_num, by go_num, HK.out, HR.out⟩
                case measure => simp [intOf] <;> omega
              · have hq : eqT x y = true := hq0
                have hqn : (x.toList != y.toList) = false := by simp only [bne, hq0]; rfl
                have HK := Lib.hid (show (keepU eqT xs (i + 1 + (p + 1 + 1))).length = mi by
                  rw [show i + 1 + (p + 1 + 1) = i + 1 + (p + 1) + 1 by omega, keepU_yes (by omega) (by rw [HQ.out]; exact hq), HCN.out])
                clear hq
                go_wp2
                go_roundw
                case rel => exact ⟨mi, p + 1 + 1, by omega, by omega, by omega, rfl, by go_num, HK.out, HD2.out⟩
                case measure => simp [intOf] <;> omega
            · have hjn : i + 1 + jj = n := by omega
              have hlt3 : ¬ (jj : Int) < ((n - (i + 1) : Nat) : Int) := by omega
              have hLm : L.length = mi := by rw [HL.out, ← hjn]; exact HCN.out
              have hcl : ∀ ty, (Builtin.clear_ #[57] ty #[.slice (some ⟨g, mi, none⟩) (n - mi) (cap - mi)]).run Try.prog wr = .ok (.tuple #[]) (wr.setCells g mi (Builtin.zeroCells (Value.string ByteArray.empty).cells (n - mi)).toList) :=
                fun ty => run_clear_rows wr 57 ty 9 Try.underlying57 _ HZ.out (by decide) (by decide) g mi _ _ (by omega) (fun j hj => by
                  obtain ⟨u, hu⟩ := hD.all (mi + j) (by simp [Value.cells] at hj; omega)
                  rw [hu]; rfl) hD.free
              have HEND := Lib.hid (hD.clear (Builtin.zeroCells (Value.string ByteArray.empty).cells (n - mi)).toList)
              have hck2' : ¬ cap = mi := by omega
              have hm0 : (0 : Int) ≤ (mi : Int) := by omega
              have hm1 : (mi : Int) ≤ (n : Int) := by omega
              have hm2 : (mi : Int) ≤ (cap : Int) := by omega
              have HLM := Lib.hid hLm
              clear hD HD hjn hLm
              go_wp2
              go_ret
              obtain ⟨q1, q2, q3, q4⟩ := HEND.out
              rw [HLM.out]
              exact ⟨rfl, q1, q2, q3, q4⟩
      · obtain rfl : k = n := by omega
        have hnk : ¬ (k : Int) < (k : Int) := by omega
        have hfin : L = xs := by
          rw [HL.out, keepU_all (by rw [HN.out]; exact Nat.le_refl _) (fun j h1 h3 => HB.out j h1 h3), HN.out, List.take_length]
        have hll : L.length = k := by rw [hfin, HN.out]
        have HF := Lib.hid hfin; have HLL := Lib.hid hll
        clear hfin hll hH
        go_wp2
        go_ret
        rw [HLL.out, HF.out]
        exact ⟨rfl, HH2.out⟩

end Go.Proofs.Ytkejhhflpnfepaa
