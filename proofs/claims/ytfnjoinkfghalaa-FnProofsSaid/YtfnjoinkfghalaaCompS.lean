/-
  Proved here: what slices.CompactFunc returns and leaves of a row of slices of ints, whatever the test.
  Conditions: the test leaves what was there as it was; the length fits an int.
-/
import Derived.Test.YtfnjoinkfghalaaSortP
import Derived.Test.YtfnjoinkfghalaaRows
import Derived.Test.YtfnjoinkfghalaaDel
import Derived.BigQuiet
namespace Go.Proofs.Ytfnjoinkfghalaa
open Go.RowKit

section
variable {α : Type} [Inhabited α]
/-- the first n without those that are like their left neighbours -/
def keepU (q : α → α → Bool) (d : List α) : Nat → List α
  | 0 => []
  | n + 1 => if n ≠ 0 ∧ q (nth d n) (nth d (n - 1)) = true then keepU q d n else keepU q d n ++ [nth d n]
theorem keepU_yes {q : α → α → Bool} {d : List α} {n : Nat} (h0 : n ≠ 0) (h : q (nth d n) (nth d (n - 1)) = true) : keepU q d (n + 1) = keepU q d n := by rw [keepU, if_pos ⟨h0, h⟩]
theorem keepU_no {q : α → α → Bool} {d : List α} {n : Nat} (h : q (nth d n) (nth d (n - 1)) = false) : keepU q d (n + 1) = keepU q d n ++ [nth d n] := by rw [keepU, if_neg (by rw [h]; simp)]
theorem keepU_le (q : α → α → Bool) (d : List α) (n : Nat) : (keepU q d n).length ≤ n := by
  induction n with
  | zero => simp [keepU]
  | succ n ih =>
    rw [keepU]
    split
    · omega
    · simp; omega
theorem keepU_all {q : α → α → Bool} {d : List α} {n : Nat} (hn : n ≤ d.length) (h : ∀ j, 1 ≤ j → j < n → q (nth d j) (nth d (j - 1)) = false) : keepU q d n = d.take n := by
  induction n with
  | zero => simp [keepU]
  | succ n ih =>
    have e : keepU q d (n + 1) = keepU q d n ++ [nth d n] := by
      by_cases h0 : n = 0
      · rw [keepU, if_neg (fun hh => hh.1 h0)]
      · exact keepU_no (h n (by omega) (by omega))
    rw [e, ih (by omega) (fun j h1 h2 => h j h1 (by omega)), take_succ_nth (by omega)]
theorem keepU_pre {q : α → α → Bool} {d : List α} {n m : Nat} (h : n ≤ m) : ∃ t, keepU q d m = keepU q d n ++ t := by
  induction m with
  | zero => obtain rfl : n = 0 := by omega
            exact ⟨[], by simp⟩
  | succ m ih =>
    by_cases e : n = m + 1
    · subst e; exact ⟨[], by simp⟩
    · obtain ⟨t, ht⟩ := ih (by omega)
      rw [keepU]
      split
      · exact ⟨t, ht⟩
      · exact ⟨t ++ [nth d m], by rw [ht, List.append_assoc]⟩
/-- where element n comes to lie -/
theorem keepU_nth {q : α → α → Bool} {d : List α} {n N : Nat} (hn : n < N) (h : keepU q d (n + 1) = keepU q d n ++ [nth d n]) : nth (keepU q d N) (keepU q d n).length = nth d n := by
  obtain ⟨t, ht⟩ := keepU_pre (q := q) (d := d) (show n + 1 ≤ N from hn)
  rw [ht, h, nth_app_lt (by simp), nth_app_ge (Nat.le_refl _), Nat.sub_self]
  rfl
end

set_option maxRecDepth 100000 in
set_option maxHeartbeats 4000000 in
theorem compactFunc_S {α : Type} [Inhabited α] {g cap : Nat} {xs : List α} {cc : α → Value} {q : α → α → Bool} {F : FuncId} {w : World} (hE : EntersF Try.prog F) (hn : xs.length ≤ 1048576) (hcap : xs.length ≤ cap) (hH : HoldsA w w g xs.length cc xs)
    (hsl : ∀ x : α, ∃ ao n c, cc x = .slice ao n c)
    (hp : ∀ a b, a ∈ xs → b ∈ xs → ∀ w', w.grownBy w' (some g) → Calls Try.prog F #[cc a, cc b] w' fun e w'' => e = .returned (.bool (q a b)) ∧ Ext w' w'') :
    Calls Try.prog 49 #[.slice (some ⟨g, 0, none⟩) xs.length cap, .func (.func F) #[] #[]] w fun e w' => e = .returned (.slice (some ⟨g, 0, none⟩) (keepU q xs xs.length).length cap) ∧ HoldsA w w' g (keepU q xs xs.length).length cc (keepU q xs xs.length) := by
  have HE : Hid (EntersF Try.prog F) := hE
  have HP := Lib.hid hp; have HS := Lib.hid hsl
  have hmem : ∀ k, k < xs.length → nth xs k ∈ xs := fun k hk => by simp [nth, hk]
  have HM := Lib.hid hmem
  clear hE hp hsl hmem
  obtain ⟨n, hN⟩ : ∃ n, n = xs.length := ⟨_, rfl⟩
  obtain ⟨L, hL⟩ : ∃ L, L = keepU q xs n := ⟨_, rfl⟩
  have hLl : L.length ≤ n := by rw [hL]; exact keepU_le _ _ _
  rw [← hN] at hn hcap hH HM ⊢
  rw [← hL]
  have HN := Lib.hid hN; have HL := Lib.hid hL
  have HH := Lib.hid hH
  clear hN hL hH
  by_cases h2 : n < 2
  · have hfin : L = xs := by
      rw [HL.out, keepU_all (by rw [HN.out]; exact Nat.le_refl _) (fun j h1 h3 => by omega), HN.out, List.take_length]
    have HF := Lib.hid hfin
    have h2' : (n : Int) < 2 := by omega
    clear hfin h2
    go_enter Try.func49, Try.ntmps49
    go_wp2
    go_ret
    have hll : L.length = n := by rw [HF.out, HN.out]
    rw [hll, HF.out]
    exact ⟨rfl, HH.out⟩
  · have h2' : ¬ (n : Int) < 2 := by omega
    have hz : ∀ w, (zeroValue 48).run Try.prog w = .ok (.slice none 0 0) w := fun _ => by kernel_rfl
    have HZ := Lib.hid hz; clear hz
    go_enter Try.func49, Try.ntmps49
    go_wp2
    go_loopw [5] (fun i wr => ∃ k : Nat, 1 ≤ k ∧ k ≤ n ∧ i = .int .i64 k ∧ HoldsA w wr g n cc xs ∧ ∀ j, 1 ≤ j → j < k → q (nth xs j) (nth xs (j - 1)) = false) (fun i _ => n - (intOf i).toNat)
    case atStart => exact ⟨1, Nat.le_refl _, by omega, rfl, HH.out, fun j h1 h3 => by omega⟩
    case round =>
      obtain ⟨k, hk1, hk, rfl, hH, hb⟩ := hrel
      have HB := Lib.hid hb; have HH2 := Lib.hid hH
      clear hb HH
      by_cases hlt : k < n
      · have hlt' : (k : Int) < (n : Int) := by omega
        obtain ⟨i, rfl⟩ : ∃ i, k = i + 1 := ⟨k - 1, by omega⟩
        obtain ⟨x, hx⟩ : ∃ x, x = nth xs (i + 1) := ⟨_, rfl⟩
        obtain ⟨y, hy⟩ : ∃ y, y = nth xs i := ⟨_, rfl⟩
        have d0 := hH.cell (i + 1) hlt
        have d1 := hH.cell i (by omega)
        rw [← hx] at d0
        rw [← hy] at d1
        have HC := Lib.hid (fun z : Grow wr => HP.out x y (hx ▸ HM.out (i + 1) hlt) (hy ▸ HM.out i (by omega)) z.w (hH.ext z.h).grown)
        have HX := Lib.hid hx; have HY := Lib.hid hy
        obtain ⟨ax, nx, cx, hvx⟩ := HS.out x
        obtain ⟨ay, ny, cy, hvy⟩ := HS.out y
        rw [hvx] at d0 HC
        rw [hvy] at d1 HC
        have hE : ∀ (args : Array Value) (w : World), (callFunc F args).run Try.prog w = .ok (.enter F args) w := HE
        have hk0 : (0 : Int) ≤ (i : Int) := by omega
        have hk2 : (i : Int) < (n : Int) := by omega
        have hk3 : (i : Int) + 1 < (n : Int) := by omega
        have HQ := Lib.hid (show q (nth xs (i + 1)) (nth xs i) = q x y by rw [HX.out, HY.out])
        clear hH hx hy hvx hvy
        go_wp2
        refine wp_region_ext (by kernel_rfl) (by kernel_rfl) ?_
        have g0 := Grow.cells d0
        have g1 := Grow.cells d1
        repeat (go_big_quiet_step (exact Calls.ext_of (HC.out _)))
        refine wpQuiet_nil ?_
        rintro _ ⟨⟨w1, hx1⟩, rfl⟩
        clear g0 g1
        rename_i w1
        have HH3 := Lib.hid (HH2.out.ext hx1)
        clear hx1 HH2 HC d0 d1
        cases hq : q x y
        · go_wp2
          go_roundw
          case rel => exact ⟨i + 1 + 1, by omega, by omega, by go_num, HH3.out, fun j h1 h3 => by by_cases e : j = i + 1; (subst e; rw [Nat.add_sub_cancel, HQ.out]; exact hq); exact HB.out j h1 (by omega)⟩
          case measure => simp [intOf] <;> omega
        · have HQT := Lib.hid hq
          have hck : ¬ cap = i + 1 := by omega
          have hck0 : (0 : Int) ≤ (i : Int) + 1 := by omega
          have hck1 : (i : Int) + 1 ≤ (n : Int) := by omega
          have hck2 : (n : Int) ≤ (cap : Int) := by omega
          have hD0 : DW w w1 g n (i + 1) (i + 1) (fun p => cc (nth L p)) (fun p => cc (nth xs p)) := ⟨HH3.out.grown, HH3.out.size, fun p hp => by
              rw [HH3.out.cell p (by omega)]
              have e1 : keepU q xs p = xs.take p := keepU_all (by have := HN.out; omega) (fun j h1 h3 => HB.out j h1 (by omega))
              have e2 : keepU q xs (p + 1) = keepU q xs p ++ [nth xs p] := by
                rw [keepU_all (by have := HN.out; omega) (fun j h1 h3 => HB.out j h1 (by omega)), e1, take_succ_nth (by have := HN.out; omega)]
              have e3 := keepU_nth (q := q) (d := xs) (n := p) (N := n) (by omega) e2
              rw [e1, List.length_take, Nat.min_eq_left (by have := HN.out; omega), ← HL.out] at e3
              show _ = some (cc (nth L p))
              rw [e3], fun p _ h4 => HH3.out.cell p h4, fun p hp => ⟨_, HH3.out.cell p hp⟩, HH3.out.free⟩
          have hcnt0 : (keepU q xs (i + 2)).length = i + 1 := by
            rw [keepU_yes (by omega) (by rw [Nat.add_sub_cancel, HQ.out]; exact HQT.out), keepU_all (by have := HN.out; omega) (fun j h1 h3 => HB.out j h1 h3), List.length_take, Nat.min_eq_left (by have := HN.out; omega)]
          have HD0 := Lib.hid hD0; have HCN0 := Lib.hid hcnt0
          clear hq hD0 hcnt0 HB HQ HQT
          go_wp2
          go_loopw [5, 7] (fun m j wr => ∃ (mi jj : Nat), 1 ≤ jj ∧ i + 1 + jj ≤ n ∧ mi ≤ i + jj ∧ m = .int .i64 mi ∧ j = .int .i64 jj ∧ (keepU q xs (i + 1 + jj)).length = mi ∧ DW w wr g n mi (i + jj) (fun p => cc (nth L p)) (fun p => cc (nth xs p))) (fun _ j _ => n - (intOf j).toNat)
          case atStart => exact ⟨i + 1, 1, Nat.le_refl _, by omega, by omega, by go_num, rfl, HCN0.out, HD0.out⟩
          case round =>
            clear HD0 HCN0 HH3
            obtain ⟨mi, jj, hj1, hj, hmi, rfl, rfl, hcnt, hD⟩ := hrel
            have HCN := Lib.hid hcnt; have HD := Lib.hid hD
            clear hcnt
            by_cases hlt2 : i + 1 + jj < n
            · obtain ⟨p, rfl⟩ : ∃ p, jj = p + 1 := ⟨jj - 1, by omega⟩
              have hlt3 : (p : Int) + 1 < ((n - (i + 1) : Nat) : Int) := by omega
              have hlt4 : (p : Int) < ((n - (i + 1) : Nat) : Int) := by omega
              have hp0 : (0 : Int) ≤ (p : Int) := by omega
              obtain ⟨x, hx⟩ : ∃ x, x = nth xs (i + 1 + (p + 1)) := ⟨_, rfl⟩
              obtain ⟨y, hy⟩ : ∃ y, y = nth xs (i + 1 + p) := ⟨_, rfl⟩
              have d0 := hD.hi (i + 1 + (p + 1)) (by omega) hlt2
              have d1 := hD.hi (i + 1 + p) (by omega) (by omega)
              skip
              rw [← hx] at d0
              rw [← hy] at d1
              have HC := Lib.hid (fun z : Grow wr => HP.out x y (hx ▸ HM.out _ hlt2) (hy ▸ HM.out _ (by omega)) z.w (hD.kept z.h).grown)
              have HX := Lib.hid hx; have HY := Lib.hid hy
              obtain ⟨ax, nx, cx, hvx⟩ := HS.out x
              obtain ⟨ay, ny, cy, hvy⟩ := HS.out y
              have HVX := Lib.hid hvx
              rw [hvx] at d0 HC
              rw [hvy] at d1 HC
              have hE : ∀ (args : Array Value) (w : World), (callFunc F args).run Try.prog w = .ok (.enter F args) w := HE
              have HQ := Lib.hid (show q (nth xs (i + 1 + (p + 1))) (nth xs (i + 1 + (p + 1) - 1)) = q x y by rw [HX.out, HY.out]; rfl)
              clear hD hx hy hvx hvy
              go_wp2
              refine wp_region_ext (by kernel_rfl) (by kernel_rfl) ?_
              have g0 := Grow.cells d0
              have g1 := Grow.cells d1
              repeat (go_big_quiet_step (exact Calls.ext_of (HC.out _)))
              refine wpQuiet_nil ?_
              rintro _ ⟨⟨w1, hx1⟩, rfl⟩
              clear g0 g1
              rename_i w1
              have d0 := hx1.cells d0
              have hD := HD.out.kept hx1
              obtain ⟨u0, e0⟩ := hD.all mi (by omega)
              have f0 := hD.free mi
              have HD2 := Lib.hid (hD.skip (J' := i + (p + 1) + 1) (by omega))
              have hm0 : (0 : Int) ≤ (mi : Int) := by omega
              have hm1 : (mi : Int) < (n : Int) := by omega
              clear hx1 HD HC d1 hD
              cases hq : q x y
              · have hK : keepU q xs (i + 1 + (p + 1) + 1) = keepU q xs (i + 1 + (p + 1)) ++ [nth xs (i + 1 + (p + 1))] := keepU_no (by rw [HQ.out]; exact hq)
                have hLm : nth L mi = x := by
                  have := keepU_nth (q := q) (d := xs) (n := i + 1 + (p + 1)) (N := n) hlt2 hK
                  rw [HCN.out, ← HL.out, ← HX.out] at this
                  exact this
                have HK := Lib.hid (show (keepU q xs (i + 1 + (p + 1 + 1))).length = mi + 1 by
                  rw [show i + 1 + (p + 1 + 1) = i + 1 + (p + 1) + 1 by omega, hK, List.length_append, HCN.out]; rfl)
                have HR := Lib.hid (HD2.out.put (by omega) (by omega) (u := .slice ax nx cx) (by rw [hLm, HVX.out]))
                clear hK hLm hq
                go_wp2
                go_roundw
                case rel => exact ⟨mi + 1, p + 1 + 1, by omega, by omega, by omega, by go_num, by go_num, HK.out, HR.out⟩
                case measure => simp [intOf] <;> omega
              · have HK := Lib.hid (show (keepU q xs (i + 1 + (p + 1 + 1))).length = mi by
                  rw [show i + 1 + (p + 1 + 1) = i + 1 + (p + 1) + 1 by omega, keepU_yes (by omega) (by rw [HQ.out]; exact hq), HCN.out])
                clear hq
                go_wp2
                go_roundw
                case rel => exact ⟨mi, p + 1 + 1, by omega, by omega, by omega, rfl, by go_num, HK.out, HD2.out⟩
                case measure => simp [intOf] <;> omega
            · have hjn : i + 1 + jj = n := by omega
              have hlt3 : ¬ (jj : Int) < ((n - (i + 1) : Nat) : Int) := by omega
              have hLm : L.length = mi := by rw [HL.out, ← hjn]; exact HCN.out
              have hcl : ∀ ty, (Builtin.clear_ #[24] ty #[.slice (some ⟨g, mi, none⟩) (n - mi) (cap - mi)]).run Try.prog wr = .ok (.tuple #[]) (wr.setCells g mi (Builtin.zeroCells (Value.slice none 0 0).cells (n - mi)).toList) :=
                fun ty => run_clear_rows wr 24 ty 48 Try.underlying24 _ HZ.out (by decide) (by decide) g mi _ _ (by omega) (fun j hj => by
                  obtain ⟨u, hu⟩ := hD.all (mi + j) (by simp [Value.cells] at hj; omega)
                  rw [hu]; rfl) hD.free
              have HEND := Lib.hid (hD.clear (Builtin.zeroCells (Value.slice none 0 0).cells (n - mi)).toList)
              have hck2' : ¬ cap = mi := by omega
              have hm0 : (0 : Int) ≤ (mi : Int) := by omega
              have hm1 : (mi : Int) ≤ (n : Int) := by omega
              have hm2 : (mi : Int) ≤ (cap : Int) := by omega
              have HLM := Lib.hid hLm
              clear hD HD hjn hLm
              go_wp2
              go_ret
              obtain ⟨q1, q2, q3, q4⟩ := HEND.out
              rw [HLM.out]
              exact ⟨rfl, q1, q2, q3, q4⟩
      · obtain rfl : k = n := by omega
        have hnk : ¬ (k : Int) < (k : Int) := by omega
        have hfin : L = xs := by
          rw [HL.out, keepU_all (by rw [HN.out]; exact Nat.le_refl _) (fun j h1 h3 => HB.out j h1 h3), HN.out, List.take_length]
        have hll : L.length = k := by rw [hfin, HN.out]
        have HF := Lib.hid hfin; have HLL := Lib.hid hll
        clear hfin hll hH
        go_wp2
        go_ret
        rw [HLL.out, HF.out]
        exact ⟨rfl, HH2.out⟩

end Go.Proofs.Ytfnjoinkfghalaa
