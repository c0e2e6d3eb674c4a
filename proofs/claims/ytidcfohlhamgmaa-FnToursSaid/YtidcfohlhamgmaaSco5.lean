/-
  Proved here: what areCodesOf, l17Codes, scoreFor, l17Score return.
  Conditions: the lengths fit; the rule is valid.
-/
import Derived.Test.YtidcfohlhamgmaaSco2
import Derived.Test.YtidcfohlhamgmaaSearch
namespace Go.Proofs.Ytidcfohlhamgmaa
open Go.RowKit

theorem impl_areCodesOf_1 {code : Int} {B : Nat} {co : Option Addr} {cap n : Nat} {xs : List Ctl} {w : World} (hb : w.cell? ⟨B, 0, none⟩ = some (.slice co n cap)) (_hB : B < w.heap.size) (h : RowAt w co 2 n (fun k => (nth xs k).c)) (hn : n ≤ 9223372036854775807) :
    Calls Try.prog 115 #[.int .i64 code, .pointer (some ⟨B, 0, none⟩)] w fun e w' => e = .returned (.bool (decide (ofI xs n code < 0))) ∧ Ext w w' := by
  have H := impl_controlOf (w := w) (cap := cap) (x := code) h hn
  go_enter Try.func115, Try.ntmps115
  go_wp2_with fail
  refine H.mono ?_; rintro e w1 ⟨rfl, hx1⟩
  go_wp2
  go_ret
  exact ⟨rfl, (by repeat (first | (with_reducible exact Ext.refl _) | (with_reducible assumption) | with_reducible refine Ext.drew ?_ | with_reducible refine Ext.alloc ?_ _ | with_reducible refine Ext.setCell ?_ (by first | (simp; done) | (simp; omega) | omega) _ | with_reducible refine Ext.trans ?_ (by with_reducible assumption)))⟩

theorem impl_areCodesOf {co : Option Addr} {cap : Nat} {xs : List Ctl} {ao : Option Addr} {ac : Nat} {cs : List Int} {w : World} (h : RowAt w co 2 xs.length (fun k => (nth xs k).c)) (hn : xs.length ≤ 9223372036854775807) (h' : RowAt w ao 1 cs.length (ic cs)) (hn' : cs.length ≤ 9223372036854775807) :
    Calls Try.prog 82 #[.slice co xs.length cap, .slice ao cs.length ac] w fun e w' => e = .returned (.bool (ofB xs cs)) ∧ Ext w w' := by
  have hcl : (w.alloc (Obj.cells #[.slice co xs.length cap] 32)).cell? ⟨w.heap.size, 0, none⟩ = some (.slice co xs.length cap) := by go_simp
  have hxa : Ext w (w.alloc (Obj.cells #[.slice co xs.length cap] 32)) := (Ext.refl _).alloc _
  have H := containsFunc_Int (w := w.alloc (Obj.cells #[.slice co xs.length cap] 32)) (cap := ac) (caps := #[.pointer (some ⟨w.heap.size, 0, none⟩)]) (p := fun x => decide (ofI xs xs.length x < 0)) (h'.ext hxa) hn' (entersF_of Try.func115 (by kernel_rfl) rfl) (fun a w' hw' => impl_areCodesOf_1 (hw'.cells hcl) (Nat.lt_of_lt_of_le (by simp) hw'.size) ((h.ext hxa).ext hw') hn)
  have e1 : upto (fun k => !decide (ofI xs xs.length (nth cs k) < 0)) cs.length = ofB xs cs := rfl
  rw [e1] at H
  clear e1 hcl hxa h h'
  go_enter Try.func82, Try.ntmps82
  go_wp2_with fail
  refine H.mono ?_; rintro e w1 ⟨rfl, hx1⟩
  go_wp2
  go_ret
  exact ⟨by simp, (by repeat (first | (with_reducible exact Ext.refl _) | (with_reducible assumption) | with_reducible refine Ext.drew ?_ | with_reducible refine Ext.alloc ?_ _ | with_reducible refine Ext.setCell ?_ (by first | (simp; done) | (simp; omega) | omega) _ | with_reducible refine Ext.trans ?_ (by with_reducible assumption)))⟩

theorem spec_l17Codes {co : Option Addr} {cap : Nat} {xs : List Ctl} {ao : Option Addr} {ac : Nat} {cs : List Int} {w : World} (h : RowAt w co 2 xs.length (fun k => (nth xs k).c)) (hn : xs.length ≤ 9223372036854775807) (h' : RowAt w ao 1 cs.length (ic cs)) (hn' : cs.length ≤ 9223372036854775807) :
    Calls Try.prog 84 #[.slice co xs.length cap, .slice ao cs.length ac] w fun e w' => e = .returned (.bool (ofB xs cs)) ∧ Ext w w' := by
  have HF := fun y x hx => spec_l6Find (w := y) (cap := cap) (x := x) (h.ext hx) hn
  have hfin : ofB xs cs = upto (fun k => !decide (ofI xs xs.length (nth cs k) < 0)) cs.length := rfl
  have HB := Lib.hid hfin; clear hfin
  go_enter Try.func84, Try.ntmps84
  go_wp2
  go_loopw [5] (fun i wr => ∃ k : Nat, k ≤ cs.length ∧ i = .int .i64 k ∧ Ext w wr ∧ upto (fun k => !decide (ofI xs xs.length (nth cs k) < 0)) k = true) (fun i _ => cs.length - (intOf i).toNat)
  case atStart => exact ⟨0, Nat.zero_le _, rfl, Ext.refl _, rfl⟩
  case round =>
    obtain ⟨k, hk, rfl, hx, hu⟩ := hrel
    have HU := Lib.hid hu; clear hu
    by_cases hlt : k < cs.length
    · obtain ⟨b, off, rfl, hcell⟩ := ints_at' h' (by omega)
      have d0 := hx.cells (hcell k hlt)
      clear hcell
      by_cases hneg : ofI xs xs.length (nth cs k) < 0
      · go_wp2_with fail
        refine (HF _ _ hx).mono ?_; rintro e w1 ⟨rfl, hx1⟩
        go_wp2
        go_ret
        exact ⟨ret_b (by rw [HB.out, upto_false hlt (by simp [hneg])]), (by repeat (first | (with_reducible exact Ext.refl _) | (with_reducible assumption) | with_reducible refine Ext.drew ?_ | with_reducible refine Ext.alloc ?_ _ | with_reducible refine Ext.setCell ?_ (by first | (simp; done) | (simp; omega) | omega) _ | with_reducible refine Ext.trans ?_ (by with_reducible assumption)))⟩
      · have hpos : 0 ≤ ofI xs xs.length (nth cs k) := by omega
        go_wp2_with fail
        refine (HF _ _ hx).mono ?_; rintro e w1 ⟨rfl, hx1⟩
        go_wp2
        go_roundw
        case rel => exact ⟨k + 1, by omega, by go_num, hx.trans hx1, upto_succ HU.out (by simp [hneg])⟩
        case measure => simp [intOf] <;> omega
    · have hkn : k = cs.length := by omega
      subst hkn
      go_wp2
      go_ret
      exact ⟨ret_b (by rw [HB.out, HU.out]), (by repeat (first | (with_reducible exact Ext.refl _) | (with_reducible assumption) | with_reducible refine Ext.drew ?_ | with_reducible refine Ext.alloc ?_ _ | with_reducible refine Ext.setCell ?_ (by first | (simp; done) | (simp; omega) | omega) _ | with_reducible refine Ext.trans ?_ (by with_reducible assumption)))⟩

/-- the points of the controls among the first whose codes are told -/
def pickU (xs : List Ctl) (r : RuleD) (cs : List Int) : Nat → Int
  | 0 => 0
  | k + 1 => if hasI cs cs.length (nth xs k).code then pickU xs r cs k + nth r.pts k else pickU xs r cs k
/-- what is taken off for a time -/
def lateI (r : RuleD) (t : Int) : Int := r.pen * (if r.lim < t then t - r.lim else 0)
def scoreI (xs : List Ctl) (r : RuleD) (cs : List Int) (t : Int) : Int := pickU xs r cs xs.length - lateI r t
theorem pick_bd {xs : List Ctl} {r : RuleD} {cs : List Int} {n : Nat} (h : ∀ k, k < n → inB (nth r.pts k) 0 100 = true) : ∀ k, k ≤ n → 0 ≤ pickU xs r cs k ∧ pickU xs r cs k ≤ 100 * k := by
  intro k
  induction k with
  | zero => intro _; simp [pickU]
  | succ k ih =>
    intro hk
    have h1 := ih (by omega)
    have h2 := h k (by omega)
    rw [inB_iff] at h2
    rw [pickU]
    split <;> omega
theorem late_bd {r : RuleD} {t : Int} (hp : inB r.pen 0 50 = true) (hl : inB r.lim 1 200 = true) (h0 : 0 ≤ t) (h1 : t ≤ 17179869184) : 0 ≤ lateI r t ∧ lateI r t ≤ 858993459200 := by
  rw [inB_iff] at hp hl
  unfold lateI
  split
  · constructor
    · exact Int.mul_nonneg hp.1 (by omega)
    · have := Int.mul_le_mul hp.2 (show t - r.lim ≤ 17179869184 by omega) (by omega) (by decide)
      simpa using this
  · simp

theorem spec_l1Most' {a b : Int} {w : World} :
    Calls Try.prog 103 #[.int .i64 a, .int .i64 b] w fun e w' => e = .returned (.int .i64 (if b < a then a else b)) ∧ w = w' := by
  by_cases h : b < a
  · rw [if_pos h]
    go_enter Try.func103, Try.ntmps103
    go_wp2
    go_ret
    exact ⟨rfl, rfl⟩
  · rw [if_neg h]
    go_enter Try.func103, Try.ntmps103
    go_wp2
    go_ret
    exact ⟨rfl, rfl⟩

set_option maxRecDepth 100000 in
set_option maxHeartbeats 2000000 in
theorem impl_scoreFor {xs : List Ctl} {co : Option Addr} {cap : Nat} {r : RuleD} {po : Option Addr} {pc : Nat} {ao : Option Addr} {ac : Nat} {cs : List Int} {t : Int} {w : World} (h : RowAt w co 2 xs.length (fun k => (nth xs k).c)) (h10 : xs.length ≤ 10) (hp : RowAt w po 1 r.pts.length (ic r.pts)) (hl : r.pts.length = xs.length) (hlim : inB r.lim 1 200 = true) (hpen : inB r.pen 0 50 = true) (hpts : ∀ k, k < r.pts.length → inB (nth r.pts k) 0 100 = true)
    (h' : RowAt w ao 1 cs.length (ic cs)) (hn' : cs.length ≤ 9223372036854775807) (ht0 : 0 ≤ t) (ht1 : t ≤ 17179869184) :
    Calls Try.prog 60 #[.slice co xs.length cap, r.val po pc, .slice ao cs.length ac, .int .i64 t] w fun e w' => e = .returned (.int .i64 (scoreI xs r cs t)) ∧ Ext w w' := by
  have hlb := late_bd hpen hlim ht0 ht1
  have hpb := pick_bd (xs := xs) (cs := cs) hpts
  rw [inB_iff] at hlim hpen
  have HPB := Lib.hid hpb; clear hpb hpts
  have HL := Lib.hid hl; clear hl
  have hrl : r.pts.length ≤ 10 := by rw [HL.out]; exact h10
  have hx0 : Ext w (w.alloc (Obj.cells #[.slice po r.pts.length pc, .int .i64 r.lim, .int .i64 r.pen] 43)) := (Ext.refl _).alloc _
  have c0 : (w.alloc (Obj.cells #[.slice po r.pts.length pc, .int .i64 r.lim, .int .i64 r.pen] 43)).cell? ⟨w.heap.size, 0, none⟩ = some (.slice po r.pts.length pc) := by go_simp
  have hfin : scoreI xs r cs t = pickU xs r cs xs.length - lateI r t := rfl
  have HF := Lib.hid hfin; clear hfin
  unfold RuleD.val
  have main : ∀ (wb : World) (V : Int), V = - lateI r t → Ext w wb → wb.cell? ⟨w.heap.size, 0, none⟩ = some (.slice po r.pts.length pc) → True := fun _ _ _ _ _ => trivial
  clear main
  by_cases hlate : r.lim < t
  · have hE : lateI r t = r.pen * (t - r.lim) := by simp [lateI, hlate]
    have hw1 : wrap64 (-r.pen * (t - r.lim)) = -r.pen * (t - r.lim) := IntWalk.wrap64_in _ (by rw [Int.neg_mul, ← hE]; omega)
    have hst : -r.pen * (t - r.lim) = pickU xs r cs 0 - lateI r t := by rw [hE, pickU, Int.neg_mul]; omega
    have HST := Lib.hid hst; clear hst hE
    have hmx : ¬ (0 : Int) > t - r.lim := by omega
    go_enter Try.func60, Try.ntmps60
    go_wp2
    clear hw1
    go_loopw [9, 23] (fun sc i wr => ∃ k : Nat, k ≤ xs.length ∧ i = .int .i64 k ∧ sc = .int .i64 (pickU xs r cs k - lateI r t) ∧ Ext (w.alloc (Obj.cells #[.slice po r.pts.length pc, .int .i64 r.lim, .int .i64 r.pen] 43)) wr) (fun _ i _ => xs.length - (intOf i).toNat)
    case atStart => exact ⟨0, by omega, rfl, by rw [← HST.out], Ext.refl _⟩
    case round =>
      obtain ⟨k, hk, rfl, rfl, hx⟩ := hrel
      have hb := HPB.out k (by rw [HL.out]; exact hk)
      have e0 := hx.cells c0
      have el := World.block_lt_of_cell? _ _ e0
      have hX := hx0.trans hx
      by_cases hlt : k < xs.length
      · have hlp : k < r.pts.length := by rw [HL.out]; exact hlt
        have hb2 := HPB.out (k + 1) (by omega)
        obtain ⟨b, off, rfl, hcell⟩ := h (by omega)
        obtain ⟨b', off', rfl, hcell'⟩ := ints_at' hp (by omega)
        have d0 : wr.cell? ⟨b, off + k * 2, none⟩ = some (.int .i64 (nth xs k).code) := hX.cells (hcell k hlt 0 (by decide))
        have d1 : wr.cell? ⟨b, off + k * 2 + 1, none⟩ = some (.int .i64 (nth xs k).cell) := hX.cells (hcell k hlt 1 (by decide))
        have p0 := hX.cells (hcell' k hlp)
        have HC := fun y (hy : Ext w y) => slices_Contains (w := y) (cap := ac) (v := (nth xs k).code) (h'.ext hy) hn'
        clear hcell hcell'
        cases hh : hasI cs cs.length (nth xs k).code
        · have hpk : pickU xs r cs (k + 1) = pickU xs r cs k := by rw [pickU, hh]; rfl
          have HPK := Lib.hid hpk; clear hpk
          rw [hh] at HC
          go_wp2_with fail
          refine (HC _ (hX.alloc _)).mono ?_; rintro e w1 ⟨rfl, hx1⟩
          go_wp2
          go_roundw
          case rel => exact ⟨k + 1, by omega, by go_num, by rw [HPK.out], (by repeat (first | (with_reducible exact Ext.refl _) | (with_reducible assumption) | with_reducible refine Ext.drew ?_ | with_reducible refine Ext.alloc ?_ _ | with_reducible refine Ext.setCell ?_ (by first | (simp; done) | (simp; omega) | omega) _ | with_reducible refine Ext.trans ?_ (by with_reducible assumption)))⟩
          case measure => simp [intOf] <;> omega
        · have hpk : pickU xs r cs (k + 1) = pickU xs r cs k + nth r.pts k := by rw [pickU, hh]; rfl
          rw [hpk] at hb2
          have HPK := Lib.hid hpk; clear hpk
          rw [hh] at HC
          go_wp2_with fail
          refine (HC _ (hX.alloc _)).mono ?_; rintro e w1 ⟨rfl, hx1⟩
          have hx12 : Ext wr w1 := (by repeat (first | (with_reducible exact Ext.refl _) | (with_reducible assumption) | with_reducible refine Ext.drew ?_ | with_reducible refine Ext.alloc ?_ _ | with_reducible refine Ext.setCell ?_ (by first | (simp; done) | (simp; omega) | omega) _ | with_reducible refine Ext.trans ?_ (by with_reducible assumption)))
          have e0 := hx12.cells e0
          have el := World.block_lt_of_cell? _ _ e0
          have p0 := hx12.cells p0
          clear d0 d1
          go_wp2
          go_roundw
          case rel => exact ⟨k + 1, by omega, by go_num, by rw [HPK.out]; congr 1; omega, hx.trans hx12⟩
          case measure => simp [intOf] <;> omega
      · have hkn : k = xs.length := by omega
        have HK := Lib.hid hkn; clear hkn
        go_wp2
        go_ret
        exact ⟨ret_i (by rw [HF.out, ← HK.out]), hX⟩
  · have hE : lateI r t = 0 := by simp [lateI, hlate]
    have hst : (0 : Int) = pickU xs r cs 0 - lateI r t := by rw [hE, pickU]; rfl
    have HST := Lib.hid hst; clear hst hE
    have hmul : -r.pen * (t - r.lim) = -r.pen * (t - r.lim) := rfl
    clear hmul
    by_cases heq : t = r.lim
    · subst heq
      have hmx : ¬ (0 : Int) > r.lim - r.lim := by omega
      go_enter Try.func60, Try.ntmps60
      go_wp2
      go_loopw [9, 23] (fun sc i wr => ∃ k : Nat, k ≤ xs.length ∧ i = .int .i64 k ∧ sc = .int .i64 (pickU xs r cs k - lateI r r.lim) ∧ Ext (w.alloc (Obj.cells #[.slice po r.pts.length pc, .int .i64 r.lim, .int .i64 r.pen] 43)) wr) (fun _ i _ => xs.length - (intOf i).toNat)
      case atStart => exact ⟨0, by omega, rfl, by rw [← HST.out], Ext.refl _⟩
      case round =>
        obtain ⟨k, hk, rfl, rfl, hx⟩ := hrel
        have hb := HPB.out k (by rw [HL.out]; exact hk)
        have e0 := hx.cells c0
        have el := World.block_lt_of_cell? _ _ e0
        have hX := hx0.trans hx
        by_cases hlt : k < xs.length
        · have hlp : k < r.pts.length := by rw [HL.out]; exact hlt
          have hb2 := HPB.out (k + 1) (by omega)
          obtain ⟨b, off, rfl, hcell⟩ := h (by omega)
          obtain ⟨b', off', rfl, hcell'⟩ := ints_at' hp (by omega)
          have d0 : wr.cell? ⟨b, off + k * 2, none⟩ = some (.int .i64 (nth xs k).code) := hX.cells (hcell k hlt 0 (by decide))
          have d1 : wr.cell? ⟨b, off + k * 2 + 1, none⟩ = some (.int .i64 (nth xs k).cell) := hX.cells (hcell k hlt 1 (by decide))
          have p0 := hX.cells (hcell' k hlp)
          have HC := fun y (hy : Ext w y) => slices_Contains (w := y) (cap := ac) (v := (nth xs k).code) (h'.ext hy) hn'
          clear hcell hcell'
          cases hh : hasI cs cs.length (nth xs k).code
          · have hpk : pickU xs r cs (k + 1) = pickU xs r cs k := by rw [pickU, hh]; rfl
            have HPK := Lib.hid hpk; clear hpk
            rw [hh] at HC
            go_wp2_with fail
            refine (HC _ (hX.alloc _)).mono ?_; rintro e w1 ⟨rfl, hx1⟩
            go_wp2
            go_roundw
            case rel => exact ⟨k + 1, by omega, by go_num, by rw [HPK.out], (by repeat (first | (with_reducible exact Ext.refl _) | (with_reducible assumption) | with_reducible refine Ext.drew ?_ | with_reducible refine Ext.alloc ?_ _ | with_reducible refine Ext.setCell ?_ (by first | (simp; done) | (simp; omega) | omega) _ | with_reducible refine Ext.trans ?_ (by with_reducible assumption)))⟩
            case measure => simp [intOf] <;> omega
          · have hpk : pickU xs r cs (k + 1) = pickU xs r cs k + nth r.pts k := by rw [pickU, hh]; rfl
            rw [hpk] at hb2
            have HPK := Lib.hid hpk; clear hpk
            rw [hh] at HC
            go_wp2_with fail
            refine (HC _ (hX.alloc _)).mono ?_; rintro e w1 ⟨rfl, hx1⟩
            have hx12 : Ext wr w1 := (by repeat (first | (with_reducible exact Ext.refl _) | (with_reducible assumption) | with_reducible refine Ext.drew ?_ | with_reducible refine Ext.alloc ?_ _ | with_reducible refine Ext.setCell ?_ (by first | (simp; done) | (simp; omega) | omega) _ | with_reducible refine Ext.trans ?_ (by with_reducible assumption)))
            have e0 := hx12.cells e0
            have el := World.block_lt_of_cell? _ _ e0
            have p0 := hx12.cells p0
            clear d0 d1
            go_wp2
            go_roundw
            case rel => exact ⟨k + 1, by omega, by go_num, by rw [HPK.out]; congr 1; omega, hx.trans hx12⟩
            case measure => simp [intOf] <;> omega
        · have hkn : k = xs.length := by omega
          have HK := Lib.hid hkn; clear hkn
          go_wp2
          go_ret
          exact ⟨ret_i (by rw [HF.out, ← HK.out]), hX⟩
    · have hmx : (0 : Int) > t - r.lim := by omega
      go_enter Try.func60, Try.ntmps60
      go_wp2
      go_loopw [9, 23] (fun sc i wr => ∃ k : Nat, k ≤ xs.length ∧ i = .int .i64 k ∧ sc = .int .i64 (pickU xs r cs k - lateI r t) ∧ Ext (w.alloc (Obj.cells #[.slice po r.pts.length pc, .int .i64 r.lim, .int .i64 r.pen] 43)) wr) (fun _ i _ => xs.length - (intOf i).toNat)
      case atStart => exact ⟨0, by omega, rfl, by rw [← HST.out], Ext.refl _⟩
      case round =>
        obtain ⟨k, hk, rfl, rfl, hx⟩ := hrel
        have hb := HPB.out k (by rw [HL.out]; exact hk)
        have e0 := hx.cells c0
        have el := World.block_lt_of_cell? _ _ e0
        have hX := hx0.trans hx
        by_cases hlt : k < xs.length
        · have hlp : k < r.pts.length := by rw [HL.out]; exact hlt
          have hb2 := HPB.out (k + 1) (by omega)
          obtain ⟨b, off, rfl, hcell⟩ := h (by omega)
          obtain ⟨b', off', rfl, hcell'⟩ := ints_at' hp (by omega)
          have d0 : wr.cell? ⟨b, off + k * 2, none⟩ = some (.int .i64 (nth xs k).code) := hX.cells (hcell k hlt 0 (by decide))
          have d1 : wr.cell? ⟨b, off + k * 2 + 1, none⟩ = some (.int .i64 (nth xs k).cell) := hX.cells (hcell k hlt 1 (by decide))
          have p0 := hX.cells (hcell' k hlp)
          have HC := fun y (hy : Ext w y) => slices_Contains (w := y) (cap := ac) (v := (nth xs k).code) (h'.ext hy) hn'
          clear hcell hcell'
          cases hh : hasI cs cs.length (nth xs k).code
          · have hpk : pickU xs r cs (k + 1) = pickU xs r cs k := by rw [pickU, hh]; rfl
            have HPK := Lib.hid hpk; clear hpk
            rw [hh] at HC
            go_wp2_with fail
            refine (HC _ (hX.alloc _)).mono ?_; rintro e w1 ⟨rfl, hx1⟩
            go_wp2
            go_roundw
            case rel => exact ⟨k + 1, by omega, by go_num, by rw [HPK.out], (by repeat (first | (with_reducible exact Ext.refl _) | (with_reducible assumption) | with_reducible refine Ext.drew ?_ | with_reducible refine Ext.alloc ?_ _ | with_reducible refine Ext.setCell ?_ (by first | (simp; done) | (simp; omega) | omega) _ | with_reducible refine Ext.trans ?_ (by with_reducible assumption)))⟩
            case measure => simp [intOf] <;> omega
          · have hpk : pickU xs r cs (k + 1) = pickU xs r cs k + nth r.pts k := by rw [pickU, hh]; rfl
            rw [hpk] at hb2
            have HPK := Lib.hid hpk; clear hpk
            rw [hh] at HC
            go_wp2_with fail
            refine (HC _ (hX.alloc _)).mono ?_; rintro e w1 ⟨rfl, hx1⟩
            have hx12 : Ext wr w1 := (by repeat (first | (with_reducible exact Ext.refl _) | (with_reducible assumption) | with_reducible refine Ext.drew ?_ | with_reducible refine Ext.alloc ?_ _ | with_reducible refine Ext.setCell ?_ (by first | (simp; done) | (simp; omega) | omega) _ | with_reducible refine Ext.trans ?_ (by with_reducible assumption)))
            have e0 := hx12.cells e0
            have el := World.block_lt_of_cell? _ _ e0
            have p0 := hx12.cells p0
            clear d0 d1
            go_wp2
            go_roundw
            case rel => exact ⟨k + 1, by omega, by go_num, by rw [HPK.out]; congr 1; omega, hx.trans hx12⟩
            case measure => simp [intOf] <;> omega
        · have hkn : k = xs.length := by omega
          have HK := Lib.hid hkn; clear hkn
          go_wp2
          go_ret
          exact ⟨ret_i (by rw [HF.out, ← HK.out]), hX⟩

end Go.Proofs.Ytidcfohlhamgmaa
