/-
  Proved here: the order of tours; the best tour, by a running best and by parts; what cmp.Or returns at three numbers; what the reference's l17Better returns; a longer tour leaves fewer controls; the state of a tour at the center; no tour that can be made has a greater score than the best one; a greedy tour is one of them and keeps the limit; the time and the score of a tour that has been begun; what the reference's l17Best returns, one step; what the reference's l17Best and BestTour return; the boxes that BestTour's inner function has taken; the order by which it compares; what BestTour's inner function does with the running best; what BestTour returns.
  Conditions: those in each statement.
-/
import Derived.Test.YtidcfohlhamgmaaGreW
import Derived.Test.YtidcfohlhamgmaaSco5
import Derived.Deep.RegionHeld3
import Derived.Test.YtidcfohlhamgmaaTour11
import Derived.Test.YtidcfohlhamgmaaSco6
import Derived.Test.YtidcfohlhamgmaaTouch
import Derived.StillTail
namespace Go.Proofs.Ytidcfohlhamgmaa
open Go.RowKit

theorem cmpI_cases (a b : Int) : (a < b ∧ cmpI a b = -1) ∨ (a = b ∧ cmpI a b = 0) ∨ (b < a ∧ cmpI a b = 1) := by
  unfold cmpI
  rcases Int.lt_trichotomy a b with h | h | h
  · exact .inl ⟨h, if_pos h⟩
  · exact .inr (.inl ⟨h, by rw [if_neg (by omega), if_neg (by omega)]⟩)
  · exact .inr (.inr ⟨h, by rw [if_neg (by omega), if_pos h]⟩)
theorem cmpLI_refl : ∀ a : List Int, cmpLI a a = 0 := by
  intro a
  induction a with
  | nil => rfl
  | cons x a ih =>
    rw [cmpLI]
    rcases cmpI_cases x x with ⟨h, e⟩ | ⟨h, e⟩ | ⟨h, e⟩
    · omega
    · rw [e, if_neg (by decide), ih]
    · omega
theorem cmpLI_zero : ∀ {a b : List Int}, cmpLI a b = 0 → a = b := by
  intro a
  induction a with
  | nil => intro b h; cases b with
    | nil => rfl
    | cons y b => rw [cmpLI] at h; omega
  | cons x a ih => intro b h; cases b with
    | nil => rw [cmpLI] at h; omega
    | cons y b =>
      rw [cmpLI] at h
      rcases cmpI_cases x y with ⟨q, e⟩ | ⟨q, e⟩ | ⟨q, e⟩
      · rw [e, if_pos (by decide)] at h; omega
      · rw [e, if_neg (by decide)] at h; rw [q, ih h]
      · rw [e, if_pos (by decide)] at h; omega
theorem cmpLI_neg : ∀ a b : List Int, cmpLI b a = -cmpLI a b := by
  intro a
  induction a with
  | nil => intro b; cases b <;> rfl
  | cons x a ih => intro b; cases b with
    | nil => rfl
    | cons y b =>
      rw [cmpLI, cmpLI]
      rcases cmpI_cases x y with ⟨q, e⟩ | ⟨q, e⟩ | ⟨q, e⟩ <;> rcases cmpI_cases y x with ⟨q2, e2⟩ | ⟨q2, e2⟩ | ⟨q2, e2⟩ <;> first | omega | skip
      rw [e, e2, if_neg (by decide), if_neg (by decide), ih]
theorem cmpLI_trans : ∀ {a b c : List Int}, cmpLI a b < 0 → cmpLI b c < 0 → cmpLI a c < 0 := by
  intro a
  induction a with
  | nil => intro b c h1 h2; cases c with
    | nil => cases b with
      | nil => rw [cmpLI] at h1; omega
      | cons y b => rw [cmpLI] at h2; omega
    | cons z c => rw [cmpLI]; omega
  | cons x a ih => intro b c h1 h2; cases b with
    | nil => rw [cmpLI] at h1; omega
    | cons y b => cases c with
      | nil => rw [cmpLI] at h2; omega
      | cons z c =>
        rw [cmpLI] at h1 h2 ⊢
        rcases cmpI_cases x y with ⟨q, e⟩ | ⟨q, e⟩ | ⟨q, e⟩ <;> rcases cmpI_cases y z with ⟨q2, e2⟩ | ⟨q2, e2⟩ | ⟨q2, e2⟩ <;> rcases cmpI_cases x z with ⟨q3, e3⟩ | ⟨q3, e3⟩ | ⟨q3, e3⟩ <;> first | omega | skip
        all_goals rw [e] at h1; rw [e2] at h2; rw [e3]
        all_goals simp at h1 h2 ⊢
        all_goals exact ih h1 h2

/-- a stands before b: the greater score, the shorter tour, the lesser codes -/
def befB (a b : List Int × Int) : Bool := decide (b.2 < a.2) || (decide (a.2 = b.2) && (decide (a.1.length < b.1.length) || (decide (a.1.length = b.1.length) && decide (cmpLI a.1 b.1 < 0))))
theorem befB_iff {a b : List Int × Int} : befB a b = true ↔ (b.2 < a.2 ∨ (a.2 = b.2 ∧ (a.1.length < b.1.length ∨ (a.1.length = b.1.length ∧ cmpLI a.1 b.1 < 0)))) := by
  unfold befB
  simp only [Bool.or_eq_true, Bool.and_eq_true, decide_eq_true_eq]
theorem bef_trans {a b c : List Int × Int} (h1 : befB a b = true) (h2 : befB b c = true) : befB a c = true := by
  rw [befB_iff] at *
  have := @cmpLI_trans a.1 b.1 c.1
  omega
theorem bef_tri {a b : List Int × Int} (h1 : befB a b = false) (h2 : befB b a = false) : a = b := by
  have h1 : ¬ (befB a b = true) := by rw [h1]; decide
  have h2 : ¬ (befB b a = true) := by rw [h2]; decide
  rw [befB_iff] at h1 h2
  have h3 := cmpLI_neg a.1 b.1
  have e2 : a.2 = b.2 := by omega
  have e1 : cmpLI a.1 b.1 = 0 := by omega
  exact Prod.ext (cmpLI_zero e1) e2
theorem bef_irr (a : List Int × Int) : befB a a = false := by
  cases h : befB a a
  · rfl
  · rw [befB_iff] at h
    have := cmpLI_refl a.1
    omega
def upd (a b : List Int × Int) : List Int × Int := if befB b a then b else a
theorem upd_assoc (a x y : List Int × Int) : upd (upd a x) y = upd a (upd x y) := by
  unfold upd
  cases h1 : befB x a <;> cases h2 : befB y x
  · simp only [Bool.false_eq_true, if_false, h1]
    cases h3 : befB y a
    · simp
    · exfalso
      cases h4 : befB a x
      · have e := bef_tri h4 h1
        rw [e] at h3; rw [h3] at h2; cases h2
      · rw [bef_trans h3 h4] at h2; cases h2
  · simp
  · simp [h1, h2]
  · simp only [if_true, h2, bef_trans h2 h1]

/-- a fold over those of the first k that a test lets through -/
def goU {α : Type} (P : Ctl → Bool) (g : α → Ctl → α) (l : List Ctl) (s : α) : Nat → α
  | 0 => s
  | k + 1 => if P (nth l k) then g (goU P g l s k) (nth l k) else goU P g l s k
theorem goU_end {α : Type} (P : Ctl → Bool) (g : α → Ctl → α) (l : List Ctl) (s : α) : goU P g l s l.length = (l.filter P).foldl g s := by
  have : ∀ k, k ≤ l.length → goU P g l s k = ((l.take k).filter P).foldl g s := fun k => by
    induction k with
    | zero => intro _; rfl
    | succ k ih =>
      intro hk
      rw [goU, take_succ_nth (by omega), List.filter_append, List.foldl_append, ih (by omega)]
      cases h : P (nth l k) <;> simp [h]
  rw [this _ (Nat.le_refl _), List.take_length]

section
variable (m : MapD) (xs : List Ctl) (c0 : Nat) (sc : List Int → Int)
/-- the best tour that begins with one -/
noncomputable def bestT : Nat → List Int → List Int × Int
  | 0, cs => (cs, sc cs)
  | f + 1, cs => (xs.filter (frB m c0 cs)).foldl (fun b c => upd b (bestT f (cs ++ [c.code]))) (cs, sc cs)
/-- a running best, through all tours that begin with one -/
noncomputable def visT : Nat → List Int → List Int × Int → List Int × Int
  | 0, cs, bm => upd bm (cs, sc cs)
  | f + 1, cs, bm => (xs.filter (frB m c0 cs)).foldl (fun b c => visT f (cs ++ [c.code]) b) (upd bm (cs, sc cs))
end
theorem fold_upd (g : Ctl → List Int × Int) : ∀ (l : List Ctl) (bm s : List Int × Int), l.foldl (fun b c => upd b (g c)) (upd bm s) = upd bm (l.foldl (fun b c => upd b (g c)) s) := by
  intro l
  induction l with
  | nil => intro bm s; rfl
  | cons c l ih =>
    intro bm s
    rw [List.foldl_cons, List.foldl_cons, upd_assoc, ih]
theorem vis_best (m : MapD) (xs : List Ctl) (c0 : Nat) (sc : List Int → Int) : ∀ (f : Nat) (cs : List Int) (bm : List Int × Int), visT m xs c0 sc f cs bm = upd bm (bestT m xs c0 sc f cs) := by
  intro f
  induction f with
  | zero => intro cs bm; rfl
  | succ f ih =>
    intro cs bm
    rw [visT, bestT, ← fold_upd]
    congr 1
    funext b c
    exact ih _ _


theorem cmp_Or3 {a b c : Int} {B : Nat} {w : World} (h0 : w.cell? ⟨B, 0, none⟩ = some (.int .i64 a)) (h1 : w.cell? ⟨B, 1, none⟩ = some (.int .i64 b)) (h2 : w.cell? ⟨B, 2, none⟩ = some (.int .i64 c)) :
    Calls Try.prog 68 #[.slice (some ⟨B, 0, none⟩) 3 3] w fun e w' => e = .returned (.int .i64 (orI a (orI b c))) ∧ Ext w w' := by
  have hbl := World.block_lt_of_cell? _ _ h0
  by_cases ha : a = 0
  all_goals by_cases hb : b = 0
  all_goals by_cases hc : c = 0
  all_goals
    go_enter Try.func68, Try.ntmps68
    go_wp2
    go_loopw [8] (fun i wr => Ext w wr ∧ (i = .int .i64 0 ∨ (a = 0 ∧ i = .int .i64 1) ∨ (a = 0 ∧ b = 0 ∧ i = .int .i64 2) ∨ (a = 0 ∧ b = 0 ∧ c = 0 ∧ i = .int .i64 3))) (fun i _ => 3 - (intOf i).toNat)
    case atStart => exact ⟨Ext.refl _, .inl rfl⟩
    case round =>
      obtain ⟨hx, hh⟩ := hrel
      have g0 := hx.cells h0
      have g1 := hx.cells h1
      have g2 := hx.cells h2
      have hlw := Nat.lt_of_lt_of_le hbl hx.size
      rcases hh with rfl | ⟨e1, rfl⟩ | ⟨e1, e2, rfl⟩ | ⟨e1, e2, e3, rfl⟩
      all_goals go_wp2
      all_goals first
        | (go_ret; exact ⟨ret_i (by first | (simp [orI, *]; done) | simp_all [orI]), (by repeat (first | (with_reducible exact Ext.refl _) | (with_reducible assumption) | with_reducible refine Ext.drew ?_ | with_reducible refine Ext.alloc ?_ _ | with_reducible refine Ext.setCell ?_ (by first | (simp; done) | (simp; omega) | omega) _ | with_reducible refine Ext.trans ?_ (by with_reducible assumption)))⟩)
        | (exfalso; simp_all; done)
        | (go_roundw
           case rel => exact ⟨(by repeat (first | (with_reducible exact Ext.refl _) | (with_reducible assumption) | with_reducible refine Ext.drew ?_ | with_reducible refine Ext.alloc ?_ _ | with_reducible refine Ext.setCell ?_ (by first | (simp; done) | (simp; omega) | omega) _ | with_reducible refine Ext.trans ?_ (by with_reducible assumption))), by first | exact .inr (.inl ⟨ha, by go_num⟩) | exact .inr (.inr (.inl ⟨ha, hb, by go_num⟩)) | exact .inr (.inr (.inr ⟨ha, hb, hc, by go_num⟩))⟩
           case measure => simp [intOf])

theorem cmpLI_lt {xs ys : List Int} {k : Nat} (h1 : k < xs.length) (h2 : k < ys.length) (h : ∀ j, j < k → nth xs j = nth ys j) (hn : nth xs k ≠ nth ys k) : decide (cmpLI xs ys < 0) = decide (nth xs k < nth ys k) := by
  have hz : ∀ j, j < k → cmpI (nth xs j) (nth ys j) = 0 := fun j hj => by
    rcases cmpI_cases (nth xs j) (nth ys j) with ⟨q, e⟩ | ⟨q, e⟩ | ⟨q, e⟩
    · rw [h j hj] at q; omega
    · exact e
    · rw [h j hj] at q; omega
  rcases cmpI_cases (nth xs k) (nth ys k) with ⟨q, e⟩ | ⟨q, e⟩ | ⟨q, e⟩
  · rw [cmpLI_at h1 h2 hz (by rw [e]; decide), e, decide_eq_true q]; rfl
  · exact absurd q hn
  · rw [cmpLI_at h1 h2 hz (by rw [e]; decide), e, decide_eq_false (by omega : ¬ nth xs k < nth ys k)]; rfl

set_option maxHeartbeats 1000000 in
theorem spec_l17Better {ao bo : Option Addr} {ac bc : Nat} {xs ys : List Int} {x y : Int} {w : World} (h : RowAt w ao 1 xs.length (ic xs)) (h' : RowAt w bo 1 ys.length (ic ys)) (hn : xs.length ≤ 9223372036854775807) (hn' : ys.length ≤ 9223372036854775807) :
    Calls Try.prog 112 #[.slice ao xs.length ac, .int .i64 x, .slice bo ys.length bc, .int .i64 y] w fun e w' => e = .returned (.bool (befB (xs, x) (ys, y))) ∧ Ext w w' := by
  have hB : befB (xs, x) (ys, y) = (decide (y < x) || (decide (x = y) && (decide (xs.length < ys.length) || (decide (xs.length = ys.length) && decide (cmpLI xs ys < 0))))) := rfl
  by_cases hxy : x = y
  · subst hxy
    by_cases hl : xs.length = ys.length
    · have HB : Hid (befB (xs, x) (ys, x) = decide (cmpLI xs ys < 0)) := Lib.hid (by rw [hB]; simp [hl])
      have hli : (xs.length : Int) = (ys.length : Int) := by omega
      have hlb : ((xs.length : Int) != (ys.length : Int)) = false := by simp [hli]
      have HL := Lib.hid hl
      have HLI := Lib.hid hli
      clear hB hl hli
      go_enter Try.func112, Try.ntmps112
      go_wp2
      go_loopw [9] (fun i wr => ∃ k : Nat, k ≤ xs.length ∧ i = .int .i64 k ∧ Ext w wr ∧ ∀ j, j < k → nth xs j = nth ys j) (fun i _ => xs.length - (intOf i).toNat)
      case atStart => exact ⟨0, Nat.zero_le _, rfl, Ext.refl _, fun j hj => by omega⟩
      case round =>
        obtain ⟨k, hk, rfl, hx, hb⟩ := hrel
        have HP := Lib.hid hb; have HX := Lib.hid hx
        clear hb hx
        by_cases hlt : k < xs.length
        · have hlt2 : k < ys.length := by have := HL.out; omega
          obtain ⟨b, off, rfl, hcell⟩ := ints_at' (h.ext HX.out) (by omega)
          obtain ⟨b', off', rfl, hcell'⟩ := ints_at' (h'.ext HX.out) (by omega)
          have d0 := hcell k hlt
          have d1 := hcell' k hlt2
          have hk0 : (0 : Int) ≤ (k : Int) := by omega
          have hk1 : (k : Int) < (xs.length : Int) := by omega
          have hk2 : (k : Int) < (ys.length : Int) := by omega
          have e0 := Grow.cells d0
          have e1 := Grow.cells d1
          clear hcell hcell'
          by_cases hc : nth xs k = nth ys k
          · have HC := Lib.hid hc
            have hcb : (nth xs k != nth ys k) = false := by simp [hc]
            clear hc
            go_wp2
            refine wp_region_ext (by kernel_rfl) (by kernel_rfl) ?_
            repeat (go_big_quiet_step (fail))
            refine wpQuiet_nil ?_
            rintro _ ⟨⟨w1, hx1⟩, rfl⟩
            clear e0 e1
            have HX1 := Lib.hid (HX.out.trans hx1)
            clear hx1 d0 d1
            go_wp2
            go_roundw
            case rel => exact ⟨k + 1, by omega, by go_num, HX1.out, fun j hj => by by_cases e : j = k; (subst e; exact HC.out); exact HP.out j (by omega)⟩
            case measure => simp [intOf] <;> omega
          · have HF := Lib.hid (cmpLI_lt hlt hlt2 HP.out hc)
            have hcb : (nth xs k != nth ys k) = true := by simpa using hc
            clear hc
            go_wp2
            refine wp_region_ext (by kernel_rfl) (by kernel_rfl) ?_
            repeat (go_big_quiet_step (fail))
            refine wpQuiet_nil ?_
            rintro _ ⟨⟨w1, hx1⟩, rfl⟩
            clear e0 e1
            have e0 := Grow.cells (hx1.cells d0)
            have e1 := Grow.cells (hx1.cells d1)
            have HX1 := Lib.hid (HX.out.trans hx1)
            clear hx1 d0 d1
            go_wp2
            refine wp_region_ext (by kernel_rfl) (by kernel_rfl) ?_
            repeat (go_big_quiet_step (fail))
            refine wpQuiet_nil ?_
            rintro _ ⟨⟨w1, hx1⟩, rfl⟩
            clear e0 e1
            have HX2 := Lib.hid (HX1.out.trans hx1)
            clear hx1
            go_wp2
            go_ret
            exact ⟨ret_b (by rw [HB.out, HF.out]), HX2.out⟩
        · obtain rfl : k = xs.length := by omega
          have HF := Lib.hid (show decide (cmpLI xs ys < 0) = false from by
            have e : xs = ys := nth_ext HL.out HP.out
            rw [e, cmpLI_refl]; rfl)
          have hkn : ¬ (xs.length : Int) < (xs.length : Int) := by omega
          go_wp2
          go_ret
          exact ⟨ret_b (by rw [HB.out, HF.out]), HX.out⟩
    · have HB : Hid (befB (xs, x) (ys, x) = decide (xs.length < ys.length)) := Lib.hid (by rw [hB]; simp [hl])
      have hlb : ((xs.length : Int) != (ys.length : Int)) = true := by simp; omega
      have hlb2 : (xs.length != ys.length) = true := by simpa using hl
      have hlb3 : (xs.length == ys.length) = false := by simpa using hl
      have hlne : ¬ (xs.length : Int) = (ys.length : Int) := by omega
      by_cases hlt : xs.length < ys.length
      all_goals
        have hlti : decide ((xs.length : Int) < (ys.length : Int)) = decide (xs.length < ys.length) := by simp
        clear hB h h'
        go_enter Try.func112, Try.ntmps112
        go_wp2
        go_ret
        exact ⟨ret_b (by rw [HB.out]; simp; omega), (by repeat (first | (with_reducible exact Ext.refl _) | (with_reducible assumption) | with_reducible refine Ext.drew ?_ | with_reducible refine Ext.alloc ?_ _ | with_reducible refine Ext.setCell ?_ (by first | (simp; done) | (simp; omega) | omega) _ | with_reducible refine Ext.trans ?_ (by with_reducible assumption)))⟩
  · have HB : Hid (befB (xs, x) (ys, y) = decide (y < x)) := Lib.hid (by rw [hB]; simp [hxy])
    have hxb : (x != y) = true := by simpa using hxy
    clear hB h h'
    go_enter Try.func112, Try.ntmps112
    go_wp2
    go_ret
    exact ⟨ret_b (by rw [HB.out]), (by repeat (first | (with_reducible exact Ext.refl _) | (with_reducible assumption) | with_reducible refine Ext.drew ?_ | with_reducible refine Ext.alloc ?_ _ | with_reducible refine Ext.setCell ?_ (by first | (simp; done) | (simp; omega) | omega) _ | with_reducible refine Ext.trans ?_ (by with_reducible assumption)))⟩


theorem GInv.base {m : MapD} {xs : List Ctl} {c0 here : Nat} {cs : List Int} (h : GInv m xs c0 cs here) (h0 : c0 < m.cost.length) : GInv m xs c0 cs c0 := ⟨h0, .refl _, h.codes, h.way, h.once⟩
theorem left_fewer {m : MapD} {xs : List Ctl} (h : ctlsB m xs = true) {c0 k : Nat} {cs : List Int} (hk : k < xs.length) (hf : frB m c0 cs (nth xs k) = true) : (leftL m xs c0 (cs ++ [(nth xs k).code])).length < (leftL m xs c0 cs).length := by
  rw [← left_step h hk]
  unfold keptL
  refine List.length_filter_lt_length_iff_exists.2 ⟨nth xs k, List.mem_filter.2 ⟨nth_in hk, hf⟩, ?_⟩
  simp
theorem goU_stop {α : Type} (P : Ctl → Bool) (g : α → Ctl → α) (l : List Ctl) (s : α) (h : (l.filter P).length = 0) : goU P g l s l.length = s := by
  rw [goU_end, List.length_eq_zero_iff.1 h]; rfl
/-- the best tour, control by control -/
theorem best_step (m : MapD) (xs : List Ctl) (c0 : Nat) (sc : List Int → Int) (f : Nat) (cs : List Int) : bestT m xs c0 sc (f + 1) cs = goU (frB m c0 cs) (fun b c => upd b (bestT m xs c0 sc f (cs ++ [c.code]))) xs (cs, sc cs) xs.length := by
  rw [goU_end]; rfl
theorem best_goU {m : MapD} {xs : List Ctl} {c0 : Nat} {sc : List Int → Int} {f : Nat} {cs : List Int} (h : (leftL m xs c0 cs).length ≤ f) : bestT m xs c0 sc f cs = goU (frB m c0 cs) (fun b c => upd b (bestT m xs c0 sc (f - 1) (cs ++ [c.code]))) xs (cs, sc cs) xs.length := by
  cases f with
  | zero =>
    have h0 : (xs.filter (frB m c0 cs)).length = 0 := by
      have : (leftL m xs c0 cs).length = 0 := by omega
      exact this
    rw [goU_stop _ _ _ _ h0]; rfl
  | succ f => exact best_step m xs c0 sc f cs


theorem timL_here {m : MapD} (hm : mapB m = true) {b : Nat} (hb : b < m.cost.length) : nth (timL m b) b = 0 := by
  obtain ⟨r, _, e, _⟩ := timL_fix hm hb
  rw [e]
  refine (iter_keep (m := m) (b := b) (I := fun o => OkT m o ∧ nth o b = 0) ⟨init_ok hb, ?_⟩ (fun q i k hi hk _ _ _ hq => ⟨relK_ok hm hq.1 hi hk, ?_⟩) r).2
  · unfold initT; rw [nth_set (by simpa using hb), if_pos rfl]
  · unfold relK
    split
    · rename_i hc
      have hl := hq.1.len
      show nth (q.1.set i _) b = 0
      rw [nth_set (by omega)]
      split
      · rename_i e
        subst e
        have h5 := (hq.1.bd k (by omega)).1
        have h6 := stI_bd hm hi hk
        have h7 := hq.2
        omega
      · exact hq.2
    · exact hq.2

/-- tours that can be made from one -/
inductive Steps (m : MapD) (xs : List Ctl) (c0 : Nat) : List Int → List Int → Prop
  | refl (cs : List Int) : Steps m xs c0 cs cs
  | step {cs cs' : List Int} {k : Nat} : k < xs.length → frB m c0 cs (nth xs k) = true → Steps m xs c0 (cs ++ [(nth xs k).code]) cs' → Steps m xs c0 cs cs'

theorem upd_ge (a b : List Int × Int) : a.2 ≤ (upd a b).2 ∧ b.2 ≤ (upd a b).2 := by
  unfold upd
  cases h : befB b a
  · have h : ¬ (befB b a = true) := by rw [h]; decide
    rw [befB_iff] at h
    simp only [Bool.false_eq_true, if_false]
    omega
  · rw [befB_iff] at h
    simp only [if_true]
    omega
theorem fold_ge (g : Ctl → List Int × Int) : ∀ (l : List Ctl) (s : List Int × Int), s.2 ≤ (l.foldl (fun b c => upd b (g c)) s).2 ∧ ∀ c, c ∈ l → (g c).2 ≤ (l.foldl (fun b c => upd b (g c)) s).2 := by
  intro l
  induction l with
  | nil => intro s; exact ⟨Int.le_refl _, fun c hc => by cases hc⟩
  | cons x l ih =>
    intro s
    have h1 := ih (upd s (g x))
    have h2 := upd_ge s (g x)
    rw [List.foldl_cons]
    refine ⟨by omega, fun c hc => ?_⟩
    rcases List.mem_cons.1 hc with rfl | hc
    · omega
    · exact h1.2 c hc
theorem best_all {m : MapD} {xs : List Ctl} (h : ctlsB m xs = true) {c0 : Nat} (sc : List Int → Int) {cs cs' : List Int} (hs : Steps m xs c0 cs cs') : ∀ f, (leftL m xs c0 cs).length ≤ f → sc cs' ≤ (bestT m xs c0 sc f cs).2 := by
  induction hs with
  | refl cs =>
    intro f _
    cases f with
    | zero => exact Int.le_refl _
    | succ f => exact (fold_ge _ _ _).1
  | step hk hf _ ih =>
    intro f hl
    have h1 := left_fewer h hk hf
    cases f with
    | zero => omega
    | succ f =>
      refine Int.le_trans (ih f (by omega)) ?_
      exact (fold_ge (fun c => bestT m xs c0 sc f (_ ++ [c.code])) _ _).2 _ (List.mem_filter.2 ⟨nth_in hk, hf⟩)
theorem best_inv {m : MapD} {xs : List Ctl} (h : ctlsB m xs = true) {c0 : Nat} (h0 : c0 < m.cost.length) (sc : List Int → Int) : ∀ (f : Nat) (cs : List Int), GInv m xs c0 cs c0 → GInv m xs c0 (bestT m xs c0 sc f cs).1 c0 ∧ (bestT m xs c0 sc f cs).1.length ≤ cs.length + f ∧ (bestT m xs c0 sc f cs).2 = sc (bestT m xs c0 sc f cs).1 := by
  intro f
  induction f with
  | zero => intro cs hi; exact ⟨hi, Nat.le_refl _, rfl⟩
  | succ f ih =>
    intro cs hi
    refine foldl_keep (I := fun p : List Int × Int => GInv m xs c0 p.1 c0 ∧ p.1.length ≤ cs.length + (f + 1) ∧ p.2 = sc p.1) (fun p c hc hp => ?_) ⟨hi, by simp, rfl⟩
    have hc := List.mem_filter.1 hc
    obtain ⟨k, hk, rfl⟩ := in_nth hc.1
    have h1 := ih _ ((hi.step h hk hc.2).base h0)
    unfold upd
    split
    · refine ⟨h1.1, ?_, h1.2.2⟩
      have := h1.2.1
      rw [List.length_append, List.length_singleton] at this
      omega
    · exact hp
theorem fr_here {m : MapD} {xs : List Ctl} {c0 here : Nat} {cs : List Int} (h : GInv m xs c0 cs here) (hc : ctlsB m xs = true) (h0 : c0 < m.cost.length) {k : Nat} (hk : k < xs.length) (hf : frB m here cs (nth xs k) = true) : frB m c0 cs (nth xs k) = true := by
  unfold frB at hf ⊢
  rw [← decide_eq_decide.2 (dist_here hc h0 h.lt h.conn (nth_in hk))]
  exact hf
theorem gr_steps {m : MapD} {xs : List Ctl} (hc : ctlsB m xs = true) {c0 : Nat} (h0 : c0 < m.cost.length) (lim : Int) : ∀ (f : Nat) (cs : List Int) (here : Nat), GInv m xs c0 cs here → wayT m c0 (tourW xs c0 cs) ≤ lim →
    Steps m xs c0 cs (grL m xs lim c0 f cs here) ∧ (∃ h2, GInv m xs c0 (grL m xs lim c0 f cs here) h2) ∧ (grL m xs lim c0 f cs here).length ≤ cs.length + f ∧ wayT m c0 (tourW xs c0 (grL m xs lim c0 f cs here)) ≤ lim := by
  intro f
  induction f with
  | zero => intro cs here hi hw; exact ⟨.refl _, ⟨_, hi⟩, Nat.le_refl _, hw⟩
  | succ f ih =>
    intro cs here hi hw
    rcases hi.pick hc h0 with ⟨hl0, _⟩ | ⟨_, k, hk, hf, hpk, _⟩
    · rw [gr_empty hi hc h0 hl0]
      exact ⟨.refl _, ⟨_, hi⟩, by omega, hw⟩
    · rw [gr_next hpk]
      split
      · exact ⟨.refl _, ⟨_, hi⟩, by omega, hw⟩
      · have h1 := ih _ _ (hi.step hc hk hf) (by omega)
        refine ⟨.step hk (fr_here hi hc h0 hk hf) h1.1, h1.2.1, ?_, h1.2.2.2⟩
        have := h1.2.2.1
        rw [List.length_append, List.length_singleton] at this
        omega
theorem way_none {m : MapD} {xs : List Ctl} (hm : mapB m = true) {c0 : Nat} (h0 : c0 < m.cost.length) : wayT m c0 (tourW xs c0 []) = 0 := by
  show nth (timL m c0) c0 + 0 = 0
  rw [timL_here hm h0]; rfl
theorem score_none {m : MapD} {xs : List Ctl} {r : RuleD} (hr : ruleB m xs r = true) : scoreI xs r [] 0 = 0 := by
  have h1 : ∀ k, pickU xs r [] k = 0 := fun k => by
    induction k with
    | zero => rfl
    | succ k ih => rw [pickU, ih]; rfl
  have h2 := (rule_len hr).2.2.1
  rw [inB_iff] at h2
  unfold scoreI lateI
  rw [h1, if_neg (by omega)]
  simp
theorem ginv_go {m : MapD} {xs : List Ctl} {c0 here : Nat} {cs : List Int} (h : GInv m xs c0 cs here) (hc : ctlsB m xs = true) (h0 : c0 < m.cost.length) (hb : openB m (c0 : Int) = true) (hl : cs.length ≤ 8) : goB m xs (c0 : Int) cs = true := by
  unfold goB tourB
  rw [hc, hb, decide_eq_true hl, h.once, h.codes, Int.toNat_natCast, h.fin hc h0]
  rfl
theorem time_way {m : MapD} {xs : List Ctl} {c0 : Nat} {cs : List Int} : timeI m xs (c0 : Int) cs = wayT m c0 (tourW xs c0 cs) := by
  unfold timeI
  rw [Int.toNat_natCast]


/-- the score of a tour -/
noncomputable def scT (m : MapD) (xs : List Ctl) (r : RuleD) (c0 : Nat) (cs : List Int) : Int := scoreI xs r cs (wayT m c0 (tourW xs c0 cs))
theorem way_bd {m : MapD} {xs : List Ctl} {c0 here : Nat} {cs : List Int} (h : GInv m xs c0 cs here) (hc : ctlsB m xs = true) (h0 : c0 < m.cost.length) (hl : cs.length ≤ 10) : 0 ≤ wayT m c0 (tourW xs c0 cs) ∧ wayT m c0 (tourW xs c0 cs) ≤ 17179869184 := by
  have hall : ∀ b, b ∈ tourW xs c0 cs → b < m.cost.length := fun b hb => by
    unfold tourW at hb
    rw [List.mem_append, List.mem_singleton] at hb
    rcases hb with hb | rfl
    · exact tour_lt hc h.codes hb
    · exact h0
  have h1 := wayT_bd (ctls_map hc).1 _ c0 h0 hall
  have h3 : (tourW xs c0 cs).length ≤ 11 := by rw [tourW_len]; omega
  have h4 : NT = 1073741824 := rfl
  rw [h4] at h1
  exact ⟨h1.1, by have := h1.2.1; omega⟩
/-- what is handed back: a tour in memory from B0 on, its score -/
def ResB (B0 : Nat) (w : World) (p : List Int × Int) (e : Ending) (w' : World) : Prop := ∃ g gc, e = .returned (.tuple #[.slice (some g) p.1.length gc, .int .i64 p.2]) ∧ Ext w w' ∧ FreshAt B0 w' (some g) 1 p.1.length (ic p.1)

set_option maxRecDepth 100000 in
set_option maxHeartbeats 4000000 in
theorem best_head {m : MapD} {ao bo : Option Addr} {ac bc : Nat} {xs : List Ctl} {co : Option Addr} {cap : Nat} {r : RuleD} {po : Option Addr} {pc c0 : Nat} (hc : ctlsB m xs = true) (hru : ruleB m xs r = true) (h0 : c0 < m.cost.length) {cs : List Int} {q : Addr} {qc : Nat} {w : World} (h : Site w m ao bo xs co cap) (hp : RowAt w po 1 r.pts.length (ic r.pts)) (hi : GInv m xs c0 cs c0) (hq : RowAt w (some q) 1 cs.length (ic cs)) (hl : cs.length ≤ 10) :
    (Calls Try.prog 53 #[m.val ao ac bo bc, .slice co xs.length cap, .int .i64 (c0 : Nat), .slice (some q) cs.length qc] w fun e w' => e = .returned (.int .i64 (wayT m c0 (tourW xs c0 cs))) ∧ Ext w w') ∧
    (Calls Try.prog 59 #[.slice co xs.length cap, r.val po pc, .slice (some q) cs.length qc, .int .i64 (wayT m c0 (tourW xs c0 cs))] w fun e w' => e = .returned (.int .i64 (scT m xs r c0 cs)) ∧ Ext w w') := by
  have hrl := rule_len hru
  have hbd := way_bd hi hc h0 hl
  have e : tmI m xs c0 cs = wayT m c0 (tourW xs c0 cs) := if_pos (hi.fin hc h0)
  refine ⟨?_, spec_l17Score (cap := cap) (pc := pc) (ac := qc) h.ctls hrl.2.1 hp hrl.1 hrl.2.2.1 hrl.2.2.2.1 hrl.2.2.2.2 hq (by omega) hbd.1 hbd.2⟩
  have := spec_l17Time (ac := ac) (bc := bc) (cap := cap) (qc := qc) h hc hq (by omega) hi.codes h0
  rwa [e] at this


set_option maxRecDepth 100000 in
set_option maxHeartbeats 4000000 in
theorem spec_l17Best_at {m : MapD} {ao bo : Option Addr} {ac bc : Nat} {xs : List Ctl} {co : Option Addr} {cap : Nat} {r : RuleD} {po : Option Addr} {pc c0 : Nat} (hc : ctlsB m xs = true) (hru : ruleB m xs r = true) (h0 : c0 < m.cost.length) {f : Nat} {cs : List Int} {q : Addr} {qc B0 : Nat} {w : World} (h : Site w m ao bo xs co cap) (hp : RowAt w po 1 r.pts.length (ic r.pts)) (hi : GInv m xs c0 cs c0) (hq : FreshAt B0 w (some q) 1 cs.length (ic cs)) (hb : B0 ≤ w.heap.size) (hf : (leftL m xs c0 cs).length ≤ f) (hl : cs.length + f ≤ 10)
    (IH : ∀ k, k < xs.length → frB m c0 cs (nth xs k) = true → ∀ (y : World) (g : Addr) (gc : Nat), Ext w y → FreshAt B0 y (some g) 1 (cs ++ [(nth xs k).code]).length (ic (cs ++ [(nth xs k).code])) → Calls Try.prog 74 #[m.val ao ac bo bc, .slice co xs.length cap, r.val po pc, .int .i64 (c0 : Nat), .slice (some g) (cs ++ [(nth xs k).code]).length gc] y (ResB B0 y (bestT m xs c0 (scT m xs r c0) (f - 1) (cs ++ [(nth xs k).code])))) :
    Calls Try.prog 74 #[m.val ao ac bo bc, .slice co xs.length cap, r.val po pc, .int .i64 (c0 : Nat), .slice (some q) cs.length qc] w (ResB B0 w (bestT m xs c0 (scT m xs r c0) f cs)) := by
  have hm := (ctls_map hc).1
  have h10 := (ctls_map hc).2
  have hx0 : Ext w ((w.alloc (.cells #[.int .i64 m.wid, .int .i64 m.hei, .slice ao m.rise.length ac, .slice bo m.cost.length bc] 30)).alloc (.cells #[.slice po r.pts.length pc, .int .i64 r.lim, .int .i64 r.pen] 43)) := ((Ext.refl w).alloc _).alloc _
  have hbm : BoxM ((w.alloc (.cells #[.int .i64 m.wid, .int .i64 m.hei, .slice ao m.rise.length ac, .slice bo m.cost.length bc] 30)).alloc (.cells #[.slice po r.pts.length pc, .int .i64 r.lim, .int .i64 r.pen] 43)) w.heap.size m ao ac bo bc := ⟨by go_simp, by go_simp, by go_simp, by go_simp⟩
  have r0 : ((w.alloc (.cells #[.int .i64 m.wid, .int .i64 m.hei, .slice ao m.rise.length ac, .slice bo m.cost.length bc] 30)).alloc (.cells #[.slice po r.pts.length pc, .int .i64 r.lim, .int .i64 r.pen] 43)).cell? ⟨w.heap.size + 1, 0, none⟩ = some (.slice po r.pts.length pc) := by go_simp
  have r1 : ((w.alloc (.cells #[.int .i64 m.wid, .int .i64 m.hei, .slice ao m.rise.length ac, .slice bo m.cost.length bc] 30)).alloc (.cells #[.slice po r.pts.length pc, .int .i64 r.lim, .int .i64 r.pen] 43)).cell? ⟨w.heap.size + 1, 1, none⟩ = some (.int .i64 r.lim) := by go_simp
  have r2 : ((w.alloc (.cells #[.int .i64 m.wid, .int .i64 m.hei, .slice ao m.rise.length ac, .slice bo m.cost.length bc] 30)).alloc (.cells #[.slice po r.pts.length pc, .int .i64 r.lim, .int .i64 r.pen] 43)).cell? ⟨w.heap.size + 1, 2, none⟩ = some (.int .i64 r.pen) := by go_simp
  have HHD := Lib.hid (fun y (hx : Ext w y) => best_head (ac := ac) (bc := bc) (cap := cap) (pc := pc) (qc := qc) hc hru h0 (h.ext hx) (hp.ext hx) hi (hq.row.ext hx) (by omega))
  have HBG := Lib.hid (best_goU (sc := scT m xs r c0) hf)
  have HIH := Lib.hid IH
  have HSITE := Lib.hid h; have HINV := Lib.hid hi; have HFQ := Lib.hid hq
  unfold MapD.val RuleD.val at HHD HIH ⊢
  clear h hp hi hq IH hf
  go_enter Try.func74, Try.ntmps74
  go_wp2
  generalize hW : ((w.alloc (.cells #[.int .i64 m.wid, .int .i64 m.hei, .slice ao m.rise.length ac, .slice bo m.cost.length bc] 30)).alloc (.cells #[.slice po r.pts.length pc, .int .i64 r.lim, .int .i64 r.pen] 43)) = W at *
  clear hW
  have HX := Lib.hid hx0
  have HR := Lib.hid (show _ ∧ _ ∧ _ from ⟨r0, r1, r2⟩)
  have HBM := Lib.hid hbm
  obtain ⟨d0, d1, d2, d3⟩ := hbm
  have k0 := Grow.cells d0
  have k1 := Grow.cells d1
  have k2 := Grow.cells d2
  have k3 := Grow.cells d3
  have k4 := Grow.cells r0
  have k5 := Grow.cells r1
  have k6 := Grow.cells r2
  have HT1 := Lib.hid (fun y (hy : Ext W y) => (HHD.out y (HX.out.trans hy)).1)
  have HT2 := Lib.hid (fun y (hy : Ext W y) => (HHD.out y (HX.out.trans hy)).2)
  refine wp_region_ext (by kernel_rfl) (by kernel_rfl) ?_
  repeat (go_big_quiet_step ((first | (go_at_call 53; with_reducible exact Calls.ext_of (HT1.out _ (Grow.h _))) | (go_at_call 59; with_reducible exact Calls.ext_of (HT2.out _ (Grow.h _))))))
  refine wpQuiet_nil ?_
  rintro _ ⟨⟨w1, hx1⟩, rfl⟩
  clear k0 k1 k2 k3 k4 k5 k6
  have HX1 := Lib.hid hx1
  have HFS := Lib.hid (HFQ.out.ext (HX.out.trans hx1))
  clear hx1 d0 d1 d2 d3 r0 r1 r2 HT1 HT2 HHD hx0
  go_wp2
  obtain ⟨G, hG⟩ : ∃ G : Nat → List Int × Int, G = goU (frB m c0 cs) (fun b c => upd b (bestT m xs c0 (scT m xs r c0) (f - 1) (cs ++ [c.code]))) xs (cs, scT m xs r c0 cs) := ⟨_, rfl⟩
  rw [← hG] at HBG
  have HG0 : Hid (G 0 = (cs, scT m xs r c0 cs)) := Lib.hid (by rw [hG]; rfl)
  have HGS : Hid (∀ k, G (k + 1) = if frB m c0 cs (nth xs k) then upd (G k) (bestT m xs c0 (scT m xs r c0) (f - 1) (cs ++ [(nth xs k).code])) else G k) := Lib.hid (by rw [hG]; intro k; rfl)
  clear hG
  go_loopw [12, 13, 14] (fun b s i wr => ∃ (k : Nat) (g : Addr) (gc : Nat), k ≤ xs.length ∧ i = .int .i64 k ∧ b = .slice (some g) (G k).1.length gc ∧ s = .int .i64 (G k).2 ∧ Ext W wr ∧ FreshAt B0 wr (some g) 1 (G k).1.length (ic (G k).1) ∧ (G k).1.length ≤ 20) (fun _ _ i _ => xs.length - (intOf i).toNat)
  case atStart => exact ⟨0, q, qc, Nat.zero_le _, rfl, by rw [HG0.out], by rw [HG0.out], HX1.out, by rw [HG0.out]; exact HFS.out, by rw [HG0.out]; show cs.length ≤ 20; omega⟩
  case round =>
    obtain ⟨k, g, gc, hk, rfl, rfl, rfl, hx, hF, hgl⟩ := hrel
    have HGL := Lib.hid hgl; clear hgl
    have HXR := Lib.hid hx; have HF := Lib.hid hF
    clear hx hF
    by_cases hlt : k < xs.length
    · have hXk := cellN_lt hc hlt
      have HXW := Lib.hid (HX.out.trans HXR.out)
      obtain ⟨lb, loff, rfl, hcell⟩ := HSITE.out.ctls (by omega)
      have q0 := HXW.out.cells (hcell k hlt 0 (by decide))
      have q1 := HXW.out.cells (hcell k hlt 1 (by decide))
      simp only [Ctl.c0, Ctl.c1, Nat.add_zero] at q0 q1
      rw [hXk.1] at q1
      have HTQ := Lib.hid (fun y (hy : Ext wr y) => spec_l4To (w := y) (ac := ac) (bc := bc) (b := cellN (nth xs k)) (HSITE.out.rise.ext (HXW.out.trans hy)) (HSITE.out.cost.ext (HXW.out.trans hy)) hm hXk.2)
      have HGET := Lib.hid (fun (y : World) (B : Nat) (hr : RowAt y (some ⟨B, 0, none⟩) 1 m.cost.length (ic (encL (timL m (cellN (nth xs k)))))) => show y.cell? ⟨B, c0, none⟩ = some (.int .i64 (enc1 (dist m c0 (nth xs k)))) from by
        obtain ⟨b', off', e, H⟩ := hr (by omega)
        injection e with e; injection e with e1 e2; subst e1 e2
        have h1 := H c0 h0 0 (by decide)
        rw [show 0 + c0 * 1 + 0 = c0 by omega] at h1
        rw [h1, ic, encL_nth (by rw [(timL_ok hm hXk.2).len]; exact h0)]; rfl)
      have HHAS := Lib.hid (fun y (hy : Ext wr y) => spec_l1Has (w := y) (cap := qc) (n := cs.length) (v := (nth xs k).code) (HFQ.out.row.ext (HXW.out.trans hy)) (by omega))
      unfold MapD.val at HTQ
      have hD0 := (dist_bd hc h0 (nth_in hlt)).1
      obtain ⟨p0, p1, p2, p3⟩ := HBM.out.ext HXR.out
      have pl0 := World.block_lt_of_cell? _ _ p0
      have hk0 : (0 : Int) ≤ (k : Int) := by omega
      have hk1 : (k : Int) < (xs.length : Int) := by omega
      have hh0 : (0 : Int) ≤ (c0 : Int) := by omega
      have hh1 : (c0 : Int) < (m.cost.length : Int) := by omega
      have HFR := Lib.hid (frB_eq m c0 cs (nth xs k))
      clear hcell
      go_upto_region 5 with fail
      go_cut [52] (fun v wc => v = .bool (!frB m c0 cs (nth xs k)) ∧ Ext wr wc)
      case first =>
        generalize hasI cs cs.length (nth xs k).code = Hb at *
        cases Hb
        · by_cases hfin : dist m c0 (nth xs k) < NT
          · rw [enc1_yes hfin] at HGET
            have HFD := Lib.hid (HFR.out.trans (by rw [decide_eq_true hfin, Bool.and_true]))
            have hnn : ¬ dist m c0 (nth xs k) < 0 := by omega
            generalize dist m c0 (nth xs k) = D at *
            generalize (nth xs k).code = cd at *
            generalize cellN (nth xs k) = cq at *
            clear hXk hfin
            go_region_law (first
              | (go_simp; go_at_call 62; (with_reducible refine Calls.mono (HHAS.out _ (by repeat (first | (with_reducible exact Ext.refl _) | (with_reducible assumption) | with_reducible refine Ext.drew ?_ | with_reducible refine Ext.alloc ?_ _ | with_reducible refine Ext.setCell ?_ (by first | (simp; done) | (simp; omega) | omega) _ | with_reducible refine Ext.trans ?_ (by with_reducible assumption)))) ?_); rintro e w3 ⟨rfl, hx3⟩; (have hxx : Ext wr w3 := (by repeat (first | (with_reducible exact Ext.refl _) | (with_reducible assumption) | with_reducible refine Ext.drew ?_ | with_reducible refine Ext.alloc ?_ _ | with_reducible refine Ext.setCell ?_ (by first | (simp; done) | (simp; omega) | omega) _ | with_reducible refine Ext.trans ?_ (by with_reducible assumption))); have q0 := hxx.cells q0; have q1 := hxx.cells q1; have p0 := hxx.cells p0; have p1 := hxx.cells p1; have p2 := hxx.cells p2; have p3 := hxx.cells p3))
              | (go_simp; go_at_call 61; (with_reducible refine Calls.mono (HTQ.out _ (by repeat (first | (with_reducible exact Ext.refl _) | (with_reducible assumption) | with_reducible refine Ext.drew ?_ | with_reducible refine Ext.alloc ?_ _ | with_reducible refine Ext.setCell ?_ (by first | (simp; done) | (simp; omega) | omega) _ | with_reducible refine Ext.trans ?_ (by with_reducible assumption)))) ?_); rintro e w4 ⟨B, gc4, rfl, hx4, hF4⟩; (have d1 := HGET.out _ _ hF4.row; have hxx : Ext wr w4 := hxx.trans hx4; have q0 := hx4.cells q0; have q1 := hx4.cells q1; have p0 := hx4.cells p0; have p1 := hx4.cells p1; have p2 := hx4.cells p2; have p3 := hx4.cells p3)))
            all_goals
              go_wp2_with fail
              go_meet
              exact ⟨by rw [HFD.out]; rfl, (by repeat (first | (with_reducible exact Ext.refl _) | (with_reducible assumption) | with_reducible refine Ext.drew ?_ | with_reducible refine Ext.alloc ?_ _ | with_reducible refine Ext.setCell ?_ (by first | (simp; done) | (simp; omega) | omega) _ | with_reducible refine Ext.trans ?_ (by with_reducible assumption)))⟩
          · rw [enc1_no hfin] at HGET
            have HFD := Lib.hid (HFR.out.trans (by rw [decide_eq_false hfin, Bool.and_false]))
            generalize (nth xs k).code = cd at *
            generalize cellN (nth xs k) = cq at *
            clear hXk hfin
            go_region_law (first
              | (go_simp; go_at_call 62; (with_reducible refine Calls.mono (HHAS.out _ (by repeat (first | (with_reducible exact Ext.refl _) | (with_reducible assumption) | with_reducible refine Ext.drew ?_ | with_reducible refine Ext.alloc ?_ _ | with_reducible refine Ext.setCell ?_ (by first | (simp; done) | (simp; omega) | omega) _ | with_reducible refine Ext.trans ?_ (by with_reducible assumption)))) ?_); rintro e w3 ⟨rfl, hx3⟩; (have hxx : Ext wr w3 := (by repeat (first | (with_reducible exact Ext.refl _) | (with_reducible assumption) | with_reducible refine Ext.drew ?_ | with_reducible refine Ext.alloc ?_ _ | with_reducible refine Ext.setCell ?_ (by first | (simp; done) | (simp; omega) | omega) _ | with_reducible refine Ext.trans ?_ (by with_reducible assumption))); have q0 := hxx.cells q0; have q1 := hxx.cells q1; have p0 := hxx.cells p0; have p1 := hxx.cells p1; have p2 := hxx.cells p2; have p3 := hxx.cells p3))
              | (go_simp; go_at_call 61; (with_reducible refine Calls.mono (HTQ.out _ (by repeat (first | (with_reducible exact Ext.refl _) | (with_reducible assumption) | with_reducible refine Ext.drew ?_ | with_reducible refine Ext.alloc ?_ _ | with_reducible refine Ext.setCell ?_ (by first | (simp; done) | (simp; omega) | omega) _ | with_reducible refine Ext.trans ?_ (by with_reducible assumption)))) ?_); rintro e w4 ⟨B, gc4, rfl, hx4, hF4⟩; (have d1 := HGET.out _ _ hF4.row; have hxx : Ext wr w4 := hxx.trans hx4; have q0 := hx4.cells q0; have q1 := hx4.cells q1; have p0 := hx4.cells p0; have p1 := hx4.cells p1; have p2 := hx4.cells p2; have p3 := hx4.cells p3)))
            all_goals
              go_wp2_with fail
              go_meet
              exact ⟨by rw [HFD.out]; rfl, (by repeat (first | (with_reducible exact Ext.refl _) | (with_reducible assumption) | with_reducible refine Ext.drew ?_ | with_reducible refine Ext.alloc ?_ _ | with_reducible refine Ext.setCell ?_ (by first | (simp; done) | (simp; omega) | omega) _ | with_reducible refine Ext.trans ?_ (by with_reducible assumption)))⟩
        · have HFD := Lib.hid (HFR.out.trans (show (!true && decide (dist m c0 (nth xs k) < NT)) = false from rfl))
          generalize (nth xs k).code = cd at *
          clear hXk HTQ HGET
          have k0 := Grow.cells q0
          refine wp_region_ext (by kernel_rfl) (by kernel_rfl) ?_
          repeat (go_big_quiet_step ((first | (go_at_call 62; with_reducible exact Calls.ext_of (HHAS.out _ (Grow.h _))))))
          refine wpQuiet_nil ?_
          rintro _ ⟨⟨w1, hx1⟩, rfl⟩
          clear k0 q0 q1
          go_wp2_with fail
          go_meet
          exact ⟨by rw [HFD.out]; rfl, hx1⟩
      case rest =>
      obtain ⟨rfl, hx3⟩ := hcut
      have HX3 := Lib.hid hx3
      have HXR3 := Lib.hid (HXR.out.trans hx3)
      have HF3 := Lib.hid (HF.out.ext hx3)
      have q0 := hx3.cells q0
      clear hx3 HTQ HGET HHAS q1 p0 p1 p2 p3 pl0 hh0 hh1 hD0 HFR
      cases hfr : frB m c0 cs (nth xs k)
      · have HG1 : Hid (G (k + 1) = G k) := Lib.hid (by rw [HGS.out, hfr]; rfl)
        clear hfr
        go_wp2_with fail
        go_roundw
        case rel => exact ⟨k + 1, g, gc, by omega, by go_num, by rw [HG1.out], by rw [HG1.out], HXR3.out, by rw [HG1.out]; exact HF3.out, by rw [HG1.out]; exact HGL.out⟩
        case measure => simp [intOf] <;> omega
      · have HIK := Lib.hid (fun y g2 gc2 hy hF2 => HIH.out k hlt hfr y g2 gc2 hy hF2)
        have HG1 := Lib.hid ((HGS.out k).trans (if_pos hfr))
        have HROW := Lib.hid (HFQ.out.row.ext (HXW.out.trans HX3.out))
        have hl10 : cs.length ≤ 1048577 := by omega
        obtain ⟨N, hN⟩ : ∃ N, N = cs ++ [(nth xs k).code] := ⟨_, rfl⟩
        rw [← hN] at HIK HG1
        have HNL := Lib.hid hN; clear hN
        have hPL : (bestT m xs c0 (scT m xs r c0) (f - 1) N).1.length ≤ 20 := by
          have h1 := (best_inv hc h0 (scT m xs r c0) (f - 1) N (by rw [HNL.out]; exact (HINV.out.step hc hlt hfr).base h0)).2.1
          have h2 : N.length = cs.length + 1 := by rw [HNL.out, List.length_append]; rfl
          omega
        obtain ⟨P, hP⟩ : ∃ P, P = bestT m xs c0 (scT m xs r c0) (f - 1) N := ⟨_, rfl⟩
        rw [← hP] at HIK HG1 hPL
        have HPL := Lib.hid hPL
        clear hPL
        generalize (nth xs k).code = cd at *
        clear hP hfr hXk
        have HXW3 := Lib.hid (HXW.out.trans HX3.out)
        have hzb : B0 ≤ wc.heap.size := by have := HXW3.out.size; omega
        obtain ⟨j0, hj, hy0, hy1, hy2⟩ := info_parts infoInt
        have HJ := Lib.hid hj; have HY0 := Lib.hid hy0; have HY1 := Lib.hid hy1; have HY2 := Lib.hid hy2
        clear hj hy0 hy1 hy2
        have HCP := Lib.hid (fun x (hx2 : Ext wc x) => spec_l1Own (w := x) (cap := qc) (HROW.out.ext hx2) hl10)
        rename World => wq
        go_upto_region 6 with fail
        go_cut [15, 16] (fun a b wc => ∃ g9 c9, a = .slice (some g9) P.1.length c9 ∧ b = .int .i64 P.2 ∧ Ext wq wc ∧ FreshAt B0 wc (some g9) 1 P.1.length (ic P.1))
        case first =>
          obtain ⟨p0, p1, p2, p3⟩ := HBM.out.ext HXR3.out
          obtain ⟨r0, r1, r2⟩ := HR.out
          have r0 := HXR3.out.cells r0
          have r1 := HXR3.out.cells r1
          have r2 := HXR3.out.cells r2
          have P0 := Lib.hid p0; have P1 := Lib.hid p1; have P2 := Lib.hid p2; have P3 := Lib.hid p3; have R0 := Lib.hid r0; have R1 := Lib.hid r1; have R2 := Lib.hid r2; have Q0 := Lib.hid q0
          have HIQ := Lib.hid (fun y g2 gc2 (hy : Ext wq y) hF2 => HIK.out y g2 gc2 (HXW3.out.trans hy) hF2)
          have ql0 := World.block_lt_of_cell? _ _ q0
          have pl0 := World.block_lt_of_cell? _ _ p0
          have pl1 := World.block_lt_of_cell? _ _ r0
          simp only at ql0 pl0 pl1
          go_region_held3 (fun z => z.cell? ⟨w.heap.size, 0, none⟩ = some (.int .i64 m.wid) ∧ z.cell? ⟨w.heap.size, 1, none⟩ = some (.int .i64 m.hei) ∧ z.cell? ⟨w.heap.size, 2, none⟩ = some (.slice ao m.rise.length ac) ∧ z.cell? ⟨w.heap.size, 3, none⟩ = some (.slice bo m.cost.length bc) ∧ z.cell? ⟨w.heap.size + 1, 0, none⟩ = some (.slice po r.pts.length pc) ∧ z.cell? ⟨w.heap.size + 1, 1, none⟩ = some (.int .i64 r.lim) ∧ z.cell? ⟨w.heap.size + 1, 2, none⟩ = some (.int .i64 r.pen) ∧ z.cell? ⟨lb, loff + k * 2, none⟩ = some (.int .i64 cd)) (first | exact ⟨p0, p1, p2, p3, r0, r1, r2, q0⟩ | exact ⟨Ext.cells (by repeat (first | (with_reducible exact Ext.refl _) | (with_reducible assumption) | with_reducible refine Ext.drew ?_ | with_reducible refine Ext.alloc ?_ _ | with_reducible refine Ext.setCell ?_ (by first | (simp; done) | (simp; omega) | omega) _ | with_reducible refine Ext.trans ?_ (by with_reducible assumption))) p0, Ext.cells (by repeat (first | (with_reducible exact Ext.refl _) | (with_reducible assumption) | with_reducible refine Ext.drew ?_ | with_reducible refine Ext.alloc ?_ _ | with_reducible refine Ext.setCell ?_ (by first | (simp; done) | (simp; omega) | omega) _ | with_reducible refine Ext.trans ?_ (by with_reducible assumption))) p1, Ext.cells (by repeat (first | (with_reducible exact Ext.refl _) | (with_reducible assumption) | with_reducible refine Ext.drew ?_ | with_reducible refine Ext.alloc ?_ _ | with_reducible refine Ext.setCell ?_ (by first | (simp; done) | (simp; omega) | omega) _ | with_reducible refine Ext.trans ?_ (by with_reducible assumption))) p2, Ext.cells (by repeat (first | (with_reducible exact Ext.refl _) | (with_reducible assumption) | with_reducible refine Ext.drew ?_ | with_reducible refine Ext.alloc ?_ _ | with_reducible refine Ext.setCell ?_ (by first | (simp; done) | (simp; omega) | omega) _ | with_reducible refine Ext.trans ?_ (by with_reducible assumption))) p3, Ext.cells (by repeat (first | (with_reducible exact Ext.refl _) | (with_reducible assumption) | with_reducible refine Ext.drew ?_ | with_reducible refine Ext.alloc ?_ _ | with_reducible refine Ext.setCell ?_ (by first | (simp; done) | (simp; omega) | omega) _ | with_reducible refine Ext.trans ?_ (by with_reducible assumption))) r0, Ext.cells (by repeat (first | (with_reducible exact Ext.refl _) | (with_reducible assumption) | with_reducible refine Ext.drew ?_ | with_reducible refine Ext.alloc ?_ _ | with_reducible refine Ext.setCell ?_ (by first | (simp; done) | (simp; omega) | omega) _ | with_reducible refine Ext.trans ?_ (by with_reducible assumption))) r1, Ext.cells (by repeat (first | (with_reducible exact Ext.refl _) | (with_reducible assumption) | with_reducible refine Ext.drew ?_ | with_reducible refine Ext.alloc ?_ _ | with_reducible refine Ext.setCell ?_ (by first | (simp; done) | (simp; omega) | omega) _ | with_reducible refine Ext.trans ?_ (by with_reducible assumption))) r2, Ext.cells (by repeat (first | (with_reducible exact Ext.refl _) | (with_reducible assumption) | with_reducible refine Ext.drew ?_ | with_reducible refine Ext.alloc ?_ _ | with_reducible refine Ext.setCell ?_ (by first | (simp; done) | (simp; omega) | omega) _ | with_reducible refine Ext.trans ?_ (by with_reducible assumption))) q0⟩)
            (first
            | (go_at_call 63; (with_reducible refine Calls.mono (HCP.out _ (by repeat (first | (with_reducible exact Ext.refl _) | (with_reducible assumption) | with_reducible refine Ext.drew ?_ | with_reducible refine Ext.alloc ?_ _ | with_reducible refine Ext.setCell ?_ (by first | (simp; done) | (simp; omega) | omega) _ | with_reducible refine Ext.trans ?_ (by with_reducible assumption)))) ?_); rintro e w6 ⟨g1, c1, rfl, hx6, ho6⟩; (have hxx : Ext wq w6 := (by repeat (first | (with_reducible exact Ext.refl _) | (with_reducible assumption) | with_reducible refine Ext.drew ?_ | with_reducible refine Ext.alloc ?_ _ | with_reducible refine Ext.setCell ?_ (by first | (simp; done) | (simp; omega) | omega) _ | with_reducible refine Ext.trans ?_ (by with_reducible assumption))); have q0 := hxx.cells q0; have p0 := hxx.cells p0; have p1 := hxx.cells p1; have p2 := hxx.cells p2; have p3 := hxx.cells p3; have r0 := hxx.cells r0; have r1 := hxx.cells r1; have r2 := hxx.cells r2; have HO6 := Lib.hid ho6; have HX6 := Lib.hid hxx; have HRL := Lib.hid (show RowAt (w6.alloc (.cells #[.int .i64 cd] 3)) (some ⟨w6.heap.size, 0, none⟩) 1 [cd].length (fun j => icc (nth [cd] j)) from row_lit (w := w6) (cs := #[.int .i64 cd]) (T := 3) (s := 1) (cc := icc) (x := cd) (by intro j hj; obtain rfl : j = 0 := (by omega); rfl))); have hz6 := hx6.size)
            | ((refine step_append_bf (o := ⟨some 66, _, _, _, _, _⟩) rfl _ _ 22 rfl 3 j0 _ 1 8 Try.underlying22 HJ.out HY0.out HY1.out HY2.out rfl (by decide) icc icc_one wq.heap.size ?_ (.slice (some g1) cs.length c1) cs [cd] N HNL rfl ((HO6.out.down (by first | exact Nat.le_refl _ | simp)).ext' ((Ext.refl _).alloc _)) ⟨w6.heap.size, 0, none⟩ 1 1 rfl rfl HRL.out (by simp; omega) (by simp; omega) ?_; (have := HX6.out.size; simp; omega); intro go7 gc7 w7 ho7 hb7 hg7 hv7; have HX7 := Lib.hid (HX6.out.alloc (.cells #[.int .i64 cd] 3))); (have hfm := ho7.form; rcases hfm with ⟨_, q⟩ | ⟨mb, mc, q, _, _, hF7⟩; exact absurd (HNL.out.symm.trans q) (by simp); injection q with q1 q2 q3; subst q1 q3; have hxx : Ext wq w7 := Ext.below HX7.out hb7 (Nat.le_refl _); have HF7 := Lib.hid (FreshAt.low hF7 hzb); clear ho7 hb7 hg7 hv7 hF7 q2; have q0 := hxx.cells Q0.out; have p0 := hxx.cells P0.out; have p1 := hxx.cells P1.out; have p2 := hxx.cells P2.out; have p3 := hxx.cells P3.out; have r0 := hxx.cells R0.out; have r1 := hxx.cells R1.out; have r2 := hxx.cells R2.out))
            | ((refine step_append_bf (o := ⟨some 66, _, _, _, _, _⟩) rfl _ _ 22 rfl 3 j0 _ 1 8 Try.underlying22 HJ.out HY0.out HY1.out HY2.out rfl (by decide) icc icc_one wq.heap.size ?_ (.slice (some g1) cs.length c1) cs [cd] N HNL rfl (HO6.out.down (by simp)) ⟨wq.heap.size, 0, none⟩ 1 1 rfl rfl (fun _ => ⟨wq.heap.size, 0, rfl, fun k hk j hj => by
                obtain rfl : k = 0 := by simpa using hk
                obtain rfl : j = 0 := by omega
                exact hx6.cells (by go_simp; rfl)⟩) (by simp; omega) (by simp; omega) ?_; (have := HX6.out.size; omega); intro go7 gc7 w7 ho7 hb7 hg7 hv7; have HX7 := Lib.hid HX6.out); (have hfm := ho7.form; rcases hfm with ⟨_, q⟩ | ⟨mb, mc, q, _, _, hF7⟩; exact absurd (HNL.out.symm.trans q) (by simp); injection q with q1 q2 q3; subst q1 q3; have hxx : Ext wq w7 := Ext.below HX7.out hb7 (Nat.le_refl _); have HF7 := Lib.hid (FreshAt.low hF7 hzb); clear ho7 hb7 hg7 hv7 hF7 q2; have q0 := hxx.cells Q0.out; have p0 := hxx.cells P0.out; have p1 := hxx.cells P1.out; have p2 := hxx.cells P2.out; have p3 := hxx.cells P3.out; have r0 := hxx.cells R0.out; have r1 := hxx.cells R1.out; have r2 := hxx.cells R2.out))
            | (go_at_call 74; (with_reducible refine Calls.mono (HIQ.out _ _ _ (by repeat (first | (with_reducible exact Ext.refl _) | (with_reducible assumption) | with_reducible refine Ext.drew ?_ | with_reducible refine Ext.alloc ?_ _ | with_reducible refine Ext.setCell ?_ (by first | (simp; done) | (simp; omega) | omega) _ | with_reducible refine Ext.trans ?_ (by with_reducible assumption))) (HF7.out.ext (by repeat (first | (with_reducible exact Ext.refl _) | (with_reducible assumption) | with_reducible refine Ext.drew ?_ | with_reducible refine Ext.alloc ?_ _ | with_reducible refine Ext.setCell ?_ (by first | (simp; done) | (simp; omega) | omega) _ | with_reducible refine Ext.trans ?_ (by with_reducible assumption))))) ?_); rintro e w9 ⟨g9, c9, rfl, hx9, hF9⟩; have HF9 := Lib.hid hF9))
          all_goals
            go_wp2_with fail
            go_meet
            exact ⟨g9, c9, rfl, rfl, (by repeat (first | (with_reducible exact Ext.refl _) | (with_reducible assumption) | with_reducible refine Ext.drew ?_ | with_reducible refine Ext.alloc ?_ _ | with_reducible refine Ext.setCell ?_ (by first | (simp; done) | (simp; omega) | omega) _ | with_reducible refine Ext.trans ?_ (by with_reducible assumption))), HF9.out⟩
        case rest =>
        obtain ⟨g9, c9, rfl, rfl, hx6, hF6⟩ := hcut
        rename World => wz
        have HX6 := Lib.hid (HXR3.out.trans hx6); have HF6 := Lib.hid hF6
        have HFG := Lib.hid (HF3.out.ext hx6)
        have HBT := Lib.hid (spec_l17Better (w := wz) (ac := c9) (bc := gc) (x := P.2) (y := (G k).2) hF6.row HFG.out.row (by have := HPL.out; omega) (by have := HGL.out; omega))
        clear hx6 hF6 q0
        cases hbf : befB (P.1, P.2) ((G k).1, (G k).2)
        · have HG2 : Hid (G (k + 1) = G k) := Lib.hid (by rw [HG1.out, upd, show befB P (G k) = false from hbf]; rfl)
          rw [hbf] at HBT
          clear hbf
          go_wp2_with fail
          refine HBT.out.mono ?_; rintro e w8 ⟨rfl, hx8⟩
          have HX8 := Lib.hid (HX6.out.trans hx8)
          have HF8 := Lib.hid (HFG.out.ext hx8)
          clear hx8
          go_wp2
          go_roundw
          case rel => exact ⟨k + 1, g, gc, by omega, by go_num, by rw [HG2.out], by rw [HG2.out], HX8.out, by rw [HG2.out]; exact HF8.out, by rw [HG2.out]; exact HGL.out⟩
          case measure => simp [intOf] <;> omega
        · have HG2 : Hid (G (k + 1) = P) := Lib.hid (by rw [HG1.out, upd, show befB P (G k) = true from hbf]; rfl)
          rw [hbf] at HBT
          clear hbf
          go_wp2_with fail
          refine HBT.out.mono ?_; rintro e w8 ⟨rfl, hx8⟩
          have HX8 := Lib.hid (HX6.out.trans hx8)
          have HF8 := Lib.hid (HF6.out.ext hx8)
          clear hx8
          go_wp2
          go_roundw
          case rel => exact ⟨k + 1, g9, c9, by omega, by go_num, by rw [HG2.out], by rw [HG2.out], HX8.out, by rw [HG2.out]; exact HF8.out, by rw [HG2.out]; exact HPL.out⟩
          case measure => simp [intOf] <;> omega
    · obtain rfl : k = xs.length := by omega
      have hkn : ¬ (xs.length : Int) < (xs.length : Int) := by omega
      go_wp2
      go_ret2
      rw [HBG.out]
      exact ⟨g, gc, rfl, HX.out.trans HXR.out, HF.out⟩


theorem spec_l17Best {m : MapD} {ao bo : Option Addr} {ac bc : Nat} {xs : List Ctl} {co : Option Addr} {cap : Nat} {r : RuleD} {po : Option Addr} {pc c0 : Nat} (hc : ctlsB m xs = true) (hru : ruleB m xs r = true) (h0 : c0 < m.cost.length) : ∀ (f : Nat) {cs : List Int} {q : Addr} {qc B0 : Nat} {w : World} (_ : Site w m ao bo xs co cap) (_ : RowAt w po 1 r.pts.length (ic r.pts)) (_ : GInv m xs c0 cs c0) (_ : FreshAt B0 w (some q) 1 cs.length (ic cs)) (_ : B0 ≤ w.heap.size) (_ : (leftL m xs c0 cs).length ≤ f) (_ : cs.length + f ≤ 10),
    Calls Try.prog 74 #[m.val ao ac bo bc, .slice co xs.length cap, r.val po pc, .int .i64 (c0 : Nat), .slice (some q) cs.length qc] w (ResB B0 w (bestT m xs c0 (scT m xs r c0) f cs)) := by
  intro f
  induction f with
  | zero =>
    intro cs q qc B0 w h hp hi hq hb hf hl
    exact spec_l17Best_at hc hru h0 h hp hi hq hb hf hl (fun k hk hfr => absurd (left_fewer hc hk hfr) (by omega))
  | succ f ih =>
    intro cs q qc B0 w h hp hi hq hb hf hl
    refine spec_l17Best_at hc hru h0 h hp hi hq hb hf hl (fun k hk hfr y g gc hx hF => ?_)
    have h1 := left_fewer hc hk hfr
    exact ih (h.ext hx) (hp.ext hx) ((hi.step hc hk hfr).base h0) hF (Nat.le_trans hb hx.size) (by omega) (by rw [List.length_append, List.length_singleton]; omega)

noncomputable def bsB (m : MapD) (xs : List Ctl) (r : RuleD) (center : Int) : Bool := ruleB m xs r && openB m center && decide (xs.length ≤ 5)
noncomputable def bsT (m : MapD) (xs : List Ctl) (r : RuleD) (center : Int) : List Int × Int := if bsB m xs r center then bestT m xs center.toNat (scT m xs r center.toNat) 5 [] else ([], 0)
/-- what is handed back: a tour of the call's own, a score, a bool -/
def ResT (w : World) (T : List Int × Int) (B : Bool) (e : Ending) (w' : World) : Prop := ∃ bo bc, e = .returned (.tuple #[.slice bo T.1.length bc, .int .i64 T.2, .bool B]) ∧ Ext w w' ∧ FreshAt w.heap.size w' bo 1 T.1.length (ic T.1)
theorem FreshAt.empty {y z : World} {T : TypeId} {s : Nat} {c : Nat → Nat → Value} (h : Ext (y.alloc (.cells #[] T)) z) : FreshAt y.heap.size z (some ⟨y.heap.size, 0, none⟩) s 0 c :=
  ⟨fun h => absurd h (by simp), fun a e => by
    injection e with e; subst e
    have := h.size
    simp only [World.size_alloc] at this ⊢
    omega, fun b off e j => by
    injection e with e; injection e with e1 e2; subst e1
    exact (h.frozenr _ _ (by simp only [World.size_alloc]; omega)).trans (frozen_new _ _ _ _)⟩

set_option maxRecDepth 100000 in
set_option maxHeartbeats 4000000 in
theorem spec_BestTour {m : MapD} {ao bo : Option Addr} {ac bc : Nat} {xs : List Ctl} {co : Option Addr} {cap : Nat} {r : RuleD} {po : Option Addr} {pc : Nat} {center : Int} {w : World} (h : Site w m ao bo xs co cap) (hp : RowAt w po 1 r.pts.length (ic r.pts)) (hn : r.pts.length ≤ 9223372036854775807) :
    Calls Try.prog 31 #[m.val ao ac bo bc, .slice co xs.length cap, r.val po pc, .int .i64 center] w (ResT w (bsT m xs r center) (bsB m xs r center)) := by
  have hx0 : Ext w ((w.alloc (.cells #[.int .i64 m.wid, .int .i64 m.hei, .slice ao m.rise.length ac, .slice bo m.cost.length bc] 30)).alloc (.cells #[.slice po r.pts.length pc, .int .i64 r.lim, .int .i64 r.pen] 43)) := ((Ext.refl w).alloc _).alloc _
  have hbm : BoxM ((w.alloc (.cells #[.int .i64 m.wid, .int .i64 m.hei, .slice ao m.rise.length ac, .slice bo m.cost.length bc] 30)).alloc (.cells #[.slice po r.pts.length pc, .int .i64 r.lim, .int .i64 r.pen] 43)) w.heap.size m ao ac bo bc := ⟨by go_simp, by go_simp, by go_simp, by go_simp⟩
  have r0 : ((w.alloc (.cells #[.int .i64 m.wid, .int .i64 m.hei, .slice ao m.rise.length ac, .slice bo m.cost.length bc] 30)).alloc (.cells #[.slice po r.pts.length pc, .int .i64 r.lim, .int .i64 r.pen] 43)).cell? ⟨w.heap.size + 1, 0, none⟩ = some (.slice po r.pts.length pc) := by go_simp
  have r1 : ((w.alloc (.cells #[.int .i64 m.wid, .int .i64 m.hei, .slice ao m.rise.length ac, .slice bo m.cost.length bc] 30)).alloc (.cells #[.slice po r.pts.length pc, .int .i64 r.lim, .int .i64 r.pen] 43)).cell? ⟨w.heap.size + 1, 1, none⟩ = some (.int .i64 r.lim) := by go_simp
  have r2 : ((w.alloc (.cells #[.int .i64 m.wid, .int .i64 m.hei, .slice ao m.rise.length ac, .slice bo m.cost.length bc] 30)).alloc (.cells #[.slice po r.pts.length pc, .int .i64 r.lim, .int .i64 r.pen] 43)).cell? ⟨w.heap.size + 1, 2, none⟩ = some (.int .i64 r.pen) := by go_simp
  have HA := Lib.hid (fun y (hx : Ext w y) => spec_l17Rule (w := y) (ac := ac) (bc := bc) (cap := cap) (pc := pc) (h.ext hx) (hp.ext hx) hn)
  have HBF : Hid (bsB m xs r center = (ruleB m xs r && openB m center && decide (xs.length ≤ 5))) := Lib.hid rfl
  have HTF : Hid (bsT m xs r center = if bsB m xs r center then bestT m xs center.toNat (scT m xs r center.toNat) 5 [] else ([], 0)) := Lib.hid rfl
  have HSITE := Lib.hid h; have HPTS := Lib.hid hp
  unfold MapD.val RuleD.val at HA ⊢
  obtain ⟨d0, d1, d2, d3⟩ := hbm
  cases ha : ruleB m xs r
  · have HB : Hid (bsB m xs r center = false) := Lib.hid (by rw [HBF.out, ha]; rfl)
    have HT : Hid (bsT m xs r center = ([], 0)) := Lib.hid (by rw [HTF.out, HB.out]; rfl)
    rw [ha] at HA
    clear ha h hp
    go_enter Try.func31, Try.ntmps31
    go_wp2_with fail
    refine (HA.out _ hx0).mono ?_; rintro e w1 ⟨rfl, hx1⟩
    have HX1 := Lib.hid (hx0.trans hx1)
    clear hx1 hx0 HA r0 r1 r2 d0 d1 d2 d3
    go_wp2
    go_ret3
    rw [HT.out, HB.out]
    exact ⟨some ⟨w1.heap.size, 0, none⟩, 0, rfl, HX1.out.alloc _, (FreshAt.empty (Ext.refl _)).low HX1.out.size⟩
  · rw [ha] at HA
    have hc := rule_ctls ha
    have hm := (ctls_map hc).1
    have h10 := (ctls_map hc).2
    have HO := Lib.hid (fun y (hx : Ext w y) => spec_l2Open (w := y) (ao := ao) (ac := ac) (bc := bc) (x := center) hm (h.cost.ext hx))
    unfold MapD.val at HO
    cases hb : openB m center
    · have HB : Hid (bsB m xs r center = false) := Lib.hid (by rw [HBF.out, hb, Bool.and_false]; rfl)
      have HT : Hid (bsT m xs r center = ([], 0)) := Lib.hid (by rw [HTF.out, HB.out]; rfl)
      rw [hb] at HO
      clear ha hb h hp
      go_enter Try.func31, Try.ntmps31
      go_wp2_with fail
      refine (HA.out _ hx0).mono ?_; rintro e w1 ⟨rfl, hx1⟩
      have HX1 := Lib.hid (hx0.trans hx1)
      have d0 := hx1.cells d0
      have d1 := hx1.cells d1
      have d2 := hx1.cells d2
      have d3 := hx1.cells d3
      clear hx1 hx0 HA r0 r1 r2
      go_wp2_with fail
      refine (HO.out _ HX1.out).mono ?_; rintro e w2 ⟨rfl, hx2⟩
      have HX2 := Lib.hid (HX1.out.trans hx2)
      clear hx2 HO d0 d1 d2 d3
      go_wp2
      go_ret3
      rw [HT.out, HB.out]
      exact ⟨some ⟨w2.heap.size, 0, none⟩, 0, rfl, HX2.out.alloc _, (FreshAt.empty (Ext.refl _)).low HX2.out.size⟩
    · obtain ⟨c0, ec, hc0⟩ := open_nat hb
      subst ec
      rw [hb] at HO
      by_cases h5 : xs.length ≤ 5
      · have HB : Hid (bsB m xs r c0 = true) := Lib.hid (by rw [HBF.out, ha, hb, decide_eq_true h5]; rfl)
        have HT : Hid (bsT m xs r c0 = bestT m xs c0 (scT m xs r c0) 5 []) := Lib.hid (by rw [HTF.out, HB.out, Int.toNat_natCast]; rfl)
        have h5i : ¬ (5 : Int) < (xs.length : Int) := by omega
        have HBE := Lib.hid (fun y (q : Addr) (qc : Nat) (hx : Ext w y) (hF : FreshAt w.heap.size y (some q) 1 0 (ic [])) => show Calls Try.prog 74 #[m.val ao ac bo bc, .slice co xs.length cap, r.val po pc, .int .i64 (c0 : Nat), .slice (some q) 0 qc] y _ from spec_l17Best (ac := ac) (bc := bc) (pc := pc) (cap := cap) (cs := []) hc ha hc0 5 (HSITE.out.ext hx) (HPTS.out.ext hx) (.start hc0) hF hx.size (Nat.le_trans left_len h5) (by decide))
        unfold MapD.val RuleD.val at HBE
        clear ha hb h hp h5
        go_enter Try.func31, Try.ntmps31
        go_wp2_with fail
        refine (HA.out _ hx0).mono ?_; rintro e w1 ⟨rfl, hx1⟩
        have HX1 := Lib.hid (hx0.trans hx1)
        have d0 := hx1.cells d0
        have d1 := hx1.cells d1
        have d2 := hx1.cells d2
        have d3 := hx1.cells d3
        have r0 := hx1.cells r0
        have r1 := hx1.cells r1
        have r2 := hx1.cells r2
        clear hx1 hx0 HA
        go_wp2_with fail
        refine (HO.out _ HX1.out).mono ?_; rintro e w2 ⟨rfl, hx2⟩
        have HX2 := Lib.hid (HX1.out.trans hx2)
        have d0 := hx2.cells d0
        have d1 := hx2.cells d1
        have d2 := hx2.cells d2
        have d3 := hx2.cells d3
        have r0 := hx2.cells r0
        have r1 := hx2.cells r1
        have r2 := hx2.cells r2
        clear hx2 HO
        go_wp2_with fail
        refine (HBE.out _ _ _ (HX2.out.alloc _) ((FreshAt.empty (Ext.refl _)).low HX2.out.size)).mono ?_; rintro e w3 ⟨g, gc, rfl, hx3, hF3⟩
        have HX3 := Lib.hid ((HX2.out.alloc _).trans hx3)
        have HF3 := Lib.hid hF3
        clear hx3 hF3 d0 d1 d2 d3 r0 r1 r2 HBE
        rw [← HT.out] at HF3 ⊢
        go_wp2
        go_ret3
        rw [HB.out]
        exact ⟨some g, gc, rfl, HX3.out, HF3.out⟩
      · have HB : Hid (bsB m xs r c0 = false) := Lib.hid (by rw [HBF.out, decide_eq_false h5, Bool.and_false])
        have HT : Hid (bsT m xs r c0 = ([], 0)) := Lib.hid (by rw [HTF.out, HB.out]; rfl)
        have h5i : (5 : Int) < (xs.length : Int) := by omega
        clear ha hb h hp h5
        go_enter Try.func31, Try.ntmps31
        go_wp2_with fail
        refine (HA.out _ hx0).mono ?_; rintro e w1 ⟨rfl, hx1⟩
        have HX1 := Lib.hid (hx0.trans hx1)
        have d0 := hx1.cells d0
        have d1 := hx1.cells d1
        have d2 := hx1.cells d2
        have d3 := hx1.cells d3
        clear hx1 hx0 HA r0 r1 r2
        go_wp2_with fail
        refine (HO.out _ HX1.out).mono ?_; rintro e w2 ⟨rfl, hx2⟩
        have HX2 := Lib.hid (HX1.out.trans hx2)
        clear hx2 HO d0 d1 d2 d3
        go_wp2
        go_ret3
        rw [HT.out, HB.out]
        exact ⟨some ⟨w2.heap.size, 0, none⟩, 0, rfl, HX2.out.alloc _, (FreshAt.empty (Ext.refl _)).low HX2.out.size⟩


theorem ord_bef (a b : List Int × Int) : decide (orI (cmpI b.2 a.2) (orI (cmpI (a.1.length : Int) (b.1.length : Int)) (cmpLI a.1 b.1)) < 0) = befB a b := by
  rw [Bool.eq_iff_iff, decide_eq_true_eq, befB_iff]
  unfold orI
  rcases cmpI_cases b.2 a.2 with ⟨q, e⟩ | ⟨q, e⟩ | ⟨q, e⟩
  · rw [e, if_pos (by decide)]; omega
  · rw [e, if_neg (by decide)]
    rcases cmpI_cases (a.1.length : Int) (b.1.length : Int) with ⟨q2, e2⟩ | ⟨q2, e2⟩ | ⟨q2, e2⟩
    · rw [e2, if_pos (by decide)]; omega
    · rw [e2, if_neg (by decide)]; omega
    · rw [e2, if_pos (by decide)]; omega
  · rw [e, if_pos (by decide)]; omega
theorem left_filter (m : MapD) (xs : List Ctl) (c0 : Nat) (cs : List Int) : (leftL m xs c0 []).filter (fun c => !hasI cs cs.length c.code) = leftL m xs c0 cs := by
  unfold leftL
  rw [List.filter_filter]
  refine List.filter_congr fun c _ => ?_
  unfold frB
  rw [show hasI [] ([] : List Int).length c.code = false from rfl, Bool.not_false, Bool.true_and]
theorem left_at {m : MapD} {xs : List Ctl} {c0 : Nat} {cs : List Int} {k : Nat} (hk : k < (leftL m xs c0 []).length) (hh : hasI cs cs.length (nth (leftL m xs c0 []) k).code = false) : ∃ i, i < xs.length ∧ nth xs i = nth (leftL m xs c0 []) k ∧ frB m c0 cs (nth xs i) = true := by
  have h1 : nth (leftL m xs c0 []) k ∈ xs ∧ frB m c0 [] (nth (leftL m xs c0 []) k) = true := List.mem_filter.1 (nth_in hk)
  generalize nth (leftL m xs c0 []) k = X at *
  obtain ⟨i, hi, e⟩ := in_nth h1.1
  refine ⟨i, hi, e, ?_⟩
  have h2 := h1.2
  rw [e]
  unfold frB at h2 ⊢
  rw [Bool.and_eq_true] at h2 ⊢
  exact ⟨by rw [hh]; rfl, h2.2⟩
/-- the running best, control by control -/
theorem vis_goU {m : MapD} {xs : List Ctl} {c0 : Nat} {sc : List Int → Int} {f : Nat} {cs : List Int} {bm : List Int × Int} (h : (leftL m xs c0 cs).length ≤ f) : visT m xs c0 sc f cs bm = goU (fun c => !hasI cs cs.length c.code) (fun b c => visT m xs c0 sc (f - 1) (cs ++ [c.code]) b) (leftL m xs c0 []) (upd bm (cs, sc cs)) (leftL m xs c0 []).length := by
  rw [goU_end, left_filter]
  cases f with
  | zero =>
    rw [List.length_eq_zero_iff.1 (show (leftL m xs c0 cs).length = 0 by omega)]; rfl
  | succ f => rfl

/-- the running best in its two boxes -/
structure TB (w : World) (Kb Km B0 : Nat) (p : List Int × Int) (bo : Option Addr) (bc : Nat) : Prop where
  b : w.cell? ⟨Kb, 0, none⟩ = some (.slice bo p.1.length bc)
  s : w.cell? ⟨Km, 0, none⟩ = some (.int .i64 p.2)
  bf : w.frozen? ⟨Kb, 0, none⟩ = false
  sf : w.frozen? ⟨Km, 0, none⟩ = false
  row : FreshAt B0 w bo 1 p.1.length (ic p.1)
  off : ∀ a, bo = some a → a.block ≠ Kb ∧ a.block ≠ Km
  len : p.1.length ≤ 10
  cap : p.1.length ≤ bc
theorem TB.ext {w w' : World} {Kb Km B0 : Nat} {p : List Int × Int} {bo : Option Addr} {bc : Nat} (h : TB w Kb Km B0 p bo bc) (hx : Ext w w') : TB w' Kb Km B0 p bo bc :=
  ⟨hx.cells h.b, hx.cells h.s, (hx.frozenr _ _ (World.block_lt_of_cell? _ _ h.b)).trans h.bf, (hx.frozenr _ _ (World.block_lt_of_cell? _ _ h.s)).trans h.sf, h.row.ext hx, h.off, h.len, h.cap⟩
theorem TB.put {w : World} {Kb Km B0 : Nat} {p q : List Int × Int} {bo : Option Addr} {bc : Nat} (h : TB w Kb Km B0 p bo bc) (hne : Kb ≠ Km) {ao : Addr} {ac : Nat} (hr : FreshAt B0 w (some ao) 1 q.1.length (ic q.1)) (hb : ao.block ≠ Kb) (hm : ao.block ≠ Km) (hl : q.1.length ≤ 10) (hc : q.1.length ≤ ac) :
    TB ((w.setCell ⟨Kb, 0, none⟩ (.slice (some ao) q.1.length ac)).setCell ⟨Km, 0, none⟩ (.int .i64 q.2)) Kb Km B0 q (some ao) ac := by
  refine ⟨?_, World.cell?_setCell_same _ _ _ ((World.cell?_setCell_other _ _ _ _ (fun e => hne (by injection e))).trans h.s), by rw [World.frozen?_setCell, World.frozen?_setCell]; exact h.bf, by rw [World.frozen?_setCell, World.frozen?_setCell]; exact h.sf, ?_, fun a e => by injection e with e; subst e; exact ⟨hb, hm⟩, hl, hc⟩
  · exact (World.cell?_setCell_other _ _ _ _ (fun e => hne (by injection e with e; exact e.symm))).trans (World.cell?_setCell_same _ _ _ h.b)
  · exact (hr.setOff (p := ⟨Kb, 0, none⟩) (fun a e => by injection e with e; subst e; exact hb) _).setOff (p := ⟨Km, 0, none⟩) (fun a e => by injection e with e; subst e; exact hm) _
/-- the two boxes -/
def Two (Kb Km : Nat) : Nat → Prop := fun b => b = Kb ∨ b = Km
theorem two_put {w : World} {Kb Km : Nat} {u v : Value} : Touch w ((w.setCell ⟨Kb, 0, none⟩ u).setCell ⟨Km, 0, none⟩ v) (Two Kb Km) :=
  (Touch.set (p := ⟨Kb, 0, none⟩) (.inl rfl)).trans (Touch.set (p := ⟨Km, 0, none⟩) (.inr rfl))
/-- what the function has taken, and what does not change -/
structure Kept (w : World) (m : MapD) (ao : Option Addr) (ac : Nat) (bo : Option Addr) (bc : Nat) (xs : List Ctl) (co : Option Addr) (cap : Nat) (r : RuleD) (po : Option Addr) (pc c0 : Nat) (lo : Option Addr) (lc K1 K2 K3 K4 Km Kb K7 K8 : Nat) : Prop where
  site : Site w m ao bo xs co cap
  pts : RowAt w po 1 r.pts.length (ic r.pts)
  l : w.cell? ⟨K1, 0, none⟩ = some (.slice co xs.length cap)
  r0 : w.cell? ⟨K2, 0, none⟩ = some (.slice po r.pts.length pc)
  r1 : w.cell? ⟨K2, 1, none⟩ = some (.int .i64 r.lim)
  r2 : w.cell? ⟨K2, 2, none⟩ = some (.int .i64 r.pen)
  bm : BoxM w K3 m ao ac bo bc
  c : w.cell? ⟨K4, 0, none⟩ = some (.int .i64 (c0 : Nat))
  left : w.cell? ⟨K7, 0, none⟩ = some (.slice lo (leftL m xs c0 []).length lc)
  row : RowAt w lo 2 (leftL m xs c0 []).length (fun k => (nth (leftL m xs c0 []) k).c)
  v : w.cell? ⟨K8, 0, none⟩ = some (.func (.func 75) #[] #[.pointer (some ⟨K1, 0, none⟩), .pointer (some ⟨K2, 0, none⟩), .pointer (some ⟨K3, 0, none⟩), .pointer (some ⟨K4, 0, none⟩), .pointer (some ⟨Km, 0, none⟩), .pointer (some ⟨Kb, 0, none⟩), .pointer (some ⟨K7, 0, none⟩), .pointer (some ⟨K8, 0, none⟩)])
theorem Touch.ofTwo {a b c : World} {Kb Km : Nat} (h : Touch a b (Two Kb Km)) (hx : Ext b c) : Touch a c (Two Kb Km) := h.trans (Touch.of_ext hx)


def ResV (Kb Km B0 : Nat) (w : World) (p : List Int × Int) (e : Ending) (w' : World) : Prop := e = .returned (.tuple #[]) ∧ Touch w w' (Two Kb Km) ∧ ∃ bo bc, TB w' Kb Km B0 p bo bc

set_option maxRecDepth 100000 in
set_option maxHeartbeats 4000000 in
theorem impl_BestTour_1_at {m : MapD} {ao bo : Option Addr} {ac bc : Nat} {xs : List Ctl} {co : Option Addr} {cap : Nat} {r : RuleD} {po : Option Addr} {pc c0 : Nat} {lo : Option Addr} {lc K1 K2 K3 K4 Km Kb K7 K8 : Nat} (hc : ctlsB m xs = true) (hru : ruleB m xs r = true) (h0 : c0 < m.cost.length) {W : World} {B0 : Nat} (hne : Kb ≠ Km) (hKb : Kb < W.heap.size) (hKm : Km < W.heap.size) (hB0 : B0 ≤ W.heap.size)
    (HK : ∀ y, Touch W y (Two Kb Km) → Kept y m ao ac bo bc xs co cap r po pc c0 lo lc K1 K2 K3 K4 Km Kb K7 K8)
    {f : Nat} {cs : List Int} {q : Addr} {qc : Nat} {y : World} {bm : List Int × Int} {b0 : Option Addr} {bcap : Nat} (hi : GInv m xs c0 cs c0) (hf : (leftL m xs c0 cs).length ≤ f) (hl : cs.length + f ≤ 10) (ht : Touch W y (Two Kb Km)) (hb : TB y Kb Km B0 bm b0 bcap) (hq : FreshAt W.heap.size y (some q) 1 cs.length (ic cs)) (hqc : cs.length ≤ qc)
    (IH : ∀ k, k < (leftL m xs c0 []).length → hasI cs cs.length (nth (leftL m xs c0 []) k).code = false → ∀ (z : World) (g : Addr) (gc : Nat) (p : List Int × Int) (b1 : Option Addr) (bc1 : Nat), Touch W z (Two Kb Km) → TB z Kb Km B0 p b1 bc1 → FreshAt W.heap.size z (some g) 1 (cs ++ [(nth (leftL m xs c0 []) k).code]).length (ic (cs ++ [(nth (leftL m xs c0 []) k).code])) → (cs ++ [(nth (leftL m xs c0 []) k).code]).length ≤ gc → Calls Try.prog 75 #[.slice (some g) (cs ++ [(nth (leftL m xs c0 []) k).code]).length gc, .pointer (some ⟨K1, 0, none⟩), .pointer (some ⟨K2, 0, none⟩), .pointer (some ⟨K3, 0, none⟩), .pointer (some ⟨K4, 0, none⟩), .pointer (some ⟨Km, 0, none⟩), .pointer (some ⟨Kb, 0, none⟩), .pointer (some ⟨K7, 0, none⟩), .pointer (some ⟨K8, 0, none⟩)] z (ResV Kb Km B0 z (visT m xs c0 (scT m xs r c0) (f - 1) (cs ++ [(nth (leftL m xs c0 []) k).code]) p))) :
    Calls Try.prog 75 #[.slice (some q) cs.length qc, .pointer (some ⟨K1, 0, none⟩), .pointer (some ⟨K2, 0, none⟩), .pointer (some ⟨K3, 0, none⟩), .pointer (some ⟨K4, 0, none⟩), .pointer (some ⟨Km, 0, none⟩), .pointer (some ⟨Kb, 0, none⟩), .pointer (some ⟨K7, 0, none⟩), .pointer (some ⟨K8, 0, none⟩)] y (ResV Kb Km B0 y (visT m xs c0 (scT m xs r c0) f cs bm)) := by
  have hrl := rule_len hru
  have hbd := way_bd hi hc h0 (by omega)
  have hlL : (leftL m xs c0 []).length ≤ 10 := Nat.le_trans left_len (ctls_map hc).2
  have HKK := Lib.hid HK
  have HT := Lib.hid ht; have HB := Lib.hid hb; have HQ := Lib.hid hq; have HIH := Lib.hid IH
  have HT1 := Lib.hid (fun z (hz : Ext y z) => impl_tourTime (w := z) (ac := ac) (bc := bc) (cap := cap) (qc := qc) ((HK y ht).site.ext hz) hc (hq.row.ext hz) (by omega) hi.codes h0)
  have HT2 := Lib.hid (fun z (hz : Ext y z) => impl_scoreFor (w := z) (cap := cap) (pc := pc) (ac := qc) ((HK y ht).site.ctls.ext hz) hrl.2.1 ((HK y ht).pts.ext hz) hrl.1 hrl.2.2.1 hrl.2.2.2.1 hrl.2.2.2.2 (hq.row.ext hz) (by omega) hbd.1 hbd.2)
  have HVG := Lib.hid (vis_goU (sc := scT m xs r c0) (bm := bm) hf)
  have HSC : Hid (scT m xs r c0 cs = scoreI xs r cs (wayT m c0 (tourW xs c0 cs))) := Lib.hid rfl
  obtain ⟨_, _, k1, k2, k3, k4, ⟨k5, k6, k7, k8⟩, k9, k10, _, _⟩ := HK y ht
  have d0 := Grow.cells k1
  have d1 := Grow.cells k2
  have d2 := Grow.cells k3
  have d3 := Grow.cells k4
  have d4 := Grow.cells k5
  have d5 := Grow.cells k6
  have d6 := Grow.cells k7
  have d7 := Grow.cells k8
  have d8 := Grow.cells k9
  unfold MapD.val at HT1
  unfold RuleD.val at HT2
  clear HK ht hb hq IH hrl hf
  go_enter Try.func75, Try.ntmps75
  go_wp2
  refine wp_region_ext (by kernel_rfl) (by kernel_rfl) ?_
  repeat (go_big_quiet_step ((first | (go_at_call 56; with_reducible exact Calls.ext_of (HT1.out _ (Grow.h _))) | (go_at_call 60; with_reducible exact Calls.ext_of (HT2.out _ (Grow.h _))))))
  refine wpQuiet_nil ?_
  rintro _ ⟨⟨w1, hx1⟩, rfl⟩
  clear d0 d1 d2 d3 d4 d5 d6 d7 d8 k1 k2 k3 k4 k5 k6 k7 k8 k9
  rename World => w1
  rw [← HSC.out] at *
  generalize scT m xs r c0 cs = s at *
  have hb1 := HB.out.ext hx1
  have hrow := hb1.row
  have HS1 := Lib.hid (fun (z : World) (hz : Ext w1 z) => slices_Compare (w := z) (ac := qc) (bc := bcap) ((HQ.out.row.ext hx1).ext hz) (hrow.row.ext hz) (by omega) (by have := hb1.len; omega))
  have HO := Lib.hid (fun x (B : Nat) (a b c : Int) (h1 : x.cell? ⟨B, 0, none⟩ = some (.int .i64 a)) (h2 : x.cell? ⟨B, 1, none⟩ = some (.int .i64 b)) (h3 : x.cell? ⟨B, 2, none⟩ = some (.int .i64 c)) => cmp_Or3 (w := x) (B := B) h1 h2 h3)
  have HX1 := Lib.hid hx1
  have q0 := hb1.b
  have q1 := hb1.s
  have HB1 := Lib.hid hb1
  have HOB := Lib.hid (ord_bef (cs, s) bm)
  clear hb1 hrow hx1
  go_wp2
  refine wp_region_ext_tail 11 (by kernel_rfl) (by kernel_rfl) ?_
  simp only [List.take_succ_cons, List.take_zero, List.drop_succ_cons, List.drop_zero]
  have e0 := Grow.cells q0
  have e1 := Grow.cells q1
  repeat (go_big_quiet_step ((first | (go_at_call 76; with_reducible exact Calls.ext_of_same (HS1.out _ (Grow.h _))) | (go_at_call 69; with_reducible exact Calls.ext_of_same cmp_Compare))))
  refine wpQuiet_nil ?_
  rintro _ ⟨⟨w1, hx1⟩, rfl⟩
  clear e0 e1 q0 q1
  rename World => w2
  have HX2 := Lib.hid (HX1.out.trans hx1)
  generalize hca : cmpI bm.2 s = ca at *
  generalize hcb : cmpI (cs.length : Int) (bm.1.length : Int) = cb at *
  generalize hcc : cmpLI cs bm.1 = c3 at *
  clear hx1 HX1 HS1 HT1 HT2 hca hcb hcc HB1
  go_wp2_with fail
  refine (HO.out _ _ ca cb c3 (by go_simp) (by go_simp) (by go_simp)).mono ?_; rintro e w3 ⟨rfl, hx3⟩
  have HX3 := Lib.hid (HX2.out.trans (Ext.trans ((Ext.refl _).alloc _) hx3))
  clear hx3 HX2 HO
  generalize orI ca (orI cb c3) = od at *
  have HB3 := Lib.hid (HB.out.ext HX3.out)
  have hb0 := HB3.out.b; have hb1 := HB3.out.s; have hb2 := HB3.out.bf; have hb3 := HB3.out.sf
  have hbl0 := World.block_lt_of_cell? _ _ hb0
  have hbl1 := World.block_lt_of_cell? _ _ hb1
  simp only at hbl0 hbl1
  have HNE := Lib.hid hne
  have hne1 : ¬ Kb = Km := hne
  have hne2 : ¬ Km = Kb := fun e => hne e.symm
  go_upto_if 37 with fail
  go_cut [] (fun wc => ∃ b1 c1, Touch y wc (Two Kb Km) ∧ TB wc Kb Km B0 (upd bm (cs, s)) b1 c1)
  case first =>
    by_cases hlt : od < 0
    · have hq3 := (HQ.out.ext HX3.out).low hB0
      have hqb : q.block ≠ Kb := by have := (HQ.out.base _ rfl).1; omega
      have hqm : q.block ≠ Km := by have := (HQ.out.base _ rfl).1; omega
      have HU : Hid (upd bm (cs, s) = (cs, s)) := Lib.hid (by unfold upd; rw [← HOB.out, decide_eq_true hlt]; rfl)
      have HPUT := Lib.hid (HB3.out.put (q := (cs, s)) (ac := qc) hne hq3 hqb hqm (by show cs.length ≤ 10; omega) hqc)
      clear hq3 hqb hqm hne
      go_wp2_with fail
      go_meet
      rw [HU.out]
      exact ⟨some q, qc, (Touch.of_ext HX3.out).trans two_put, HPUT.out⟩
    · have HU : Hid (upd bm (cs, s) = bm) := Lib.hid (by unfold upd; rw [← HOB.out, decide_eq_false hlt]; rfl)
      clear hne
      go_wp2_with fail
      go_meet
      rw [HU.out]
      exact ⟨b0, bcap, Touch.of_ext HX3.out, HB3.out⟩
  case rest =>
  obtain ⟨b1, c1, hT4, hB4⟩ := hcut
  rename World => w4
  have HT4 := Lib.hid (HT.out.trans hT4); have HTY := Lib.hid hT4; have HB4 := Lib.hid hB4
  have hk4 := (HKK.out _ HT4.out).left
  clear hT4 hB4 hb0 hb1 hb2 hb3 hbl0 hbl1 HB3 HX3
  obtain ⟨G, hG⟩ : ∃ G : Nat → List Int × Int, G = goU (fun c => !hasI cs cs.length c.code) (fun b c => visT m xs c0 (scT m xs r c0) (f - 1) (cs ++ [c.code]) b) (leftL m xs c0 []) (upd bm (cs, s)) := ⟨_, rfl⟩
  rw [← hG] at HVG
  have HG0 : Hid (G 0 = upd bm (cs, s)) := Lib.hid (by rw [hG]; rfl)
  have HGS : Hid (∀ k, G (k + 1) = if !hasI cs cs.length (nth (leftL m xs c0 []) k).code then visT m xs c0 (scT m xs r c0) (f - 1) (cs ++ [(nth (leftL m xs c0 []) k).code]) (G k) else G k) := Lib.hid (by rw [hG]; intro k; rfl)
  rw [← HG0.out] at HB4
  clear hG
  obtain ⟨L, hL⟩ : ∃ L, L = leftL m xs c0 [] := ⟨_, rfl⟩
  rw [← hL] at HVG HGS HIH hk4 hlL
  have HKL := Lib.hid (fun z hz => (HKK.out z hz).row)
  have HKV := Lib.hid (fun z hz => (HKK.out z hz).v)
  rw [← hL] at HKL
  clear HKK hL
  go_wp2
  clear hk4
  go_loopw [42] (fun i wr => ∃ (k : Nat) (b2 : Option Addr) (c2 : Nat), k ≤ L.length ∧ i = .int .i64 k ∧ Touch y wr (Two Kb Km) ∧ TB wr Kb Km B0 (G k) b2 c2) (fun i _ => L.length - (intOf i).toNat)
  case atStart => exact ⟨0, b1, c1, Nat.zero_le _, rfl, HTY.out, HB4.out⟩
  case round =>
    obtain ⟨k, b2, c2, hk, rfl, hT5, hB5⟩ := hrel
    have HT5 := Lib.hid hT5; have HB5 := Lib.hid hB5
    clear hT5 hB5
    have HTW := Lib.hid (HT.out.trans HT5.out)
    by_cases hlt : k < L.length
    · obtain ⟨lb, loff, rfl, H⟩ := HKL.out wr HTW.out (by omega)
      have d0 := H k hlt 0 (by decide)
      have d1 := H k hlt 1 (by decide)
      simp only [Ctl.c, Nat.add_zero] at d0 d1
      have hk0 : (0 : Int) ≤ (k : Int) := by omega
      have hk1 : (k : Int) < (L.length : Int) := by omega
      clear H
      have hQ5 : FreshAt W.heap.size wr (some q) 1 cs.length (ic cs) := HQ.out.touch HT5.out (fun a e hs => by injection e with e; subst e; have h1 := (HQ.out.base _ rfl).1; rcases hs with hs | hs <;> omega)
      have HQ5 := Lib.hid hQ5
      have HCO := Lib.hid (fun z (hz : Ext wr z) => slices_Contains (w := z) (cap := qc) (n := cs.length) (v := (nth L k).code) (hQ5.row.ext hz) (by omega))
      have v0 := HKV.out wr HTW.out
      have HSK := Lib.hid (HGS.out k)
      cases hh : hasI cs cs.length (nth L k).code
      · have HG1 : Hid (G (k + 1) = visT m xs c0 (scT m xs r c0) (f - 1) (cs ++ [(nth L k).code]) (G k)) := Lib.hid (HSK.out.trans (by rw [hh]; rfl))
        have HIK := Lib.hid (HIH.out k hlt hh)
        rw [hh] at HCO
        clear hh hQ5 HSK
        obtain ⟨N, hN⟩ : ∃ N, N = cs ++ [(nth L k).code] := ⟨_, rfl⟩
        rw [← hN] at HG1 HIK
        have HNL := Lib.hid hN; clear hN
        obtain ⟨P, hP⟩ : ∃ P, P = visT m xs c0 (scT m xs r c0) (f - 1) N (G k) := ⟨_, rfl⟩
        have HIP := Lib.hid (fun z g gc bb bc1 (h1 : Touch W z (Two Kb Km)) (h2 : TB z Kb Km B0 (G k) bb bc1) h3 h4 => HIK.out z g gc (G k) bb bc1 h1 h2 h3 h4)
        rw [← hP] at HIP HG1
        clear hP HIK HIH HGS HG0
        generalize (nth L k).code = cd at *
        have hCL : cs.length ≤ 1048577 := by omega
        go_wp2_with fail
        refine (HCO.out _ ((Ext.refl _).alloc _)).mono ?_; rintro e w6 ⟨rfl, hx6⟩
        have hxa : Ext wr w6 := ((Ext.refl _).alloc _).trans hx6
        have e0 : w6.cell? ⟨wr.heap.size, 0, none⟩ = some (.int .i64 cd) := hx6.cells (by go_simp)
        have v0 := hxa.cells v0
        have E0 := Lib.hid e0; have V0 := Lib.hid v0
        have HQ6 := Lib.hid (HQ5.out.ext hxa)
        have HB6 := Lib.hid (HB5.out.ext hxa)
        have HT6 := Lib.hid (HT5.out.ofTwo hxa)
        have HTW6 := Lib.hid (HTW.out.ofTwo hxa)
        have HWZ : Hid (W.heap.size ≤ w6.heap.size) := Lib.hid HTW6.out.size
        have HCP := Lib.hid (fun x (hx2 : Ext w6 x) => impl_copyInts (w := x) (cap := qc) (HQ6.out.row.ext hx2) hCL)
        have HIQ := Lib.hid (fun z g gc (hz : Ext w6 z) hF hC => HIP.out z g gc b2 c2 (HTW6.out.ofTwo hz) (HB6.out.ext hz) hF hC)
        have hnt : ¬ Two Kb Km wr.heap.size := fun hs => by have h1 := HTW.out.size; rcases hs with hs | hs <;> omega
        have el0 := World.block_lt_of_cell? _ _ e0
        have vl0 := World.block_lt_of_cell? _ _ v0
        simp only at el0 vl0
        obtain ⟨j0, hj, hy0, hy1, hy2⟩ := info_parts infoInt
        have HJ := Lib.hid hj; have HY0 := Lib.hid hy0; have HY1 := Lib.hid hy1; have HY2 := Lib.hid hy2
        clear hj hy0 hy1 hy2 hxa hx6 d0 d1 HCO
        go_wp2
        go_region_held3 (fun z => z.cell? ⟨K8, 0, none⟩ = some (.func (.func 75) #[] #[.pointer (some ⟨K1, 0, none⟩), .pointer (some ⟨K2, 0, none⟩), .pointer (some ⟨K3, 0, none⟩), .pointer (some ⟨K4, 0, none⟩), .pointer (some ⟨Km, 0, none⟩), .pointer (some ⟨Kb, 0, none⟩), .pointer (some ⟨K7, 0, none⟩), .pointer (some ⟨K8, 0, none⟩)]) ∧ z.cell? ⟨wr.heap.size, 0, none⟩ = some (.int .i64 cd)) (first | exact ⟨v0, e0⟩ | exact ⟨Ext.cells (by repeat (first | (with_reducible exact Ext.refl _) | (with_reducible assumption) | with_reducible refine Ext.drew ?_ | with_reducible refine Ext.alloc ?_ _ | with_reducible refine Ext.setCell ?_ (by first | (simp; done) | (simp; omega) | omega) _ | with_reducible refine Ext.trans ?_ (by with_reducible assumption))) v0, Ext.cells (by repeat (first | (with_reducible exact Ext.refl _) | (with_reducible assumption) | with_reducible refine Ext.drew ?_ | with_reducible refine Ext.alloc ?_ _ | with_reducible refine Ext.setCell ?_ (by first | (simp; done) | (simp; omega) | omega) _ | with_reducible refine Ext.trans ?_ (by with_reducible assumption))) e0⟩)
          (first
            | (go_at_call 71; (with_reducible refine Calls.mono (HCP.out _ (by repeat (first | (with_reducible exact Ext.refl _) | (with_reducible assumption) | with_reducible refine Ext.drew ?_ | with_reducible refine Ext.alloc ?_ _ | with_reducible refine Ext.setCell ?_ (by first | (simp; done) | (simp; omega) | omega) _ | with_reducible refine Ext.trans ?_ (by with_reducible assumption)))) ?_); rintro e w9 ⟨g1, c1, rfl, hx9, ho9⟩; (have hxx : Ext w6 w9 := (by repeat (first | (with_reducible exact Ext.refl _) | (with_reducible assumption) | with_reducible refine Ext.drew ?_ | with_reducible refine Ext.alloc ?_ _ | with_reducible refine Ext.setCell ?_ (by first | (simp; done) | (simp; omega) | omega) _ | with_reducible refine Ext.trans ?_ (by with_reducible assumption))); have v0 := hxx.cells v0; have e0 := hxx.cells e0; have HO9 := Lib.hid ho9; have HX9 := Lib.hid hxx; have HRL := Lib.hid (show RowAt (w9.alloc (.cells #[.int .i64 cd] 3)) (some ⟨w9.heap.size, 0, none⟩) 1 [cd].length (fun j => icc (nth [cd] j)) from row_lit (w := w9) (cs := #[.int .i64 cd]) (T := 3) (s := 1) (cc := icc) (x := cd) (by intro j hj; obtain rfl : j = 0 := (by omega); rfl))); have hz9 := hx9.size)
            | ((refine step_append_bf (o := ⟨some 57, _, _, _, _, _⟩) rfl _ _ 22 rfl 3 j0 _ 1 8 Try.underlying22 HJ.out HY0.out HY1.out HY2.out rfl (by decide) icc icc_one w6.heap.size ?_ (.slice (some g1) cs.length c1) cs [cd] N HNL rfl ((HO9.out.down (by first | exact Nat.le_refl _ | simp)).ext' ((Ext.refl _).alloc _)) ⟨w9.heap.size, 0, none⟩ 1 1 rfl rfl HRL.out (by simp; omega) (by simp; omega) ?_; (have := HX9.out.size; simp; omega); intro go7 gc7 w7 ho7 hb7 hg7 hv7; have HX7 := Lib.hid (HX9.out.alloc (.cells #[.int .i64 cd] 3))); (have hfm := ho7.form; rcases hfm with ⟨_, q⟩ | ⟨mb, mc, q, hlc7, _, hF7⟩; exact absurd (HNL.out.symm.trans q) (by simp); injection q with q1 q2 q3; subst q1 q3; have HLC7 := Lib.hid hlc7; clear hlc7; have hxx : Ext w6 w7 := Ext.below HX7.out hb7 (Nat.le_refl _); have HF7 := Lib.hid (FreshAt.low hF7 HWZ.out); clear ho7 hb7 hg7 hv7 hF7 q2; have v0 := hxx.cells V0.out; have e0 := hxx.cells E0.out))
            | ((refine step_append_bf (o := ⟨some 57, _, _, _, _, _⟩) rfl _ _ 22 rfl 3 j0 _ 1 8 Try.underlying22 HJ.out HY0.out HY1.out HY2.out rfl (by decide) icc icc_one w6.heap.size ?_ (.slice (some g1) cs.length c1) cs [cd] N HNL rfl (HO9.out.down (by simp)) ⟨w6.heap.size, 0, none⟩ 1 1 rfl rfl (fun _ => ⟨w6.heap.size, 0, rfl, fun k hk j hj => by
                obtain rfl : k = 0 := by simpa using hk
                obtain rfl : j = 0 := by omega
                exact hx9.cells (by go_simp; rfl)⟩) (by simp; omega) (by simp; omega) ?_; (have := HX9.out.size; omega); intro go7 gc7 w7 ho7 hb7 hg7 hv7; have HX7 := Lib.hid HX9.out); (have hfm := ho7.form; rcases hfm with ⟨_, q⟩ | ⟨mb, mc, q, hlc7, _, hF7⟩; exact absurd (HNL.out.symm.trans q) (by simp); injection q with q1 q2 q3; subst q1 q3; have HLC7 := Lib.hid hlc7; clear hlc7; have hxx : Ext w6 w7 := Ext.below HX7.out hb7 (Nat.le_refl _); have HF7 := Lib.hid (FreshAt.low hF7 HWZ.out); clear ho7 hb7 hg7 hv7 hF7 q2; have v0 := hxx.cells V0.out; have e0 := hxx.cells E0.out))
            | (go_at_call 75; (with_reducible refine Calls.mono (HIQ.out _ _ _ (by repeat (first | (with_reducible exact Ext.refl _) | (with_reducible assumption) | with_reducible refine Ext.drew ?_ | with_reducible refine Ext.alloc ?_ _ | with_reducible refine Ext.setCell ?_ (by first | (simp; done) | (simp; omega) | omega) _ | with_reducible refine Ext.trans ?_ (by with_reducible assumption))) (HF7.out.ext (by repeat (first | (with_reducible exact Ext.refl _) | (with_reducible assumption) | with_reducible refine Ext.drew ?_ | with_reducible refine Ext.alloc ?_ _ | with_reducible refine Ext.setCell ?_ (by first | (simp; done) | (simp; omega) | omega) _ | with_reducible refine Ext.trans ?_ (by with_reducible assumption)))) HLC7.out) ?_); rintro e w10 ⟨rfl, ht10, b10, c10, hB10⟩; (have hxz : Touch y w10 (Two Kb Km) := (HT6.out.trans (Touch.of_ext (by repeat (first | (with_reducible exact Ext.refl _) | (with_reducible assumption) | with_reducible refine Ext.drew ?_ | with_reducible refine Ext.alloc ?_ _ | with_reducible refine Ext.setCell ?_ (by first | (simp; done) | (simp; omega) | omega) _ | with_reducible refine Ext.trans ?_ (by with_reducible assumption))))).trans ht10; have HTZ := Lib.hid hxz; have HBZ := Lib.hid hB10; have e0 := (ht10.cell (b := wr.heap.size) (o := 0) (World.block_lt_of_cell? _ _ e0) hnt).trans e0; have v0 := HKV.out _ (HT.out.trans hxz))))
        all_goals
          go_wp2
          go_roundw
          case rel => exact ⟨k + 1, b10, c10, by omega, by go_num, HTZ.out, by rw [HG1.out]; exact HBZ.out⟩
          case measure => simp [intOf] <;> omega
      · have HG1 : Hid (G (k + 1) = G k) := Lib.hid (HSK.out.trans (by rw [hh]; rfl))
        rw [hh] at HCO
        clear hh hQ5 HSK
        go_wp2_with fail
        refine (HCO.out _ ((Ext.refl _).alloc _)).mono ?_; rintro e w6 ⟨rfl, hx6⟩
        have HT6 := Lib.hid (HT5.out.ofTwo (((Ext.refl _).alloc _).trans hx6))
        have HB6 := Lib.hid (HB5.out.ext (((Ext.refl _).alloc _).trans hx6))
        clear hx6 d0 d1 v0
        go_wp2
        go_roundw
        case rel => exact ⟨k + 1, b2, c2, by omega, by go_num, HT6.out, by rw [HG1.out]; exact HB6.out⟩
        case measure => simp [intOf] <;> omega
    · obtain rfl : k = L.length := by omega
      have hkn : ¬ (L.length : Int) < (L.length : Int) := by omega
      go_wp2
      first | go_end0 | refine bodyPost_ret (results_none rfl _ _ _) rfl ?_
      rw [HVG.out]
      exact ⟨rfl, HT5.out, b2, c2, HB5.out⟩


theorem impl_BestTour_1 {m : MapD} {ao bo : Option Addr} {ac bc : Nat} {xs : List Ctl} {co : Option Addr} {cap : Nat} {r : RuleD} {po : Option Addr} {pc c0 : Nat} {lo : Option Addr} {lc K1 K2 K3 K4 Km Kb K7 K8 : Nat} (hc : ctlsB m xs = true) (hru : ruleB m xs r = true) (h0 : c0 < m.cost.length) {W : World} {B0 : Nat} (hne : Kb ≠ Km) (hKb : Kb < W.heap.size) (hKm : Km < W.heap.size) (hB0 : B0 ≤ W.heap.size)
    (HK : ∀ y, Touch W y (Two Kb Km) → Kept y m ao ac bo bc xs co cap r po pc c0 lo lc K1 K2 K3 K4 Km Kb K7 K8) :
    ∀ (f : Nat) {cs : List Int} {q : Addr} {qc : Nat} {y : World} {bm : List Int × Int} {b0 : Option Addr} {bcap : Nat} (_ : GInv m xs c0 cs c0) (_ : (leftL m xs c0 cs).length ≤ f) (_ : cs.length + f ≤ 10) (_ : Touch W y (Two Kb Km)) (_ : TB y Kb Km B0 bm b0 bcap) (_ : FreshAt W.heap.size y (some q) 1 cs.length (ic cs)) (_ : cs.length ≤ qc),
    Calls Try.prog 75 #[.slice (some q) cs.length qc, .pointer (some ⟨K1, 0, none⟩), .pointer (some ⟨K2, 0, none⟩), .pointer (some ⟨K3, 0, none⟩), .pointer (some ⟨K4, 0, none⟩), .pointer (some ⟨Km, 0, none⟩), .pointer (some ⟨Kb, 0, none⟩), .pointer (some ⟨K7, 0, none⟩), .pointer (some ⟨K8, 0, none⟩)] y (ResV Kb Km B0 y (visT m xs c0 (scT m xs r c0) f cs bm)) := by
  intro f
  induction f with
  | zero =>
    intro cs q qc y bm b0 bcap hi hf hl ht hb hq hqc
    refine impl_BestTour_1_at hc hru h0 hne hKb hKm hB0 HK hi hf hl ht hb hq hqc (fun k hk hh => ?_)
    obtain ⟨i, hin, e, hfr⟩ := left_at hk hh
    exact absurd (left_fewer hc hin hfr) (by omega)
  | succ f ih =>
    intro cs q qc y bm b0 bcap hi hf hl ht hb hq hqc
    refine impl_BestTour_1_at hc hru h0 hne hKb hKm hB0 HK hi hf hl ht hb hq hqc (fun k hk hh z g gc p b1 bc1 hz hbz hF hgc => ?_)
    obtain ⟨i, hin, e, hfr⟩ := left_at hk hh
    have h1 := left_fewer hc hin hfr
    have h2 := (hi.step hc hin hfr).base h0
    rw [e] at h1 h2
    exact ih h2 (by omega) (by rw [List.length_append, List.length_singleton]; omega) hz hbz hF hgc

theorem best_self (m : MapD) (xs : List Ctl) (c0 : Nat) (sc : List Int → Int) (f : Nat) (cs : List Int) : upd (cs, sc cs) (bestT m xs c0 sc f cs) = bestT m xs c0 sc f cs := by
  have e : upd (cs, sc cs) (cs, sc cs) = (cs, sc cs) := by unfold upd; split <;> rfl
  cases f with
  | zero => exact e
  | succ f =>
    rw [bestT, ← fold_upd, e]
theorem run_store_fn {P : Program} {w : World} (a : Addr) (m : Mode) (fn : Fn) (first captured : Array Value) : (store a (.func fn first captured) m).run P w = stored P w a (.func fn first captured) m := run_store P w a _ m rfl
attribute [local go_sem] run_store_fn
theorem RowAt.nil {w : World} {ao : Option Addr} {s : Nat} {c : Nat → Nat → Value} : RowAt w ao s 0 c := fun h => absurd h (by simp)

/-- what is handed back, with its capacity -/
def ResTI (w : World) (T : List Int × Int) (B : Bool) (e : Ending) (w' : World) : Prop := ∃ bo bc, e = .returned (.tuple #[.slice bo T.1.length bc, .int .i64 T.2, .bool B]) ∧ Ext w w' ∧ FreshAt w.heap.size w' bo 1 T.1.length (ic T.1) ∧ T.1.length ≤ bc

set_option maxRecDepth 100000 in
set_option maxHeartbeats 4000000 in
theorem impl_BestTourC {m : MapD} {ao bo : Option Addr} {ac bc : Nat} {xs : List Ctl} {co : Option Addr} {cap : Nat} {r : RuleD} {po : Option Addr} {pc : Nat} {center : Int} {w : World} (h : Site w m ao bo xs co cap) (hp : RowAt w po 1 r.pts.length (ic r.pts)) (hn : r.pts.length ≤ 9223372036854775807) (hnil : co = none → cap = 0) :
    Calls Try.prog 32 #[m.val ao ac bo bc, .slice co xs.length cap, r.val po pc, .int .i64 center] w (ResTI w (bsT m xs r center) (bsB m xs r center)) := by
  have hx0 : Ext w ((((w.alloc (.cells #[.int .i64 m.wid, .int .i64 m.hei, .slice ao m.rise.length ac, .slice bo m.cost.length bc] 30)).alloc (.cells #[.slice co xs.length cap] 32)).alloc (.cells #[.slice po r.pts.length pc, .int .i64 r.lim, .int .i64 r.pen] 43)).alloc (.cells #[.int .i64 center] 3)) := ((((Ext.refl w).alloc _).alloc _).alloc _).alloc _
  obtain ⟨d0, d1, d2, d3⟩ : BoxM ((((w.alloc (.cells #[.int .i64 m.wid, .int .i64 m.hei, .slice ao m.rise.length ac, .slice bo m.cost.length bc] 30)).alloc (.cells #[.slice co xs.length cap] 32)).alloc (.cells #[.slice po r.pts.length pc, .int .i64 r.lim, .int .i64 r.pen] 43)).alloc (.cells #[.int .i64 center] 3)) w.heap.size m ao ac bo bc := ⟨by go_simp, by go_simp, by go_simp, by go_simp⟩
  have l0 : ((((w.alloc (.cells #[.int .i64 m.wid, .int .i64 m.hei, .slice ao m.rise.length ac, .slice bo m.cost.length bc] 30)).alloc (.cells #[.slice co xs.length cap] 32)).alloc (.cells #[.slice po r.pts.length pc, .int .i64 r.lim, .int .i64 r.pen] 43)).alloc (.cells #[.int .i64 center] 3)).cell? ⟨w.heap.size + 1, 0, none⟩ = some (.slice co xs.length cap) := by go_simp
  have r0 : ((((w.alloc (.cells #[.int .i64 m.wid, .int .i64 m.hei, .slice ao m.rise.length ac, .slice bo m.cost.length bc] 30)).alloc (.cells #[.slice co xs.length cap] 32)).alloc (.cells #[.slice po r.pts.length pc, .int .i64 r.lim, .int .i64 r.pen] 43)).alloc (.cells #[.int .i64 center] 3)).cell? ⟨w.heap.size + 1 + 1, 0, none⟩ = some (.slice po r.pts.length pc) := by go_simp
  have r1 : ((((w.alloc (.cells #[.int .i64 m.wid, .int .i64 m.hei, .slice ao m.rise.length ac, .slice bo m.cost.length bc] 30)).alloc (.cells #[.slice co xs.length cap] 32)).alloc (.cells #[.slice po r.pts.length pc, .int .i64 r.lim, .int .i64 r.pen] 43)).alloc (.cells #[.int .i64 center] 3)).cell? ⟨w.heap.size + 1 + 1, 1, none⟩ = some (.int .i64 r.lim) := by go_simp
  have r2 : ((((w.alloc (.cells #[.int .i64 m.wid, .int .i64 m.hei, .slice ao m.rise.length ac, .slice bo m.cost.length bc] 30)).alloc (.cells #[.slice co xs.length cap] 32)).alloc (.cells #[.slice po r.pts.length pc, .int .i64 r.lim, .int .i64 r.pen] 43)).alloc (.cells #[.int .i64 center] 3)).cell? ⟨w.heap.size + 1 + 1, 2, none⟩ = some (.int .i64 r.pen) := by go_simp
  have ce : ((((w.alloc (.cells #[.int .i64 m.wid, .int .i64 m.hei, .slice ao m.rise.length ac, .slice bo m.cost.length bc] 30)).alloc (.cells #[.slice co xs.length cap] 32)).alloc (.cells #[.slice po r.pts.length pc, .int .i64 r.lim, .int .i64 r.pen] 43)).alloc (.cells #[.int .i64 center] 3)).cell? ⟨w.heap.size + 1 + 1 + 1, 0, none⟩ = some (.int .i64 center) := by go_simp
  have HA := Lib.hid (fun y (hx : Ext w y) => impl_IsScoreRule (w := y) (ac := ac) (bc := bc) (cap := cap) (pc := pc) (h.ext hx) (hp.ext hx) hn)
  have HO := Lib.hid (fun y (hx : Ext w y) => impl_isOpen (w := y) (ac := ac) (bc := bc) (x := center) (h.rise.ext hx) (h.cost.ext hx) h.n1 h.n2)
  have HBF : Hid (bsB m xs r center = (ruleB m xs r && openB m center && decide (xs.length ≤ 5))) := Lib.hid rfl
  have HTF : Hid (bsT m xs r center = if bsB m xs r center then bestT m xs center.toNat (scT m xs r center.toNat) 5 [] else ([], 0)) := Lib.hid rfl
  have HSITE := Lib.hid h; have HPOI := Lib.hid hp
  unfold MapD.val at HA HO ⊢
  unfold RuleD.val at HA ⊢
  cases ha : ruleB m xs r
  · have HB : Hid (bsB m xs r center = false) := Lib.hid (by rw [HBF.out, ha]; rfl)
    have HT : Hid (bsT m xs r center = ([], 0)) := Lib.hid (by rw [HTF.out, HB.out]; rfl)
    rw [ha] at HA
    clear ha h hp hnil
    go_enter Try.func32, Try.ntmps32
    go_wp2_with fail
    refine (HA.out _ hx0).mono ?_; rintro e w1 ⟨rfl, hx1⟩
    have HX1 := Lib.hid (hx0.trans hx1)
    clear hx1 hx0 HA d0 d1 d2 d3 l0 r0 r1 r2 ce
    go_wp2
    go_ret3
    rw [HT.out, HB.out]
    exact ⟨none, 0, rfl, HX1.out, FreshAt.none1, Nat.le_refl _⟩
  · rw [ha] at HA
    have hc := rule_ctls ha
    have hm := (ctls_map hc).1
    have h10 := (ctls_map hc).2
    cases hb : openB m center
    · have HB : Hid (bsB m xs r center = false) := Lib.hid (by rw [HBF.out, hb, Bool.and_false]; rfl)
      have HT : Hid (bsT m xs r center = ([], 0)) := Lib.hid (by rw [HTF.out, HB.out]; rfl)
      rw [hb] at HO
      clear ha hb h hp hnil
      go_enter Try.func32, Try.ntmps32
      go_wp2_with fail
      refine (HA.out _ hx0).mono ?_; rintro e w1 ⟨rfl, hx1⟩
      have HX1 := Lib.hid (hx0.trans hx1)
      have d0 := hx1.cells d0
      have d1 := hx1.cells d1
      have d2 := hx1.cells d2
      have d3 := hx1.cells d3
      have l0 := hx1.cells l0
      have r0 := hx1.cells r0
      have r1 := hx1.cells r1
      have r2 := hx1.cells r2
      have ce := hx1.cells ce
      clear hx1 hx0 HA
      go_wp2_with fail
      refine (HO.out _ HX1.out).mono ?_; rintro e w2 ⟨rfl, hx2⟩
      have HX2 := Lib.hid (HX1.out.trans hx2)
      clear hx2 HO d0 d1 d2 d3 l0 r0 r1 r2 ce
      go_wp2
      go_ret3
      rw [HT.out, HB.out]
      exact ⟨none, 0, rfl, HX2.out, FreshAt.none1, Nat.le_refl _⟩
    · obtain ⟨c0, ec, hc0⟩ := open_nat hb
      subst ec
      rw [hb] at HO
      by_cases h5 : xs.length ≤ 5
      · have HB : Hid (bsB m xs r c0 = true) := Lib.hid (by rw [HBF.out, ha, hb, decide_eq_true h5]; rfl)
        have HT : Hid (bsT m xs r c0 = bestT m xs c0 (scT m xs r c0) 5 []) := Lib.hid (by rw [HTF.out, HB.out, Int.toNat_natCast]; rfl)
        have h5i : ¬ (5 : Int) < (xs.length : Int) := by omega
        have hrl := rule_len ha
        have HCR := Lib.hid (fun y (hx : Ext w y) => impl_canReach (w := y) (ac := ac) (bc := bc) (cap := cap) (h.ext hx) hc hnil hc0)
        have HSF := Lib.hid (fun y (hx : Ext w y) => show Calls Try.prog 60 #[.slice co xs.length cap, r.val po pc, .slice none 0 0, .int .i64 0] y _ from impl_scoreFor (w := y) (cap := cap) (pc := pc) (ao := none) (ac := 0) (cs := []) (t := 0) (h.ctls.ext hx) hrl.2.1 (hp.ext hx) hrl.1 hrl.2.2.1 hrl.2.2.2.1 hrl.2.2.2.2 RowAt.nil (by decide) (Int.le_refl _) (by decide))
        rw [score_none ha] at HSF
        have HRU := Lib.hid ha; have HCT := Lib.hid hc; have HC0 := Lib.hid hc0; have H5 := Lib.hid h5
        unfold MapD.val at HCR
        unfold RuleD.val at HSF
        clear ha hb h hp h5 hrl hnil
        go_enter Try.func32, Try.ntmps32
        go_wp2_with fail
        refine (HA.out _ hx0).mono ?_; rintro e w1 ⟨rfl, hx1⟩
        have HX1 := Lib.hid (hx0.trans hx1)
        have d0 := hx1.cells d0
        have d1 := hx1.cells d1
        have d2 := hx1.cells d2
        have d3 := hx1.cells d3
        have l0 := hx1.cells l0
        have r0 := hx1.cells r0
        have r1 := hx1.cells r1
        have r2 := hx1.cells r2
        have ce := hx1.cells ce
        clear hx1 hx0 HA
        go_wp2_with fail
        refine (HO.out _ HX1.out).mono ?_; rintro e w2 ⟨rfl, hx2⟩
        have HX2 := Lib.hid (HX1.out.trans hx2)
        have d0 := hx2.cells d0
        have d1 := hx2.cells d1
        have d2 := hx2.cells d2
        have d3 := hx2.cells d3
        have l0 := hx2.cells l0
        have r0 := hx2.cells r0
        have r1 := hx2.cells r1
        have r2 := hx2.cells r2
        have ce := hx2.cells ce
        clear hx2 HO
        go_wp2_with fail
        refine (HCR.out _ HX2.out).mono ?_; rintro e w3 ⟨lo, lc, rfl, hx3, hlo⟩
        have HX3 := Lib.hid (HX2.out.trans hx3)
        have d0 := hx3.cells d0
        have d1 := hx3.cells d1
        have d2 := hx3.cells d2
        have d3 := hx3.cells d3
        have l0 := hx3.cells l0
        have r0 := hx3.cells r0
        have r1 := hx3.cells r1
        have r2 := hx3.cells r2
        have ce := hx3.cells ce
        have HLO := Lib.hid hlo
        have hs3 := World.block_lt_of_cell? _ _ ce
        simp only at hs3
        have hs3d0 := World.block_lt_of_cell? _ _ d0
        simp only at hs3d0
        have hs3l0 := World.block_lt_of_cell? _ _ l0
        simp only at hs3l0
        have hs3r0 := World.block_lt_of_cell? _ _ r0
        simp only at hs3r0
        clear hx3 hlo HCR
        go_wp2_with fail
        refine (HSF.out _ ((HX3.out.alloc _).alloc _)).mono ?_; rintro e w5 ⟨rfl, hx5⟩
        have hxb : Ext w3 w5 := (((Ext.refl w3).alloc _).alloc _).trans hx5
        have hle : w5.cell? ⟨w3.heap.size, 0, none⟩ = some (.slice lo (leftL m xs c0 []).length lc) := hx5.cells (by go_simp)
        have hF5 := FreshAt.empty (s := 1) (c := ic []) hx5
        rw [World.size_alloc] at hF5
        have HX5 := Lib.hid (HX3.out.trans hxb)
        have d0 := hxb.cells d0
        have d1 := hxb.cells d1
        have d2 := hxb.cells d2
        have d3 := hxb.cells d3
        have l0 := hxb.cells l0
        have r0 := hxb.cells r0
        have r1 := hxb.cells r1
        have r2 := hxb.cells r2
        have ce := hxb.cells ce
        have HXB := Lib.hid hxb; have HLE := Lib.hid hle; have HF5 := Lib.hid hF5
        have hs5 := World.block_lt_of_cell? _ _ ce
        simp only at hs5
        have hs5d0 := World.block_lt_of_cell? _ _ d0
        simp only at hs5d0
        have hs5l0 := World.block_lt_of_cell? _ _ l0
        simp only at hs5l0
        have hs5r0 := World.block_lt_of_cell? _ _ r0
        simp only at hs5r0
        have hs5e := World.block_lt_of_cell? _ _ hle
        simp only at hs5e
        clear hx5 hxb hF5 HSF
        have b0 : (((w5.alloc (.cells #[.slice (some ⟨w3.heap.size + 1, 0, none⟩) 0 0] 22)).alloc (.cells #[.int .i64 0] 3)).alloc (.cells #[.nilFunc] 93)).cell? ⟨w5.heap.size, 0, none⟩ = some (.slice (some ⟨w3.heap.size + 1, 0, none⟩) 0 0) := by go_simp
        have b1 : (((w5.alloc (.cells #[.slice (some ⟨w3.heap.size + 1, 0, none⟩) 0 0] 22)).alloc (.cells #[.int .i64 0] 3)).alloc (.cells #[.nilFunc] 93)).cell? ⟨w5.heap.size + 1, 0, none⟩ = some (.int .i64 0) := by go_simp
        have b2 : (((w5.alloc (.cells #[.slice (some ⟨w3.heap.size + 1, 0, none⟩) 0 0] 22)).alloc (.cells #[.int .i64 0] 3)).alloc (.cells #[.nilFunc] 93)).cell? ⟨w5.heap.size + 1 + 1, 0, none⟩ = some .nilFunc := by go_simp
        have f0 : (((w5.alloc (.cells #[.slice (some ⟨w3.heap.size + 1, 0, none⟩) 0 0] 22)).alloc (.cells #[.int .i64 0] 3)).alloc (.cells #[.nilFunc] 93)).frozen? ⟨w5.heap.size, 0, none⟩ = false := by go_simp
        have f1 : (((w5.alloc (.cells #[.slice (some ⟨w3.heap.size + 1, 0, none⟩) 0 0] 22)).alloc (.cells #[.int .i64 0] 3)).alloc (.cells #[.nilFunc] 93)).frozen? ⟨w5.heap.size + 1, 0, none⟩ = false := by go_simp
        have f2 : (((w5.alloc (.cells #[.slice (some ⟨w3.heap.size + 1, 0, none⟩) 0 0] 22)).alloc (.cells #[.int .i64 0] 3)).alloc (.cells #[.nilFunc] 93)).frozen? ⟨w5.heap.size + 1 + 1, 0, none⟩ = false := by go_simp
        have hxe : Ext w5 (((w5.alloc (.cells #[.slice (some ⟨w3.heap.size + 1, 0, none⟩) 0 0] 22)).alloc (.cells #[.int .i64 0] 3)).alloc (.cells #[.nilFunc] 93)) := (((Ext.refl w5).alloc _).alloc _).alloc _
        have hsz : (((w5.alloc (.cells #[.slice (some ⟨w3.heap.size + 1, 0, none⟩) 0 0] 22)).alloc (.cells #[.int .i64 0] 3)).alloc (.cells #[.nilFunc] 93)).heap.size = w5.heap.size + 1 + 1 + 1 := by simp
        go_upto_region 6 with fail
        generalize (((w5.alloc (.cells #[.slice (some ⟨w3.heap.size + 1, 0, none⟩) 0 0] 22)).alloc (.cells #[.int .i64 0] 3)).alloc (.cells #[.nilFunc] 93)) = V at *
        obtain ⟨fv, hfv⟩ : ∃ fv : Value, fv = .func (.func 75) #[] #[.pointer (some ⟨w.heap.size + 1, 0, none⟩), .pointer (some ⟨w.heap.size + 1 + 1, 0, none⟩), .pointer (some ⟨w.heap.size, 0, none⟩), .pointer (some ⟨w.heap.size + 1 + 1 + 1, 0, none⟩), .pointer (some ⟨w5.heap.size + 1, 0, none⟩), .pointer (some ⟨w5.heap.size, 0, none⟩), .pointer (some ⟨w3.heap.size, 0, none⟩), .pointer (some ⟨w5.heap.size + 1 + 1, 0, none⟩)] := ⟨_, rfl⟩
        have hWx : Ext w5 (V.setCell ⟨w5.heap.size + 1 + 1, 0, none⟩ fv) := hxe.setCell (by show w5.heap.size ≤ w5.heap.size + 1 + 1; omega) _
        have hWs : (V.setCell ⟨w5.heap.size + 1 + 1, 0, none⟩ fv).heap.size = w5.heap.size + 1 + 1 + 1 := by rw [← hsz]; simp [World.setCell]
        have c0' : (V.setCell ⟨w5.heap.size + 1 + 1, 0, none⟩ fv).cell? ⟨w5.heap.size, 0, none⟩ = some (.slice (some ⟨w3.heap.size + 1, 0, none⟩) 0 0) := (World.cell?_setCell_other _ _ _ _ (fun e => by injection e with e; omega)).trans b0
        have c1' : (V.setCell ⟨w5.heap.size + 1 + 1, 0, none⟩ fv).cell? ⟨w5.heap.size + 1, 0, none⟩ = some (.int .i64 0) := (World.cell?_setCell_other _ _ _ _ (fun e => by injection e with e; omega)).trans b1
        have c2' : (V.setCell ⟨w5.heap.size + 1 + 1, 0, none⟩ fv).cell? ⟨w5.heap.size + 1 + 1, 0, none⟩ = some fv := World.cell?_setCell_same _ _ _ b2
        have g0' : (V.setCell ⟨w5.heap.size + 1 + 1, 0, none⟩ fv).frozen? ⟨w5.heap.size, 0, none⟩ = false := by rw [World.frozen?_setCell]; exact f0
        have g1' : (V.setCell ⟨w5.heap.size + 1 + 1, 0, none⟩ fv).frozen? ⟨w5.heap.size + 1, 0, none⟩ = false := by rw [World.frozen?_setCell]; exact f1
        have hvl : w5.heap.size + 1 + 1 < V.heap.size := by omega
        have HF := Lib.hid hfv
        rw [hfv] at hWx hWs c0' c1' c2' g0' g1'
        clear hfv
        go_upto_region 7 with fail
        generalize V.setCell ⟨w5.heap.size + 1 + 1, 0, none⟩ (.func (.func 75) #[] #[.pointer (some ⟨w.heap.size + 1, 0, none⟩), .pointer (some ⟨w.heap.size + 1 + 1, 0, none⟩), .pointer (some ⟨w.heap.size, 0, none⟩), .pointer (some ⟨w.heap.size + 1 + 1 + 1, 0, none⟩), .pointer (some ⟨w5.heap.size + 1, 0, none⟩), .pointer (some ⟨w5.heap.size, 0, none⟩), .pointer (some ⟨w3.heap.size, 0, none⟩), .pointer (some ⟨w5.heap.size + 1 + 1, 0, none⟩)]) = W at *
        clear b0 b1 b2 f0 f1 f2 hxe hsz hvl HF
        have HWX := Lib.hid hWx; have HWS := Lib.hid hWs
        have hS : ∀ k, Two w5.heap.size (w5.heap.size + 1) k → w5.heap.size ≤ k := fun k hk => by rcases hk with hk | hk <;> omega
        have HXY := Lib.hid (fun y (ht : Touch W y (Two w5.heap.size (w5.heap.size + 1))) => Touch.ext HWX.out ht hS)
        have HKT := Lib.hid (show ∀ y, Touch W y (Two w5.heap.size (w5.heap.size + 1)) → Kept y m ao ac bo bc xs co cap r po pc c0 lo lc (w.heap.size + 1) (w.heap.size + 1 + 1) w.heap.size (w.heap.size + 1 + 1 + 1) (w5.heap.size + 1) w5.heap.size w3.heap.size (w5.heap.size + 1 + 1) from fun y ht => by
          have hx := HXY.out y ht
          refine ⟨HSITE.out.ext (HX5.out.trans hx), HPOI.out.ext (HX5.out.trans hx), hx.cells l0, hx.cells r0, hx.cells r1, hx.cells r2, ⟨hx.cells d0, hx.cells d1, hx.cells d2, hx.cells d3⟩, hx.cells ce, hx.cells HLE.out, ?_, (ht.cell (b := w5.heap.size + 1 + 1) (o := 0) (by have := HWS.out; omega) (fun hk => by rcases hk with hk | hk <;> omega)).trans c2'⟩
          rcases HLO.out with ⟨_, _, hz⟩ | ⟨g, e, _, _, hF⟩
          · exact fun h => by omega
          · rw [e]; exact (hF.row.ext HXB.out).ext hx)
        have hb5 := HF5.out.base _ rfl
        simp only at hb5
        have HTB := Lib.hid (show ∀ y, Ext W y → TB y w5.heap.size (w5.heap.size + 1) w.heap.size ([], 0) (some ⟨w3.heap.size + 1, 0, none⟩) 0 from fun y hy =>
          TB.ext (w := W) ⟨c0', c1', g0', g1', (HF5.out.ext HWX.out).low (by omega), fun a e => by injection e with e; subst e; exact ⟨by show w3.heap.size + 1 ≠ w5.heap.size; omega, by show w3.heap.size + 1 ≠ w5.heap.size + 1; omega⟩, Nat.zero_le _, Nat.le_refl _⟩ hy)
        have hwl : w.heap.size ≤ W.heap.size := by have := HWS.out; omega
        have HCL := Lib.hid (fun y (hy : Ext W y) qc (hF : FreshAt W.heap.size y (some ⟨W.heap.size, 0, none⟩) 1 0 (ic [])) => show Calls Try.prog 75 (#[.slice (some ⟨W.heap.size, 0, none⟩) 0 qc] ++ #[.pointer (some ⟨w.heap.size + 1, 0, none⟩), .pointer (some ⟨w.heap.size + 1 + 1, 0, none⟩), .pointer (some ⟨w.heap.size, 0, none⟩), .pointer (some ⟨w.heap.size + 1 + 1 + 1, 0, none⟩), .pointer (some ⟨w5.heap.size + 1, 0, none⟩), .pointer (some ⟨w5.heap.size, 0, none⟩), .pointer (some ⟨w3.heap.size, 0, none⟩), .pointer (some ⟨w5.heap.size + 1 + 1, 0, none⟩)]) y _ from impl_BestTour_1 (bm := ([], 0)) (cs := []) HCT.out HRU.out HC0.out (show w5.heap.size ≠ w5.heap.size + 1 by omega) (by have := HWS.out; omega) (by have := HWS.out; omega) hwl HKT.out 5 (.start HC0.out) (Nat.le_trans left_len H5.out) (by decide) (Touch.of_ext hy) (HTB.out y hy) hF (Nat.zero_le _))
        have HVB : Hid (visT m xs c0 (scT m xs r c0) 5 [] ([], 0) = bsT m xs r c0) := Lib.hid (by
          have e : scT m xs r c0 [] = 0 := by unfold scT; rw [way_none (ctls_map HCT.out).1 HC0.out, score_none HRU.out]
          have e2 := best_self m xs c0 (scT m xs r c0) 5 []
          rw [e] at e2
          rw [vis_best, HT.out, e2])
        rw [HVB.out] at HCL
        clear d0 d1 d2 d3 l0 r0 r1 r2 ce hWx hWs c0' c1' g0' g1' hS hb5
        go_wp2_with fail
        refine (HCL.out _ ((Ext.refl _).alloc _) _ (FreshAt.empty (Ext.refl _))).mono ?_; rintro e w7 ⟨rfl, ht7, b7, c7, hB7⟩
        have HX7 := Lib.hid (HX5.out.trans (HXY.out w7 (((Touch.of_ext ((Ext.refl _).alloc _))).trans ht7)))
        have HF7 := Lib.hid hB7.row; have HC7 := Lib.hid hB7.cap
        have q0 := hB7.b
        have q1 := hB7.s
        have e0 := Grow.cells q0
        have e1 := Grow.cells q1
        clear ht7 hB7 HCL c2'
        go_wp2
        refine wp_region_ext (by kernel_rfl) (by kernel_rfl) ?_
        repeat (go_big_quiet_step (fail))
        refine wpQuiet_nil ?_
        rintro _ ⟨⟨w1, hx1⟩, rfl⟩
        clear e0 e1 q0 q1
        rename World => w8
        have HX8 := Lib.hid (HX7.out.trans hx1)
        have HF8 := Lib.hid (HF7.out.ext hx1)
        clear hx1
        go_wp2
        go_ret3
        rw [HB.out]
        exact ⟨b7, c7, rfl, HX8.out, HF8.out, HC7.out⟩
      · have HB : Hid (bsB m xs r c0 = false) := Lib.hid (by rw [HBF.out, decide_eq_false h5, Bool.and_false])
        have HT : Hid (bsT m xs r c0 = ([], 0)) := Lib.hid (by rw [HTF.out, HB.out]; rfl)
        have h5i : (5 : Int) < (xs.length : Int) := by omega
        clear ha hb h hp h5 hnil
        go_enter Try.func32, Try.ntmps32
        go_wp2_with fail
        refine (HA.out _ hx0).mono ?_; rintro e w1 ⟨rfl, hx1⟩
        have HX1 := Lib.hid (hx0.trans hx1)
        have d0 := hx1.cells d0
        have d1 := hx1.cells d1
        have d2 := hx1.cells d2
        have d3 := hx1.cells d3
        have l0 := hx1.cells l0
        have r0 := hx1.cells r0
        have r1 := hx1.cells r1
        have r2 := hx1.cells r2
        have ce := hx1.cells ce
        clear hx1 hx0 HA
        go_wp2_with fail
        refine (HO.out _ HX1.out).mono ?_; rintro e w2 ⟨rfl, hx2⟩
        have HX2 := Lib.hid (HX1.out.trans hx2)
        have d0 := hx2.cells d0
        have d1 := hx2.cells d1
        have d2 := hx2.cells d2
        have d3 := hx2.cells d3
        have l0 := hx2.cells l0
        have r0 := hx2.cells r0
        have r1 := hx2.cells r1
        have r2 := hx2.cells r2
        have ce := hx2.cells ce
        clear hx2 HO
        go_wp2
        go_ret3
        rw [HT.out, HB.out]
        exact ⟨none, 0, rfl, HX2.out, FreshAt.none1, Nat.le_refl _⟩

theorem impl_BestTour {m : MapD} {ao bo : Option Addr} {ac bc : Nat} {xs : List Ctl} {co : Option Addr} {cap : Nat} {r : RuleD} {po : Option Addr} {pc : Nat} {center : Int} {w : World} (h : Site w m ao bo xs co cap) (hp : RowAt w po 1 r.pts.length (ic r.pts)) (hn : r.pts.length ≤ 9223372036854775807) (hnil : co = none → cap = 0) :
    Calls Try.prog 32 #[m.val ao ac bo bc, .slice co xs.length cap, r.val po pc, .int .i64 center] w (ResT w (bsT m xs r center) (bsB m xs r center)) :=
  (impl_BestTourC h hp hn hnil).mono fun _ _ ⟨b, c, e, hx, hF, _⟩ => ⟨b, c, e, hx, hF⟩


end Go.Proofs.Ytidcfohlhamgmaa
