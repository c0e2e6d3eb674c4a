/-
  Proved here: what corrected returns: the punches of a card, the times of those with a code being the true ones.
  Conditions: the card and the marks are valid.
-/
import Derived.Test.YtfbmablfolknpaaClocks5
import Derived.Test.YtfbmablfolknpaaCards1
import Derived.Test.YtfbmablfolknpaaApart
namespace Go.Proofs.Ytfbmablfolknpaa
open Go.RowKit

def corP (ms : List Mark) (code : Int) (p : Pch) : Pch := if p.code = code then ⟨p.code, trueT ms p.time⟩ else p
/-- the corrected punches among the first -/
def corL (c : CardD) (code : Int) (ms : List Mark) : Nat → List Pch
  | 0 => []
  | k + 1 => corL c code ms k ++ [corP ms code (nth c.ps k)]
/-- the corrected times among the first are times -/
def corOk (c : CardD) (code : Int) (ms : List Mark) : Nat → Bool
  | 0 => true
  | k + 1 => if (nth c.ps k).code = code then corOk c code ms k && inB (trueT ms (nth c.ps k).time) 0 36000 else corOk c code ms k
theorem corL_len (c : CardD) (code : Int) (ms : List Mark) (k : Nat) : (corL c code ms k).length = k := by
  induction k with
  | zero => rfl
  | succ k ih => rw [corL]; simp [ih]
theorem nth_last {α : Type} [Inhabited α] (xs : List α) (x : α) : nth (xs ++ [x]) xs.length = x := by simp [nth, List.getD]
theorem nth_init {α : Type} [Inhabited α] {xs ys : List α} {k : Nat} (h : k < xs.length) : nth (xs ++ ys) k = nth xs k := by simp only [nth, List.getD]; rw [List.getElem?_append_left h]
theorem corL_nth (c : CardD) (code : Int) (ms : List Mark) {n k : Nat} (h : k < n) : nth (corL c code ms n) k = corP ms code (nth c.ps k) := by
  induction n with
  | zero => omega
  | succ n ih =>
    rw [corL]
    by_cases e : k = n
    · subst e
      have := nth_last (corL c code ms k) (corP ms code (nth c.ps k))
      rwa [corL_len] at this
    · rw [nth_init (by rw [corL_len]; omega)]
      exact ih (by omega)
theorem card_punch {c : CardD} (h : cardB c = true) {q : Nat} (hq : q < c.ps.length) : 0 ≤ (nth c.ps q).time ∧ (nth c.ps q).time ≤ 36000 := by
  simp only [cardB, Bool.and_eq_true] at h
  have := upto_true.1 h.2 q hq
  simp only [okPunch, Bool.and_eq_true, inB_iff] at this
  exact this.1.1.2
theorem card_len {c : CardD} (h : cardB c = true) : c.ps.length ≤ 12 := by
  simp only [cardB, headB, Bool.and_eq_true, decide_eq_true_eq] at h
  exact h.1.2
theorem pch_one : ∀ (x : Pch) (j : Nat), j < 2 → (x.c j).oneCell' = true := by
  intro x j hj
  match j, hj with
  | 0, _ => rfl
  | 1, _ => rfl

set_option maxRecDepth 100000 in
set_option maxHeartbeats 2000000 in
theorem impl_corrected {c : CardD} {ao : Option Addr} {cap : Nat} {code : Int} {ms : List Mark} {mo : Option Addr} {mcap : Nat} {w : World} (h : RowAt w ao 2 c.ps.length (fun k => (nth c.ps k).c)) (hc : cardB c = true)
    (h' : RowAt w mo 2 ms.length (fun k => (nth ms k).c)) (hm : marksB ms = true) :
    Calls Try.prog 60 #[c.val ao cap, .int .i64 code, .slice mo ms.length mcap] w fun e w' => ∃ go gc, e = .returned (.tuple #[.slice go (corL c code ms c.ps.length).length gc, .bool (corOk c code ms c.ps.length)]) ∧ Ext w w' ∧ FreshAt w.heap.size w' go 2 (corL c code ms c.ps.length).length (fun k => (nth (corL c code ms c.ps.length) k).c) := by
  obtain ⟨i0, hi, hz0, hz1, hz2⟩ := info_parts infoPch
  have hx0 : Ext w (w.alloc (Obj.cells #[.int .i64 c.number, .int .i64 c.start, .int .i64 c.finish, .slice ao c.ps.length cap] 41)) := (Ext.refl _).alloc _
  have hlen12 := card_len hc
  have htms := fun k hk => card_punch hc (q := k) hk
  have hwl : (w.alloc (Obj.cells #[.int .i64 c.number, .int .i64 c.start, .int .i64 c.finish, .slice ao c.ps.length cap] 41)).heap.size = w.heap.size + 1 := by simp
  have hown0 := Owns.start (α := Pch) (e := 69) (s := 2) (cc := Pch.c) (Ext.refl (w.alloc (Obj.cells #[.int .i64 c.number, .int .i64 c.start, .int .i64 c.finish, .slice ao c.ps.length cap] 41)))
  rw [hwl] at hown0
  have HTM := Lib.hid htms; clear htms
  have HC := Lib.hid hc; clear hc
  unfold CardD.val
  go_enter Try.func60, Try.ntmps60
  go_wp2
  generalize hwb : w.alloc (Obj.cells #[.int .i64 c.number, .int .i64 c.start, .int .i64 c.finish, .slice ao c.ps.length cap] 41) = wb at hx0 hwl hown0 ⊢
  clear hwb
  rw [← hwl] at hown0 ⊢
  clear hwl
  go_loopw [8, 9, 16] (fun out ok i wr => ∃ k : Nat, k ≤ c.ps.length ∧ i = .int .i64 k ∧ ok = .bool (corOk c code ms k) ∧ Ext wb wr ∧ Owns wr wb.heap.size 69 2 Pch.c out (corL c code ms k)) (fun _ _ i _ => c.ps.length - (intOf i).toNat)
  case atStart => exact ⟨0, by omega, rfl, rfl, (by repeat (first | (with_reducible exact Ext.refl _) | (with_reducible assumption) | with_reducible refine Ext.drew ?_ | with_reducible refine Ext.alloc ?_ _ | with_reducible refine Ext.setCell ?_ (by first | (simp; done) | (simp; omega) | omega) _ | with_reducible refine Ext.trans ?_ (by with_reducible assumption))), hown0⟩
  case round =>
    clear hown0
    obtain ⟨k, hk, rfl, rfl, hx, hown⟩ := hrel
    have hlen := corL_len c code ms k
    have hlen' : (corL c code ms k).length ≤ 12 := by omega
    clear hlen
    have hws := hx.size
    by_cases hlt : k < c.ps.length
    · have htm := HTM.out k hlt
      obtain ⟨b, off, rfl, hcell⟩ := h (by omega)
      have d0 := hx.cells (hx0.cells (hcell k hlt 0 (by decide)))
      have d1 := hx.cells (hx0.cells (hcell k hlt 1 (by decide)))
      simp only [Pch.c0, Pch.c1, Nat.add_zero] at d0 d1
      have HT := fun x hx => impl_trueTime (w := x) (cap := mcap) (h'.ext hx) hm htm
      clear hcell h h'
      by_cases hcd : (nth c.ps k).code = code
      · have hcd' : ((nth c.ps k).code == code) = true := by simpa using hcd
        have hnx : corL c code ms (k + 1) = corL c code ms k ++ [⟨(nth c.ps k).code, trueT ms (nth c.ps k).time⟩] := by rw [corL, corP, if_pos hcd]
        have hnk : corOk c code ms (k + 1) = (corOk c code ms k && inB (trueT ms (nth c.ps k).time) 0 36000) := by rw [corOk, if_pos hcd]
        have HN := Lib.hid hnx; clear hnx hcd
        have hrow2 := fun x => row_lit (w := x) (cs := #[.int .i64 (nth c.ps k).code, .int .i64 (trueT ms (nth c.ps k).time)]) (T := 69) (s := 2) (cc := Pch.c) (x := ⟨(nth c.ps k).code, trueT ms (nth c.ps k).time⟩) (by intro j hj; match j, hj with | 0, _ => rfl | 1, _ => rfl)
        cases hok : corOk c code ms k
        all_goals
          rw [hok] at hnk
          have HNK := Lib.hid hnk; clear hnk hok
          go_wp2_with fail
          refine (HT _ (by repeat (first | (with_reducible exact Ext.refl _) | (with_reducible assumption) | with_reducible refine Ext.drew ?_ | with_reducible refine Ext.alloc ?_ _ | with_reducible refine Ext.setCell ?_ (by first | (simp; done) | (simp; omega) | omega) _ | with_reducible refine Ext.trans ?_ (by with_reducible assumption)))).mono ?_; rintro e w1 ⟨rfl, hx1⟩
          have g0 : w1.cell? ⟨wr.heap.size, 0, none⟩ = some (.int .i64 (nth c.ps k).code) := hx1.cells (by go_simp)
          have g1 : w1.cell? ⟨wr.heap.size, 1, none⟩ = some (.int .i64 (nth c.ps k).time) := hx1.cells (by go_simp)
          have f1 : w1.frozen? ⟨wr.heap.size, 1, none⟩ = false := (hx1.frozenr _ _ (by simp)).trans (by go_simp)
          have gl := World.block_lt_of_cell? _ _ g0
          have hown2 : Owns (w1.setCell ⟨wr.heap.size, 1, none⟩ (.int .i64 (trueT ms (nth c.ps k).time))) wb.heap.size 69 2 Pch.c _ (corL c code ms k) := hown.kept (by repeat (first | (with_reducible exact Ext.refl _) | (with_reducible assumption) | with_reducible refine Ext.drew ?_ | with_reducible refine Ext.alloc ?_ _ | with_reducible refine Ext.setCell ?_ (by first | (simp; done) | (simp; omega) | omega) _ | with_reducible refine Ext.trans ?_ (by with_reducible assumption)))
          have hxw : Ext wb (w1.setCell ⟨wr.heap.size, 1, none⟩ (.int .i64 (trueT ms (nth c.ps k).time))) := (by repeat (first | (with_reducible exact Ext.refl _) | (with_reducible assumption) | with_reducible refine Ext.drew ?_ | with_reducible refine Ext.alloc ?_ _ | with_reducible refine Ext.setCell ?_ (by first | (simp; done) | (simp; omega) | omega) _ | with_reducible refine Ext.trans ?_ (by with_reducible assumption)))
          have hrow3 := hrow2 (w1.setCell ⟨wr.heap.size, 1, none⟩ (.int .i64 (trueT ms (nth c.ps k).time)))
          rw [show (w1.setCell ⟨wr.heap.size, 1, none⟩ (.int .i64 (trueT ms (nth c.ps k).time))).heap.size = w1.heap.size by simp [World.setCell]] at hrow3
          clear hrow2
          go_wp2_with (first | (go_at_call 66; refine (impl_isTime).mono ?_; rintro e w1 ⟨rfl, rfl⟩) | (at_builtin; refine wpList_append_rows rfl _ _ 39 rfl wb 69 i0 _ 2 16 Try.underlying39 hi hz0 hz1 hz2 rfl (by decide) Pch.c pch_one _ (corL c code ms k) [⟨(nth c.ps k).code, trueT ms (nth c.ps k).time⟩] rfl (hown2.kept ((Ext.refl _).alloc _)) (some ⟨w1.heap.size, 0, none⟩) 1 1 rfl rfl (fun h => by cases h) hrow3 (by simp; omega) (by simp; omega) (hxw.alloc _) ?_; intro v1 w3 ho1 hx3))
          rw [← HN.out] at ho1
          go_wp2
          go_roundw
          case rel => first
            | exact ⟨k + 1, by omega, by go_num, by rw [HNK.out] <;> simp, hx3, ho1⟩
            | ((repeat apply Exists.intro); refine ⟨?_, rfl⟩; exact ⟨k + 1, by omega, by go_num, by rw [HNK.out] <;> simp, hx3, ho1⟩)
          case measure => simp [intOf]; omega
      · have hcd' : ((nth c.ps k).code == code) = false := by simpa using hcd
        have hnx : corL c code ms (k + 1) = corL c code ms k ++ [nth c.ps k] := by rw [corL, corP, if_neg hcd]
        have hnk : corOk c code ms (k + 1) = corOk c code ms k := by rw [corOk, if_neg hcd]
        have HN := Lib.hid hnx; clear hnx hcd
        have HNK := Lib.hid hnk; clear hnk
        have hrow2 := fun x => row_lit (w := x) (cs := #[.int .i64 (nth c.ps k).code, .int .i64 (nth c.ps k).time]) (T := 69) (s := 2) (cc := Pch.c) (x := nth c.ps k) (by intro j hj; match j, hj with | 0, _ => rfl | 1, _ => rfl)
        have hown2 := fun o => hown.kept ((Ext.refl wr).alloc o)
        have hxw := fun o => hx.alloc o
        have hrow3 := hrow2 (wr.alloc (Obj.cells #[.int .i64 (nth c.ps k).code, .int .i64 (nth c.ps k).time] 69))
        rw [World.size_alloc] at hrow3
        clear hrow2
        go_wp2_with (at_builtin; refine wpList_append_rows rfl _ _ 39 rfl wb 69 i0 _ 2 16 Try.underlying39 hi hz0 hz1 hz2 rfl (by decide) Pch.c pch_one _ (corL c code ms k) [nth c.ps k] rfl ((hown2 _).kept ((Ext.refl _).alloc _)) (some ⟨wr.heap.size + 1, 0, none⟩) 1 1 rfl rfl (fun h => by cases h) hrow3 (by simp; omega) (by simp; omega) ((hxw _).alloc _) ?_; intro v1 w3 ho1 hx3)
        rw [← HN.out] at ho1
        go_wp2
        go_roundw
        case rel => exact ⟨k + 1, by omega, by go_num, by rw [HNK.out], hx3, ho1⟩
        case measure => simp [intOf]; omega
    · have hkn : k = c.ps.length := by omega
      obtain ⟨go', gc', rfl, hFo, _, _, _⟩ := hown.fresh
      have HK := Lib.hid hkn; clear hkn
      go_wp2
      go_ret2
      rw [← HK.out]
      first
        | exact ⟨go', gc', rfl, hx0.trans hx, hFo.mono hx0.size⟩
        | exact ⟨go', ⟨gc', rfl⟩, hx0.trans hx, hFo.mono hx0.size⟩

end Go.Proofs.Ytfbmablfolknpaa
