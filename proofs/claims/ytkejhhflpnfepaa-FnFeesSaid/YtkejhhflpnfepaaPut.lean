/-
  Proved here: what the reference's l1Put returns: a number put into an ascending list.
  Conditions: a list in a block, no longer than 1048576.
-/
import Derived.Test.YtkejhhflpnfepaaCopy
import Derived.Test.YtkejhhflpnfepaaTIntS
import Derived.Test.YtkejhhflpnfepaaApart
import Derived.Test.YtkejhhflpnfepaaSearch
import Derived.Deep.DeepCutAuto
import Derived.Deep.CutBlock
import Derived.BigQuiet
namespace Go.Proofs.Ytkejhhflpnfepaa
open Go.RowKit

/-- how many stand ahead of n -/
def putAt (xs : List Int) (n : Int) : Nat := (xs.takeWhile fun x => decide (x < n)).length
theorem putAt_is {xs : List Int} {n : Int} : ∀ {k : Nat}, k ≤ xs.length → (∀ j, j < k → nth xs j < n) → (k < xs.length → ¬ nth xs k < n) → putAt xs n = k := by
  induction xs with
  | nil => intro k hk _ _; simp [putAt]; simp at hk; omega
  | cons m xs ih =>
    intro k hk h1 h2
    cases k with
    | zero =>
      have hm : ¬ m < n := by simpa [nth] using h2 (by simp)
      simp [putAt, hm]
    | succ k =>
      have hm : m < n := by simpa [nth] using h1 0 (by omega)
      have := ih (k := k) (by simpa using hk) (fun j hj => by simpa [nth] using h1 (j + 1) (by omega)) (fun hlt => by simpa [nth] using h2 (by simpa using hlt))
      simp only [putAt] at this ⊢
      rw [List.takeWhile_cons, if_pos (by simpa using hm), List.length_cons, this]
theorem putAt_le (xs : List Int) (n : Int) : putAt xs n ≤ xs.length := by
  have : xs.takeWhile (fun x => decide (x < n)) ++ xs.dropWhile (fun x => decide (x < n)) = xs := List.takeWhile_append_dropWhile
  have h := congrArg List.length this
  rw [List.length_append] at h
  unfold putAt
  omega
/-- the list with n -/
def putL (xs : List Int) (n : Int) : List Int := if putAt xs n < xs.length ∧ nth xs (putAt xs n) = n then xs else insL xs (putAt xs n) n
theorem putL_len (xs : List Int) (n : Int) : (putL xs n).length ≤ xs.length + 1 := by
  unfold putL
  split
  · omega
  · rw [insL_len (putAt_le _ _)]; exact Nat.le_refl _
/-- what is handed back: a list in a block -/
def ResPut (w : World) (L : List Int) (e : Ending) (w' : World) : Prop := ∃ b off bc, e = .returned (.slice (some ⟨b, off, none⟩) L.length bc) ∧ Ext w w' ∧ RowAt w' (some ⟨b, off, none⟩) 1 L.length (ic L) ∧ (L.length ≤ bc ∧ bc ≤ 9223372036854775807)

set_option maxRecDepth 100000 in
set_option maxHeartbeats 8000000 in
theorem spec_l1Put {b off : Nat} {cap : Nat} {ms : List Int} {n : Int} {w : World} (h : RowAt w (some ⟨b, off, none⟩) 1 ms.length (ic ms)) (hs : ms.length ≤ 1048576) (hnc : ms.length ≤ cap ∧ cap ≤ 9223372036854775807) :
    Calls Try.prog 49 #[.slice (some ⟨b, off, none⟩) ms.length cap, .int .i64 n] w (ResPut w (putL ms n)) := by
  obtain ⟨i0, hi, hz0, hz1, hz2⟩ := info_parts infoInt
  obtain ⟨W, hW⟩ : ∃ W, W = w := ⟨_, rfl⟩
  have hxW : Ext w W := by rw [hW]; exact Ext.refl _
  have hrW := h.ext hxW
  have HW := Lib.hid hW; clear hW
  clear h
  go_enter Try.func49, Try.ntmps49
  go_upto_block 0 with fail
  rw [← HW.out]
  go_cut [5] (fun sl wc => ∃ k : Nat, k ≤ ms.length ∧ sl = .int .i64 k ∧ putAt ms n = k ∧ Ext W wc)
  case first =>
    generalize hw1 : W = w1
    have hx1 : Ext W w1 := by rw [hw1]; exact Ext.refl _
    clear hw1
    go_wp2_with fail
    go_loopw [5] (fun i wr => ∃ k : Nat, k ≤ ms.length ∧ i = .int .i64 k ∧ Ext W wr ∧ ∀ j, j < k → nth ms j < n) (fun i _ => ms.length - (intOf i).toNat)
    case atStart => exact ⟨0, by omega, rfl, hx1, fun j hj => by omega⟩
    case round =>
      obtain ⟨k, hk, rfl, hx, hlt⟩ := hrel
      have HLT := Lib.hid hlt; clear hlt
      by_cases hgo : k < ms.length ∧ nth ms k < n
      · obtain ⟨b', off', e, hc⟩ := intsN (hrW.ext hx) (show 0 < ms.length by omega)
        injection e with e; injection e with e1 e2; subst e1 e2
        have p0 := hc k hgo.1
        obtain ⟨hkn, hsh⟩ := hgo
        clear hc
        have hdec : decide (k < ms.length) = true := by simpa using hkn
        go_wp2_with fail
        go_roundw
        case rel => exact ⟨k + 1, by omega, by go_num, hx, fun j hj => by by_cases e : j = k; (subst e; exact hsh); exact HLT.out j (by omega)⟩
        case measure => simp [intOf]; omega
      · have hat : putAt ms n = k := putAt_is hk HLT.out (fun h1 h2 => hgo ⟨h1, h2⟩)
        have HAT := Lib.hid hat; clear hat
        by_cases hkn : k < ms.length
        · obtain ⟨b', off', e, hc⟩ := intsN (hrW.ext hx) (show 0 < ms.length by omega)
          injection e with e; injection e with e1 e2; subst e1 e2
          have p0 := hc k hkn
          clear hc
          have hdec : decide (k < ms.length) = true := by simpa using hkn
          have hds : decide (nth ms k < n) = false := by simpa using fun h => hgo ⟨hkn, h⟩
          go_wp2_with fail
          go_meet
          exact ⟨k, hk, rfl, HAT.out, hx⟩
        · have hdec : decide (k < ms.length) = false := by simpa using hkn
          go_wp2_with fail
          go_meet
          exact ⟨k, hk, rfl, HAT.out, hx⟩
  case rest =>
  obtain ⟨k, hk, rfl, hat, hxy⟩ := hcut
  have HAT := Lib.hid hat; clear hat
  generalize hwy : wc = wy at hxy ⊢
  clear hwy wc
  have hkl := hk
  by_cases hsame : k < ms.length ∧ nth ms k = n
  · have HRES := Lib.hid (show putL ms n = ms from by unfold putL; rw [HAT.out, if_pos hsame])
    obtain ⟨b', off', e, hc⟩ := intsN (hrW.ext hxy) (show 0 < ms.length by omega)
    injection e with e; injection e with e1 e2; subst e1 e2
    have p0 := hc k hsame.1
    obtain ⟨hkn, hsn⟩ := hsame
    have hdec : decide (k < ms.length) = true := by simpa using hkn
    have hds : (nth ms k == n) = true := by simpa using hsn
    clear hc hsn
    go_wp2
    go_ret
    rw [HRES.out]
    exact ⟨_, _, _, rfl, hxW.trans hxy, hrW.ext hxy, hnc⟩
  · have HRES := Lib.hid (show putL ms n = insL ms k n from by unfold putL; rw [HAT.out, if_neg hsame])
    by_cases hkn : k < ms.length
    case' pos =>
      obtain ⟨b', off', e, hc⟩ := intsN (hrW.ext hxy) (show 0 < ms.length by omega)
      injection e with e; injection e with e1 e2; subst e1 e2
      have p0 := hc k hkn
      have hdec : decide (k < ms.length) = true := by simpa using hkn
      have hds : (nth ms k == n) = false := by simpa using fun h => hsame ⟨hkn, h⟩
      clear hc
    case' neg =>
      have hdec : decide (k < ms.length) = false := by simpa using hkn
    all_goals
      go_wp2_with fail
      clear hdec hsame hkn
      try clear p0
      try clear hds
      obtain ⟨T1, hT1⟩ : ∃ T, T = ms.take k := ⟨_, rfl⟩
      obtain ⟨T2, hT2⟩ : ∃ T, T = ms.drop k := ⟨_, rfl⟩
      obtain ⟨T3, hT3⟩ : ∃ T, T = T1 ++ [n] := ⟨_, rfl⟩
      obtain ⟨L, hL⟩ : ∃ L, L = insL ms k n := ⟨_, rfl⟩
      have hl1 : k = T1.length := by rw [hT1]; simp; omega
      have hl2 : ms.length - k = T2.length := by rw [hT2]; simp
      have hl3 : T3.length = T1.length + 1 := by rw [hT3]; simp
      have HTK := Lib.hid hl1
      have HDK := Lib.hid hl2
      have hkc : k ≤ cap := by omega
      have hkz : (0 : Int) ≤ (k : Int) := by omega
      have HP := Lib.hid (show ∀ x, Ext W x → RowAt x (some ⟨b, off, none⟩) 1 T1.length (ic T1) from fun x hx h0 => by
        obtain ⟨b', off', e, hc⟩ := hrW.ext hx (by omega)
        refine ⟨b', off', e, fun q hq0 j hj => ?_⟩
        have hq : q < k := by omega
        have : nth T1 q = nth ms q := by rw [hT1]; simp only [nth, List.getD]; rw [List.getElem?_take_of_lt hq]
        have h1 := hc q (by omega) j hj
        rw [h1]
        simp only [ic]
        rw [this])
      have HB1 := Lib.hid (show ([] : List Int).length + T1.length ≤ 140737488355328 from by simp; omega)
      have HB2 := Lib.hid (show (([] : List Int).length + T1.length) * 8 ≤ 140737488355328 from by simp; omega)
      have HB3 := Lib.hid (show T1.length + [n].length ≤ 140737488355328 from by simp; omega)
      have HB4 := Lib.hid (show (T1.length + [n].length) * 8 ≤ 140737488355328 from by simp; omega)
      have HB5 := Lib.hid (show T3.length + T2.length ≤ 140737488355328 from by omega)
      have HB6 := Lib.hid (show (T3.length + T2.length) * 8 ≤ 140737488355328 from by omega)
      have HLQ3 := Lib.hid (show L = T3 ++ T2 from by rw [hL, hT3, hT1, hT2]; simp [insL])
      have HLQ := Lib.hid hL
      have HNT := Lib.hid (show T1 = [] ++ T1 from rfl)
      have HNX := Lib.hid hT3
      have HT2 := Lib.hid hT2
      clear hL hT1 hT2 hT3 hl1 hl2 hl3
      have hrow2 := fun x => row_lit (w := x) (cs := #[.int .i64 n]) (T := 3) (s := 1) (cc := icc) (x := n) (by intro j hj; first | (have e0 : j = 0 := (by omega); subst e0; rfl) | (match j, hj with | 0, _ => rfl | 1, _ => rfl))
      have HR2 := Lib.hid hrow2; clear hrow2
      have RB := Lib.hid ((HR2.out wy).ext ((Ext.refl _).alloc (Obj.cells #[] 3)))
      have RC := Lib.hid (show RowAt ((wy.alloc (Obj.cells #[] 3)).alloc (Obj.cells #[.int .i64 n] 3)) (some ⟨wy.heap.size + 1, 0, none⟩) 1 [n].length (fun q => icc (nth [n] q)) from by
        have := HR2.out (wy.alloc (Obj.cells #[] 3))
        simpa using this)
      have OB := Lib.hid (show Owns ((wy.alloc (Obj.cells #[.int .i64 n] 3)).alloc (Obj.cells #[] 3)) W.heap.size 3 1 icc (.slice (some ⟨wy.heap.size + 1, 0, none⟩) 0 0) ([] : List Int) from by
        have := Owns.start (α := Int) (e := 3) (s := 1) (cc := icc) (hxy.alloc (Obj.cells #[.int .i64 n] 3))
        simpa using this)
      by_cases hck : cap = k
      case' pos =>
        obtain rfl : k = cap := hck.symm
        have HDI := Lib.hid (show ∀ x, Ext W x → RowAt x (some ⟨b, off, none⟩) 1 T2.length (ic T2) from fun x hx h0 => by have := HDK.out; omega)
        have HDM := Lib.hid (show 0 = T2.length from by have := HDK.out; omega)
        clear hck
        skip
      case' neg =>
        have HDI := Lib.hid (show ∀ x, Ext W x → RowAt x (some ⟨b, off + k, none⟩) 1 T2.length (ic T2) from fun x hx h0 => by
          obtain ⟨b', off', e, hc⟩ := hrW.ext hx (by have := HDK.out; omega)
          injection e with e
          injection e with e1 e2
          subst e1 e2
          refine ⟨b, off + k, rfl, fun q hq0 j hj => ?_⟩
          have : nth T2 q = nth ms (k + q) := by rw [HT2.out]; simp only [nth, List.getD]; rw [List.getElem?_drop]
          have h1 := hc (k + q) (by have := HDK.out; omega) j hj
          rw [show off + k + q * 1 + j = off + (k + q) * 1 + j by omega, h1]
          simp only [ic]
          rw [this])
        have HDM := HDK
        skip
      all_goals
        go_upto_region 6 with fail
        go_cut [4] (fun sl wc => ∃ go gc, sl = .slice go L.length gc ∧ Owns wc W.heap.size 3 1 icc (.slice go L.length gc) L ∧ Ext W wc)
        case first =>
          go_region_law (first
            | (refine step_append_form (o := ⟨some 37, _, _, _, _, _⟩) rfl _ _ 35 rfl W 3 i0 _ 1 8 Try.underlying35 hi hz0 hz1 hz2 rfl (by decide) icc icc_one _ [] T1 T1 HNT rfl (by first | exact OB.out.kept (by repeat (first | (with_reducible exact Ext.refl _) | (with_reducible assumption) | with_reducible refine Ext.drew ?_ | with_reducible refine Ext.alloc ?_ _ | with_reducible refine Ext.setCell ?_ (by first | (simp; done) | (simp; omega) | omega) _ | with_reducible refine Ext.trans ?_ (by with_reducible assumption))) | exact (Owns.start (by repeat (first | (with_reducible exact Ext.refl _) | (with_reducible assumption) | with_reducible refine Ext.drew ?_ | with_reducible refine Ext.alloc ?_ _ | with_reducible refine Ext.setCell ?_ (by first | (simp; done) | (simp; omega) | omega) _ | with_reducible refine Ext.trans ?_ (by with_reducible assumption)))).kept (by repeat (first | (with_reducible exact Ext.refl _) | (with_reducible assumption) | with_reducible refine Ext.drew ?_ | with_reducible refine Ext.alloc ?_ _ | with_reducible refine Ext.setCell ?_ (by first | (simp; done) | (simp; omega) | omega) _ | with_reducible refine Ext.trans ?_ (by with_reducible assumption)))) ⟨b, off, none⟩ _ _ rfl HTK.out (HP.out _ (by repeat (first | (with_reducible exact Ext.refl _) | (with_reducible assumption) | with_reducible refine Ext.drew ?_ | with_reducible refine Ext.alloc ?_ _ | with_reducible refine Ext.setCell ?_ (by first | (simp; done) | (simp; omega) | omega) _ | with_reducible refine Ext.trans ?_ (by with_reducible assumption)))) HB1.out HB2.out (by repeat (first | (with_reducible exact Ext.refl _) | (with_reducible assumption) | with_reducible refine Ext.drew ?_ | with_reducible refine Ext.alloc ?_ _ | with_reducible refine Ext.setCell ?_ (by first | (simp; done) | (simp; omega) | omega) _ | with_reducible refine Ext.trans ?_ (by with_reducible assumption))) ?_; intro go1 gc1 w3 ho1 hx3 hg3 hv3; (first | (have hlit := RowAt.grown (row := some (wy.heap.size + 1)) (RowAt.ext RB.out (Ext.drew (Ext.refl _))) (by decide) hg3 (by intro a e; injection e with e; subst e; simp)) | (have hlit := RowAt.grown (row := some wy.heap.size) (RowAt.ext RC.out (Ext.drew (Ext.refl _))) (by decide) hg3 (by intro a e; injection e with e; subst e; simp)) | skip); clear hg3 hv3)
            | (refine step_append_form (o := ⟨some 40, _, _, _, _, _⟩) rfl _ _ 35 rfl W 3 i0 _ 1 8 Try.underlying35 hi hz0 hz1 hz2 rfl (by decide) icc icc_one (.slice go1 T1.length gc1) T1 [n] T3 HNX rfl ?_ ⟨_, 0, none⟩ 1 1 rfl rfl ?_ HB3.out HB4.out (by repeat (first | (with_reducible exact Ext.refl _) | (with_reducible assumption) | with_reducible refine Ext.drew ?_ | with_reducible refine Ext.alloc ?_ _ | with_reducible refine Ext.setCell ?_ (by first | (simp; done) | (simp; omega) | omega) _ | with_reducible refine Ext.trans ?_ (by with_reducible assumption))) ?_; (first | (with_reducible exact ho1) | (with_reducible exact ho1.kept (by repeat (first | (with_reducible exact Ext.refl _) | (with_reducible assumption) | with_reducible refine Ext.drew ?_ | with_reducible refine Ext.alloc ?_ _ | with_reducible refine Ext.setCell ?_ (by first | (simp; done) | (simp; omega) | omega) _ | with_reducible refine Ext.trans ?_ (by with_reducible assumption))))); (first | (with_reducible exact hlit) | (with_reducible exact HR2.out _)); intro go2 gc2 w4 ho2 hx4 hg4 hv4; clear hg4 hv4 ho1)
            | (refine step_append_rows (o := ⟨some 44, _, _, _, _, _⟩) rfl _ _ 35 rfl W 3 i0 _ 1 8 Try.underlying35 hi hz0 hz1 hz2 rfl (by decide) icc icc_one (.slice go2 T3.length gc2) T3 T2 rfl ho2 _ _ _ rfl HDM.out (fun h => by cases h) (HDI.out _ (by repeat (first | (with_reducible exact Ext.refl _) | (with_reducible assumption) | with_reducible refine Ext.drew ?_ | with_reducible refine Ext.alloc ?_ _ | with_reducible refine Ext.setCell ?_ (by first | (simp; done) | (simp; omega) | omega) _ | with_reducible refine Ext.trans ?_ (by with_reducible assumption)))) HB5.out HB6.out (by repeat (first | (with_reducible exact Ext.refl _) | (with_reducible assumption) | with_reducible refine Ext.drew ?_ | with_reducible refine Ext.alloc ?_ _ | with_reducible refine Ext.setCell ?_ (by first | (simp; done) | (simp; omega) | omega) _ | with_reducible refine Ext.trans ?_ (by with_reducible assumption))) ?_; intro v3 w5 ho3 hx5 hg5; rw [← HLQ3.out] at ho3; obtain ⟨go3, gc3, rfl⟩ := ho3.shape; clear hg5))
          all_goals
            go_wp2_with fail
            go_meet
            exact ⟨_, _, rfl, by with_reducible assumption, by with_reducible assumption⟩
        case rest =>
          obtain ⟨go, gc, rfl, ho, hxc⟩ := hcut
          clear HP HDI HDM HB1 HB2 HB3 HB4 HB5 HB6 HLQ3 HNT HNX HR2 RB RC OB HTK HDK HT2 hkc hkz
          have HRL := Lib.hid (show putL ms n = L from by rw [HRES.out, HLQ.out])
          obtain ⟨go2, gc2, e2, hF, _, hl1, hl2⟩ := ho.fresh
          injection e2 with e2 e3 e4
          subst e2 e4
          have hpos : 0 < L.length := by rw [HLQ.out, insL_len hkl]; omega
          obtain ⟨lb, loff, rfl, _⟩ := hF.row hpos
          have HFR := Lib.hid hF.row
          have HXC := Lib.hid (hxW.trans hxc)
          have HLB := Lib.hid (show L.length ≤ gc ∧ gc ≤ 9223372036854775807 from ⟨hl1, by unfold maxLen at hl2; omega⟩)
          clear hF ho hxc e3 hl1 hl2 hpos
          go_wp2
          go_ret
          rw [HRL.out]
          exact ⟨_, _, _, rfl, HXC.out, HFR.out, HLB.out⟩

end Go.Proofs.Ytkejhhflpnfepaa
