/-
  Proved here: what the reference's AddRunner returns.
  Conditions: no more than 1048576 runners, in a block.
-/
import Derived.Test.YtkejhhflpnfepaaRun1
import Derived.Test.YtkejhhflpnfepaaEntPl
import Derived.Test.YtkejhhflpnfepaaCopyI
import Derived.Test.YtkejhhflpnfepaaCurL
import Derived.Test.YtkejhhflpnfepaaForm
import Derived.Test.YtkejhhflpnfepaaCurL
import Derived.Deep.DeepCutAuto
import Derived.Deep.CutBlock
namespace Go.Proofs.Ytkejhhflpnfepaa
open Go.RowKit

theorem rn_cells : ∀ (x : Rnr) (j : Nat), j < 6 → (x.c j).oneCell' = true := by
  intro x j hj
  match j, hj with
  | 0, _ => rfl
  | 1, _ => rfl
  | 2, _ => rfl
  | 3, _ => rfl
  | 4, _ => rfl
  | 5, _ => rfl
/-- texts as long as a string may be -/
def strOk (x : Rnr) : Prop := x.name.size ≤ 9223372036854775807 ∧ x.club.size ≤ 9223372036854775807
theorem mem_insL {xs : List Rnr} {i k : Nat} {x : Rnr} (hi : i ≤ xs.length) (hk : k < (insL xs i x).length) : nth (insL xs i x) k = x ∨ ∃ j, j < xs.length ∧ nth (insL xs i x) k = nth xs j := by
  rw [insL_len hi] at hk
  rcases Nat.lt_trichotomy k i with h | h | h
  · exact .inr ⟨k, by omega, nth_insL_lt hi h⟩
  · subst h; exact .inl (nth_insL_at hi)
  · refine .inr ⟨k - 1, by omega, ?_⟩
    unfold nth List.getD insL
    rw [List.getElem?_append_right (by simp; omega)]
    have e : k - (xs.take i).length = (k - 1 - i) + 1 := by simp; omega
    rw [e, List.getElem?_cons_succ, List.getElem?_drop, show i + (k - 1 - i) = k - 1 by omega]
theorem strOk_ins {xs : List Rnr} {i : Nat} {x : Rnr} (hi : i ≤ xs.length) (h : ∀ k, k < xs.length → strOk (nth xs k)) (hx : strOk x) : ∀ k, k < (insL xs i x).length → strOk (nth (insL xs i x) k) := by
  intro k hk
  rcases mem_insL hi hk with e | ⟨j, hj, e⟩
  · rw [e]; exact hx
  · rw [e]; exact h j hj
/-- the runners with a new one -/
def rnL (xs : List Rnr) (x : Rnr) : List Rnr := insL xs (insAtG Rnr.id xs x.id) x
def anB (xs : List Rnr) (x : Rnr) : Bool := rnsB xs && rnsB (rnL xs x)
def anL (xs : List Rnr) (x : Rnr) : List Rnr := if anB xs x then rnL xs x else []
theorem rnL_len (xs : List Rnr) (x : Rnr) : (rnL xs x).length = xs.length + 1 := insL_len (insAtG_le _ _ _)
/-- what is handed back: a list of runners in new memory, a bool -/
def ResRn (w : World) (L : List Rnr) (B : Bool) (e : Ending) (w' : World) : Prop := ∃ bo bc, e = .returned (.tuple #[.slice bo L.length bc, .bool B]) ∧ Ext w w' ∧ (∃ b off, bo = some ⟨b, off, none⟩) ∧ (L.length ≤ bc ∧ bc ≤ 9223372036854775807) ∧ Owns w' w.heap.size 88 6 Rnr.c (.slice bo L.length bc) L
theorem ResRn.mk {w w' : World} {L : List Rnr} {B : Bool} {e : Ending} (b off bc : Nat) (h : e = .returned (.tuple #[.slice (some ⟨b, off, none⟩) L.length bc, .bool B])) (h1 : Ext w w') (h2 : L.length ≤ bc ∧ bc ≤ 9223372036854775807) (h3 : Owns w' w.heap.size 88 6 Rnr.c (.slice (some ⟨b, off, none⟩) L.length bc) L) : ResRn w L B e w' := ⟨_, bc, h, h1, ⟨b, off, rfl⟩, h2, h3⟩

set_option maxRecDepth 100000 in
set_option maxHeartbeats 8000000 in
theorem spec_AddRunner {b off : Nat} {cap : Nat} {ms : List Rnr} {s c1 r : Int} {t1 t2 : ByteArray} {c3 : Bool} {w : World} (h : RowAt w (some ⟨b, off, none⟩) 6 ms.length (fun k => (nth ms k).c)) (hs : ms.length ≤ 1048576) (hso : ∀ k, k < ms.length → strOk (nth ms k)) (hsr : strOk ⟨s, t1, t2, c1, c3, r⟩) (hnc : ms.length ≤ cap ∧ cap ≤ 9223372036854775807) :
    Calls Try.prog 72 #[.slice (some ⟨b, off, none⟩) ms.length cap, .agg #[.int .i64 s, .string t1, .string t2, .int .i64 c1, .bool c3, .int .i64 r]] w (ResRn w (anL ms ⟨s, t1, t2, c1, c3, r⟩) (anB ms ⟨s, t1, t2, c1, c3, r⟩)) := by
  obtain ⟨i0, hi, hz0, hz1, hz2⟩ := info_parts infoRnr
  obtain ⟨W, hW⟩ : ∃ W, W = w.alloc (Obj.cells #[.int .i64 s, .string t1, .string t2, .int .i64 c1, .bool c3, .int .i64 r] 88) := ⟨_, rfl⟩
  have hxW : Ext w W := hW ▸ (Ext.refl _).alloc _
  have hWs : W.heap.size = w.heap.size + 1 := by rw [hW]; simp
  have hWv : W.heap[w.heap.size]? = some (.cells #[.int .i64 s, .string t1, .string t2, .int .i64 c1, .bool c3, .int .i64 r] 88 (0, 0)) := by rw [hW]; exact heap_alloc_new _ _
  have hW0 : W.cell? ⟨w.heap.size, 0, none⟩ = some (.int .i64 s) := by simp [World.cell?, hWv]
  have hW1 : W.cell? ⟨w.heap.size, 1, none⟩ = some (.string t1) := by simp [World.cell?, hWv]
  have hW2 : W.cell? ⟨w.heap.size, 2, none⟩ = some (.string t2) := by simp [World.cell?, hWv]
  have hW3 : W.cell? ⟨w.heap.size, 3, none⟩ = some (.int .i64 c1) := by simp [World.cell?, hWv]
  have hW4 : W.cell? ⟨w.heap.size, 4, none⟩ = some (.bool c3) := by simp [World.cell?, hWv]
  have hW5 : W.cell? ⟨w.heap.size, 5, none⟩ = some (.int .i64 r) := by simp [World.cell?, hWv]
  have hrW := h.ext hxW
  have HR := Lib.hid h; clear h
  have HWV := Lib.hid hWv; clear hWv
  have HWS := Lib.hid hWs; clear hWs
  have HW := Lib.hid hW; clear hW
  have HSO := Lib.hid hso; have HSR := Lib.hid hsr; clear hso hsr
  cases hc : rnsB ms
  · have hB : anB ms ⟨s, t1, t2, c1, c3, r⟩ = false := by unfold anB; rw [hc]; rfl
    have hL : anL ms ⟨s, t1, t2, c1, c3, r⟩ = [] := by unfold anL; rw [hB]; rfl
    rw [hB, hL]; clear hB hL
    have H2 := Lib.hid hc; clear hc
    go_enter Try.func72, Try.ntmps72
    go_wp2_with fail
    rw [← HW.out]
    refine (spec_l5Good hrW (by omega) HSO.out).mono ?_; rw [H2.out]; rintro e w1 ⟨rfl, hx1⟩
    have HX1 := Lib.hid (hxW.trans hx1)
    go_wp2
    go_ret2
    exact .mk _ 0 0 rfl (HX1.out.alloc _) ⟨Nat.zero_le _, by omega⟩ (Owns.start HX1.out)
  · have HC := Lib.hid hc; clear hc
    go_enter Try.func72, Try.ntmps72
    go_wp2_with fail
    rw [← HW.out]
    refine (spec_l5Good hrW (by omega) HSO.out).mono ?_; rw [HC.out]; rintro e w1 ⟨rfl, hx1⟩
    go_upto_block 0 with fail
    go_cut [6] (fun sl wc => ∃ k : Nat, k ≤ ms.length ∧ sl = .int .i64 k ∧ insAtG Rnr.id ms s = k ∧ Ext W wc)
    case first =>
      go_wp2_with fail
      go_loopw [6] (fun i wr => ∃ k : Nat, k ≤ ms.length ∧ i = .int .i64 k ∧ Ext W wr ∧ ∀ j, j < k → (nth ms j).id < s) (fun i _ => ms.length - (intOf i).toNat)
      case atStart => exact ⟨0, by omega, rfl, hx1, fun j hj => by omega⟩
      case round =>
        obtain ⟨k, hk, rfl, hx, hlt⟩ := hrel
        have HLT := Lib.hid hlt; clear hlt
        have f0 := hx.cells hW0
        have hcell : ∀ k, k < ms.length → ∀ j, j < 6 → wr.cell? ⟨b, off + k * 6 + j, none⟩ = some ((nth ms k).c j) := fun k hk j hj => by
          obtain ⟨b', off', e, hc⟩ := hrW (by omega)
          injection e with e
          injection e with e1 e2
          subst e1 e2
          exact hx.cells (hc k hk j hj)
        by_cases hgo : k < ms.length ∧ (nth ms k).id < s
        · have p0 := hcell k hgo.1 0 (by decide)
          simp only [Rnr.c0, Nat.add_zero] at p0
          obtain ⟨hkn, hsh⟩ := hgo
          clear hcell
          have hdec : decide (k < ms.length) = true := by simpa using hkn
          go_wp2_with fail
          go_quiet (fail)
          go_wp2_with fail
          go_roundw
          case rel => exact ⟨k + 1, by omega, by go_num, ⟨hx.os, hx.tape, hx.output, hx.size, hx.block⟩, fun j hj => by by_cases e : j = k; (subst e; exact hsh); exact HLT.out j (by omega)⟩
          case measure => simp [intOf]; omega
        · have hat : insAtG Rnr.id ms s = k := insAtG_is hk HLT.out (fun h1 h2 => hgo ⟨h1, h2⟩)
          have HAT := Lib.hid hat; clear hat
          have hxd : ∀ q, Ext W (wr.drewN q) := fun q => ⟨hx.os, hx.tape, hx.output, hx.size, hx.block⟩
          have HXD := Lib.hid hxd; clear hxd
          by_cases hkn : k < ms.length
          case' pos =>
            have p0 := hcell k hkn 0 (by decide)
            simp only [Rnr.c0, Nat.add_zero] at p0
            clear hcell
            have hdec : decide (k < ms.length) = true := by simpa using hkn
            have hds : decide ((nth ms k).id < s) = false := by simpa using fun h => hgo ⟨hkn, h⟩
          case' neg =>
            have hdec : decide (k < ms.length) = false := by simpa using hkn
            clear hcell
          all_goals
            go_wp2_with fail
            go_quiet (fail)
            go_wp2_with fail
            go_meet
            exact ⟨k, hk, rfl, HAT.out, HXD.out _⟩
    case rest =>
            obtain ⟨k, hk, rfl, hat, hxy⟩ := hcut
            have HAT := Lib.hid hat; clear hat hx1
            generalize hwy : wc = wy at hxy ⊢
            clear hwy wc
            have hml1 : ms.length ≤ 1048577 := by omega
            have hkl := hk
            have d0 := hxy.cells hW0
            have d1 := hxy.cells hW1
            have d2 := hxy.cells hW2
            have d3 := hxy.cells hW3
            have d4 := hxy.cells hW4
            have d5 := hxy.cells hW5
            have hsz := hxy.size
            have hb1 : w.heap.size < wy.heap.size := by have := HWS.out; omega
            have hb2 : w.heap.size < wy.heap.size + 1 := by omega
            have hb3 : w.heap.size < wy.heap.size + 1 + 1 := by omega
            have OB := Lib.hid (show Owns ((wy.alloc (Obj.cells #[.int .i64 s, .string t1, .string t2, .int .i64 c1, .bool c3, .int .i64 r] 88)).alloc (Obj.cells #[] 88)) W.heap.size 88 6 Rnr.c (.slice (some ⟨wy.heap.size + 1, 0, none⟩) 0 0) ([] : List Rnr) from by
              have := Owns.start (α := Rnr) (e := 88) (s := 6) (cc := Rnr.c) (hxy.alloc (Obj.cells #[.int .i64 s, .string t1, .string t2, .int .i64 c1, .bool c3, .int .i64 r] 88))
              simpa using this)
            have F1 := Lib.hid (show ((wy.alloc (Obj.cells #[] 88)).alloc (Obj.cells #[.int .i64 s, .string t1, .string t2, .int .i64 c1, .bool c3, .int .i64 r] 88)).drew.heap[wy.heap.size + 1]? = some (Obj.cells #[.int .i64 s, .string t1, .string t2, .int .i64 c1, .bool c3, .int .i64 r] 88) from by
              have := heap_alloc_new (wy.alloc (Obj.cells #[] 88)) (Obj.cells #[.int .i64 s, .string t1, .string t2, .int .i64 c1, .bool c3, .int .i64 r] 88)
              rw [show (wy.alloc (Obj.cells #[] 88)).heap.size = wy.heap.size + 1 by simp] at this
              exact this)
            have F2 := Lib.hid (show ((wy.alloc (Obj.cells #[.int .i64 s, .string t1, .string t2, .int .i64 c1, .bool c3, .int .i64 r] 88)).alloc (Obj.cells #[] 88)).drew.heap[wy.heap.size]? = some (Obj.cells #[.int .i64 s, .string t1, .string t2, .int .i64 c1, .bool c3, .int .i64 r] 88) from by
              have h1 := heap_alloc_new wy (Obj.cells #[.int .i64 s, .string t1, .string t2, .int .i64 c1, .bool c3, .int .i64 r] 88)
              have h2 := ((Ext.refl (wy.alloc (Obj.cells #[.int .i64 s, .string t1, .string t2, .int .i64 c1, .bool c3, .int .i64 r] 88))).alloc (Obj.cells #[] 88)).block wy.heap.size (by simp)
              exact h2.trans h1)
            obtain ⟨L, hL⟩ : ∃ L, L = insL ms k ⟨s, t1, t2, c1, c3, r⟩ := ⟨_, rfl⟩
            have hadd : rnL ms ⟨s, t1, t2, c1, c3, r⟩ = L := by rw [hL, ← HAT.out]; rfl
            have HLP := Lib.hid (show 0 < L.length from by rw [← hadd, rnL_len]; omega)
            have HLL := Lib.hid (show L.length ≤ 9223372036854775807 from by rw [← hadd, rnL_len]; omega)
            have HADB := Lib.hid (show anB ms ⟨s, t1, t2, c1, c3, r⟩ = rnsB L from by unfold anB; rw [HC.out, hadd, Bool.true_and])
            have HADL := Lib.hid (show anL ms ⟨s, t1, t2, c1, c3, r⟩ = if rnsB L then L else [] from by unfold anL; rw [HADB.out, hadd])
            have HLQ := Lib.hid hL
            have HSL := Lib.hid (show ∀ k, k < L.length → strOk (nth L k) from by rw [hL]; exact strOk_ins hkl HSO.out HSR.out)
            have HWL := Lib.hid (show w.heap.size ≤ W.heap.size from hxW.size)
            clear hL hadd HAT hk
            obtain ⟨T1, hT1⟩ : ∃ T, T = ms.take k := ⟨_, rfl⟩
            obtain ⟨T2, hT2⟩ : ∃ T, T = ms.drop k := ⟨_, rfl⟩
            obtain ⟨T3, hT3⟩ : ∃ T, T = T1 ++ [(⟨s, t1, t2, c1, c3, r⟩ : Rnr)] := ⟨_, rfl⟩
            have hl1 : k = T1.length := by rw [hT1]; simp; omega
            have hl2 : ms.length - k = T2.length := by rw [hT2]; simp
            have hl3 : T3.length = T1.length + 1 := by rw [hT3]; simp
            have HTK := Lib.hid hl1
            have HDK := Lib.hid hl2
            have hkc : k ≤ cap := by omega
            have hkz : (0 : Int) ≤ (k : Int) := by omega
            have HP := Lib.hid (show ∀ x, Ext W x → RowAt x (some ⟨b, off, none⟩) 6 T1.length (fun q => (nth T1 q).c) from fun x hx h0 => by
              obtain ⟨b', off', e, hc⟩ := hrW.ext hx (by omega)
              refine ⟨b', off', e, fun q hq0 j hj => ?_⟩
              have hq : q < k := by omega
              have : nth T1 q = nth ms q := by rw [hT1]; simp only [nth, List.getD]; rw [List.getElem?_take_of_lt hq]
              show x.cell? _ = some ((nth T1 q).c j)
              rw [this]; exact hc q (by omega) j hj)
            have HB1 := Lib.hid (show ([] : List Rnr).length + T1.length ≤ 140737488355328 from by simp; omega)
            have HB2 := Lib.hid (show (([] : List Rnr).length + T1.length) * 64 ≤ 140737488355328 from by simp; omega)
            have HB3 := Lib.hid (show T1.length + [(⟨s, t1, t2, c1, c3, r⟩ : Rnr)].length ≤ 140737488355328 from by simp; omega)
            have HB4 := Lib.hid (show (T1.length + [(⟨s, t1, t2, c1, c3, r⟩ : Rnr)].length) * 64 ≤ 140737488355328 from by simp; omega)
            have HB5 := Lib.hid (show T3.length + T2.length ≤ 140737488355328 from by omega)
            have HB6 := Lib.hid (show (T3.length + T2.length) * 64 ≤ 140737488355328 from by omega)
            have HLQ3 := Lib.hid (show L = T3 ++ T2 from by rw [HLQ.out, hT3, hT1, hT2]; simp [insL])
            have HNT := Lib.hid (show T1 = [] ++ T1 from rfl)
            have HNX := Lib.hid hT3
            have HT2 := Lib.hid hT2
            clear hT1 hT2 hT3 hl1 hl2 hl3
            have hrow2 := fun x => row_lit (w := x) (cs := #[.int .i64 s, .string t1, .string t2, .int .i64 c1, .bool c3, .int .i64 r]) (T := 88) (s := 6) (cc := Rnr.c) (x := ⟨s, t1, t2, c1, c3, r⟩) (by intro j hj; match j, hj with | 0, _ => rfl | 1, _ => rfl | 2, _ => rfl | 3, _ => rfl | 4, _ => rfl | 5, _ => rfl)
            have HR2 := Lib.hid hrow2; clear hrow2
            have RB := Lib.hid ((HR2.out wy).ext ((Ext.refl _).alloc (Obj.cells #[] 88)))
            have RC := Lib.hid (show RowAt ((wy.alloc (Obj.cells #[] 88)).alloc (Obj.cells #[.int .i64 s, .string t1, .string t2, .int .i64 c1, .bool c3, .int .i64 r] 88)) (some ⟨wy.heap.size + 1, 0, none⟩) 6 [(⟨s, t1, t2, c1, c3, r⟩ : Rnr)].length (fun q => Rnr.c (nth [(⟨s, t1, t2, c1, c3, r⟩ : Rnr)] q)) from by
              have := HR2.out (wy.alloc (Obj.cells #[] 88))
              simpa using this)
            clear F1 F2
            by_cases hck : cap = k
            case' pos =>
              obtain rfl : k = cap := hck.symm
              have HDI := Lib.hid (show ∀ x, Ext W x → RowAt x (some ⟨b, off, none⟩) 6 T2.length (fun q => (nth T2 q).c) from fun x hx h0 => by have := HDK.out; omega)
              have HDM := Lib.hid (show 0 = T2.length from by have := HDK.out; omega)
              clear hck
              skip
            case' neg =>
              have HDI := Lib.hid (show ∀ x, Ext W x → RowAt x (some ⟨b, off + k * 6, none⟩) 6 T2.length (fun q => (nth T2 q).c) from fun x hx h0 => by
                obtain ⟨b', off', e, hc⟩ := hrW.ext hx (by have := HDK.out; omega)
                injection e with e
                injection e with e1 e2
                subst e1 e2
                refine ⟨b, off + k * 6, rfl, fun q hq0 j hj => ?_⟩
                have : nth T2 q = nth ms (k + q) := by rw [HT2.out]; simp only [nth, List.getD]; rw [List.getElem?_drop]
                show x.cell? _ = some ((nth T2 q).c j)
                rw [this, show off + k * 6 + q * 6 + j = off + (k + q) * 6 + j by omega]; exact hc (k + q) (by have := HDK.out; omega) j hj)
              have HDM := HDK
              skip
            all_goals
              go_upto_region 6 with fail
              go_cut [7] (fun sl wc => ∃ go gc, sl = .slice go L.length gc ∧ Owns wc W.heap.size 88 6 Rnr.c (.slice go L.length gc) L ∧ Ext W wc)
              case first =>
                go_region_law (first
                  | (refine step_append_form (o := ⟨some 32, _, _, _, _, _⟩) rfl _ _ 51 rfl W 88 i0 _ 6 64 Try.underlying51 hi hz0 hz1 hz2 rfl (by decide) Rnr.c rn_cells _ [] T1 T1 HNT rfl (by first | exact OB.out.kept (by repeat (first | (with_reducible exact Ext.refl _) | (with_reducible assumption) | with_reducible refine Ext.drew ?_ | with_reducible refine Ext.alloc ?_ _ | with_reducible refine Ext.setCell ?_ (by first | (simp; done) | (simp; omega) | omega) _ | with_reducible refine Ext.trans ?_ (by with_reducible assumption))) | exact (Owns.start (by repeat (first | (with_reducible exact Ext.refl _) | (with_reducible assumption) | with_reducible refine Ext.drew ?_ | with_reducible refine Ext.alloc ?_ _ | with_reducible refine Ext.setCell ?_ (by first | (simp; done) | (simp; omega) | omega) _ | with_reducible refine Ext.trans ?_ (by with_reducible assumption)))).kept (by repeat (first | (with_reducible exact Ext.refl _) | (with_reducible assumption) | with_reducible refine Ext.drew ?_ | with_reducible refine Ext.alloc ?_ _ | with_reducible refine Ext.setCell ?_ (by first | (simp; done) | (simp; omega) | omega) _ | with_reducible refine Ext.trans ?_ (by with_reducible assumption)))) ⟨b, off, none⟩ _ _ rfl HTK.out (HP.out _ (by repeat (first | (with_reducible exact Ext.refl _) | (with_reducible assumption) | with_reducible refine Ext.drew ?_ | with_reducible refine Ext.alloc ?_ _ | with_reducible refine Ext.setCell ?_ (by first | (simp; done) | (simp; omega) | omega) _ | with_reducible refine Ext.trans ?_ (by with_reducible assumption)))) HB1.out HB2.out (by repeat (first | (with_reducible exact Ext.refl _) | (with_reducible assumption) | with_reducible refine Ext.drew ?_ | with_reducible refine Ext.alloc ?_ _ | with_reducible refine Ext.setCell ?_ (by first | (simp; done) | (simp; omega) | omega) _ | with_reducible refine Ext.trans ?_ (by with_reducible assumption))) ?_; intro go1 gc1 w3 ho1 hx3 hg3 hv3; have hb4 : w.heap.size < w3.heap.size := Nat.lt_of_lt_of_le (Nat.lt_of_lt_of_eq (Nat.lt_succ_self _) HWS.out.symm) hx3.size; have b0 := hx3.cells hW0; have b1 := hx3.cells hW1; have b2 := hx3.cells hW2; have b3 := hx3.cells hW3; have b4 := hx3.cells hW4; have b5 := hx3.cells hW5; (first | (have hlit := RowAt.grown (row := some (wy.heap.size + 1)) (RowAt.ext RB.out (Ext.drew (Ext.refl _))) (by decide) hg3 (by intro a e; injection e with e; subst e; simp)) | (have hlit := RowAt.grown (row := some wy.heap.size) (RowAt.ext RC.out (Ext.drew (Ext.refl _))) (by decide) hg3 (by intro a e; injection e with e; subst e; simp)) | skip); clear hg3 hv3)
                  | (refine step_append_form (o := ⟨some 35, _, _, _, _, _⟩) rfl _ _ 51 rfl W 88 i0 _ 6 64 Try.underlying51 hi hz0 hz1 hz2 rfl (by decide) Rnr.c rn_cells (.slice go1 T1.length gc1) T1 [⟨s, t1, t2, c1, c3, r⟩] T3 HNX rfl ?_ ⟨_, 0, none⟩ 1 1 rfl rfl ?_ HB3.out HB4.out (by repeat (first | (with_reducible exact Ext.refl _) | (with_reducible assumption) | with_reducible refine Ext.drew ?_ | with_reducible refine Ext.alloc ?_ _ | with_reducible refine Ext.setCell ?_ (by first | (simp; done) | (simp; omega) | omega) _ | with_reducible refine Ext.trans ?_ (by with_reducible assumption))) ?_; (first | (with_reducible exact ho1) | (with_reducible exact ho1.kept (by repeat (first | (with_reducible exact Ext.refl _) | (with_reducible assumption) | with_reducible refine Ext.drew ?_ | with_reducible refine Ext.alloc ?_ _ | with_reducible refine Ext.setCell ?_ (by first | (simp; done) | (simp; omega) | omega) _ | with_reducible refine Ext.trans ?_ (by with_reducible assumption))))); (first | (with_reducible exact hlit) | (with_reducible exact HR2.out _)); intro go2 gc2 w4 ho2 hx4 hg4 hv4; clear hg4 hv4 ho1)
                  | (refine step_append_rows (o := ⟨some 39, _, _, _, _, _⟩) rfl _ _ 51 rfl W 88 i0 _ 6 64 Try.underlying51 hi hz0 hz1 hz2 rfl (by decide) Rnr.c rn_cells (.slice go2 T3.length gc2) T3 T2 rfl ho2 _ _ _ rfl HDM.out (fun h => by cases h) (HDI.out _ (by repeat (first | (with_reducible exact Ext.refl _) | (with_reducible assumption) | with_reducible refine Ext.drew ?_ | with_reducible refine Ext.alloc ?_ _ | with_reducible refine Ext.setCell ?_ (by first | (simp; done) | (simp; omega) | omega) _ | with_reducible refine Ext.trans ?_ (by with_reducible assumption)))) HB5.out HB6.out (by repeat (first | (with_reducible exact Ext.refl _) | (with_reducible assumption) | with_reducible refine Ext.drew ?_ | with_reducible refine Ext.alloc ?_ _ | with_reducible refine Ext.setCell ?_ (by first | (simp; done) | (simp; omega) | omega) _ | with_reducible refine Ext.trans ?_ (by with_reducible assumption))) ?_; intro v3 w5 ho3 hx5 hg5; rw [← HLQ3.out] at ho3; obtain ⟨go3, gc3, rfl⟩ := ho3.shape; clear hg5))
                all_goals
                  go_wp2_with fail
                  go_meet
                  exact ⟨_, _, rfl, by with_reducible assumption, by with_reducible assumption⟩
              case rest =>
                obtain ⟨go, gc, rfl, ho, hxc⟩ := hcut
                obtain ⟨a2, cp2, e2, hf2, _, hcp1, hcp2⟩ := ho.fresh
                injection e2 with e2 _ e3
                subst e2 e3
                obtain ⟨gb, goff, eg, _⟩ := hf2.row HLP.out
                subst eg
                have HO := Lib.hid ho
                have HCP := Lib.hid (show L.length ≤ gc ∧ gc ≤ 9223372036854775807 from ⟨hcp1, by unfold maxLen at hcp2; omega⟩)
                clear hcp1 hcp2
                have HF2 := Lib.hid hf2
                have HRC := Lib.hid (hrW.ext hxc)
                have HXC := Lib.hid (hxW.trans hxc)
                clear ho hf2 hxc hkc hkz HP HDI HB1 HB2 HB3 HB4 HB5 HB6 HLQ3 HNT HNX HR2 RB RC OB HLQ HTK HDK d0 d1 hsz hb1 hb2 hb3 hkl
                cases ht : rnsB L
                all_goals
                  have HT := Lib.hid ht; clear ht
                  go_wp2_with fail
                  refine (spec_l5Good HF2.out.row HLL.out HSL.out).mono ?_; rw [HT.out]; rintro e w5 ⟨rfl, hx5⟩
                  have HX5 := Lib.hid (HXC.out.trans hx5)
                  have HF5 := Lib.hid ((HO.out.kept hx5).down HWL.out)
                  clear hx5
                  go_wp2
                  go_ret2
                  rw [HADL.out, HADB.out, HT.out]
                · exact .mk _ 0 0 rfl (HX5.out.alloc _) ⟨Nat.zero_le _, by omega⟩ (Owns.start HX5.out)
                · exact .mk _ _ _ rfl HX5.out HCP.out HF5.out
end Go.Proofs.Ytkejhhflpnfepaa
