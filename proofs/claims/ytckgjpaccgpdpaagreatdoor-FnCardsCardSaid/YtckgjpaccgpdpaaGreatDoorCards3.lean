/-
  Proved here: what areCodes, foundAt, FoundAt and their references return.
  Conditions: the number of punches and of codes fits an int.
-/
import Derived.Test.YtckgjpaccgpdpaaGreatDoorCards1
import Derived.Test.YtckgjpaccgpdpaaGreatDoorIdxInts
import Derived.Test.YtckgjpaccgpdpaaGreatDoorIdxPunch
import Derived.Test.YtckgjpaccgpdpaaGreatDoorOwn
namespace Go.Proofs.YtckgjpaccgpdpaaGreatDoor
open Go.RowKit

def codesB (xs : List Int) : Bool := decide (xs.length ≤ 12) && upto (fun k => inB (nth xs k) 31 99) xs.length

theorem impl_areCodes_1 {a : Int} {w : World} :
    Calls Tryz.prog 52 #[.int .i64 a] w fun e w' => e = .returned (.bool (!inB a 31 99)) ∧ Ext w w' := by
  go_enter Tryz.func52, Tryz.ntmps52
  go_wp2_with (go_at_call 33; refine (impl_isCode).mono ?_; rintro e w1 ⟨rfl, rfl⟩)
  go_ret
  exact ⟨rfl, (by repeat (first | (with_reducible exact Ext.refl _) | (with_reducible assumption) | with_reducible refine Ext.drew ?_ | with_reducible refine Ext.alloc ?_ _ | with_reducible refine Ext.setCell ?_ (by first | (simp; done) | (simp; omega) | omega) _ | with_reducible refine Ext.trans ?_ (by with_reducible assumption)))⟩

theorem impl_areCodes {ao : Option Addr} {cap : Nat} {xs : List Int} {w : World} (h : RowAt w ao 1 xs.length (ic xs)) (hn : xs.length ≤ 9223372036854775807) :
    Calls Tryz.prog 27 #[.slice ao xs.length cap] w fun e w' => e = .returned (.bool (codesB xs)) ∧ Ext w w' := by
  by_cases hl : xs.length ≤ 12
  · have H := containsFunc_Int (cap := cap) (caps := #[]) (p := fun x => !inB x 31 99) h hn (entersF_of Tryz.func52 (by kernel_rfl) rfl) (fun a w' _ => impl_areCodes_1)
    have hfin : codesB xs = upto (fun k => inB (nth xs k) 31 99) xs.length := by simp [codesB, hl]
    rw [hfin]; clear hfin
    simp only [Bool.not_not] at H
    have hl' : (xs.length : Int) ≤ 12 := by omega
    go_enter Tryz.func27, Tryz.ntmps27
    go_wp2_with fail
    refine H.mono ?_; rintro e w1 ⟨rfl, hx1⟩
    go_wp2
    go_ret
    exact ⟨ret_b (by simp), (by repeat (first | (with_reducible exact Ext.refl _) | (with_reducible assumption) | with_reducible refine Ext.drew ?_ | with_reducible refine Ext.alloc ?_ _ | with_reducible refine Ext.setCell ?_ (by first | (simp; done) | (simp; omega) | omega) _ | with_reducible refine Ext.trans ?_ (by with_reducible assumption)))⟩
  · have hfin : codesB xs = false := by simp [codesB]; omega
    rw [hfin]; clear hfin
    have hl' : ¬ (xs.length : Int) ≤ 12 := by omega
    go_enter Tryz.func27, Tryz.ntmps27
    go_wp2
    go_ret
    exact ⟨rfl, (by repeat (first | (with_reducible exact Ext.refl _) | (with_reducible assumption) | with_reducible refine Ext.drew ?_ | with_reducible refine Ext.alloc ?_ _ | with_reducible refine Ext.setCell ?_ (by first | (simp; done) | (simp; omega) | omega) _ | with_reducible refine Ext.trans ?_ (by with_reducible assumption)))⟩

set_option maxHeartbeats 400000 in
theorem spec_l12Codes {ao : Option Addr} {cap : Nat} {xs : List Int} {w : World} (h : RowAt w ao 1 xs.length (ic xs)) (hn : xs.length ≤ 9223372036854775807) :
    Calls Tryz.prog 55 #[.slice ao xs.length cap] w fun e w' => e = .returned (.bool (codesB xs)) ∧ Ext w w' := by
  have hfin : codesB xs = (decide (xs.length ≤ 12) && upto (fun k => inB (nth xs k) 31 99) xs.length) := rfl
  have HF := Lib.hid hfin; clear hfin
  go_enter Tryz.func55, Tryz.ntmps55
  go_wp2
  go_loopw [3] (fun i wr => ∃ k : Nat, k ≤ xs.length ∧ i = .int .i64 k ∧ Ext w wr ∧ upto (fun k => inB (nth xs k) 31 99) k = true) (fun i _ => xs.length - (intOf i).toNat)
  case atStart => exact ⟨0, Nat.zero_le _, rfl, Ext.refl _, rfl⟩
  case round =>
    obtain ⟨k, hk, rfl, hx, hu⟩ := hrel
    have HU := Lib.hid hu; clear hu
    by_cases hlt : k < xs.length
    · obtain ⟨b, off, rfl, hcell⟩ := ints_at' h (by omega)
      have d0 := hx.cells (hcell k hlt)
      cases hb : inB (nth xs k) 31 99
      all_goals
        go_wp2_with fail
        refine spec_l6Code.mono ?_; rintro e w2 ⟨rfl, rfl⟩
        rw [hb]
        go_wp2
      · go_ret
        exact ⟨ret_b (by rw [HF.out, upto_false hlt hb, Bool.and_false]), (by repeat (first | (with_reducible exact Ext.refl _) | (with_reducible assumption) | with_reducible refine Ext.drew ?_ | with_reducible refine Ext.alloc ?_ _ | with_reducible refine Ext.setCell ?_ (by first | (simp; done) | (simp; omega) | omega) _ | with_reducible refine Ext.trans ?_ (by with_reducible assumption)))⟩
      · go_roundw
        case rel => exact ⟨k + 1, by omega, by go_num, (by repeat (first | (with_reducible exact Ext.refl _) | (with_reducible assumption) | with_reducible refine Ext.drew ?_ | with_reducible refine Ext.alloc ?_ _ | with_reducible refine Ext.setCell ?_ (by first | (simp; done) | (simp; omega) | omega) _ | with_reducible refine Ext.trans ?_ (by with_reducible assumption))), upto_succ HU.out hb⟩
        case measure => simp [intOf]; omega
    · have hkn : k = xs.length := by omega
      subst hkn
      by_cases hl : xs.length ≤ 12
      · have hl' : (xs.length : Int) ≤ 12 := by omega
        go_wp2
        go_ret
        exact ⟨ret_b (by rw [HF.out, HU.out]; simp [hl]), (by repeat (first | (with_reducible exact Ext.refl _) | (with_reducible assumption) | with_reducible refine Ext.drew ?_ | with_reducible refine Ext.alloc ?_ _ | with_reducible refine Ext.setCell ?_ (by first | (simp; done) | (simp; omega) | omega) _ | with_reducible refine Ext.trans ?_ (by with_reducible assumption)))⟩
      · have hl' : ¬ (xs.length : Int) ≤ 12 := by omega
        go_wp2
        go_ret
        exact ⟨ret_b (by rw [HF.out, HU.out]; simp [hl]), (by repeat (first | (with_reducible exact Ext.refl _) | (with_reducible assumption) | with_reducible refine Ext.drew ?_ | with_reducible refine Ext.alloc ?_ _ | with_reducible refine Ext.setCell ?_ (by first | (simp; done) | (simp; omega) | omega) _ | with_reducible refine Ext.trans ?_ (by with_reducible assumption)))⟩

/-- the first punch from a place on that has a code -/
def atU (c : CardD) (code : Int) (from_ : Nat) : Option Nat := (List.range c.ps.length).find? (fun k => decide (from_ ≤ k) && (nth c.ps k).code == code)
theorem atU_none {c : CardD} {code : Int} {m : Nat} (h : ∀ j, m ≤ j → j < c.ps.length → ((nth c.ps j).code == code) = false) : atU c code m = none := by
  rw [atU, List.find?_eq_none]
  intro j hj
  by_cases hm : m ≤ j
  · rw [h j hm (by simpa using hj)]; simp
  · simp [hm]
theorem atU_some {c : CardD} {code : Int} {m k : Nat} (hm : m ≤ k) (hk : k < c.ps.length) (e : ((nth c.ps k).code == code) = true) (h : ∀ j, m ≤ j → j < k → ((nth c.ps j).code == code) = false) : atU c code m = some k := by
  rw [atU, List.find?_range_eq_some]
  refine ⟨by rw [e]; simp [hm], by simpa using hk, fun j hj => ?_⟩
  by_cases hm : m ≤ j
  · rw [h j hm hj]; simp
  · simp [hm]
theorem atU_lt {c : CardD} {code : Int} {m k : Nat} (h : atU c code m = some k) : m ≤ k ∧ k < c.ps.length := by
  rw [atU, List.find?_range_eq_some] at h
  have h1 := h.1
  simp only [Bool.and_eq_true, decide_eq_true_eq] at h1
  exact ⟨h1.1, by simpa using h.2.1⟩
/-- the place from which the next code is sought -/
def fN (c : CardD) (cs : List Int) : Nat → Nat
  | 0 => 0
  | i + 1 => match atU c (nth cs i) (fN c cs i) with | some k => k + 1 | none => fN c cs i
/-- the place at which a code is found -/
def fI (c : CardD) (cs : List Int) (i : Nat) : Int := match atU c (nth cs i) (fN c cs i) with | some k => k | none => -1
/-- the places of the first codes -/
def fL (c : CardD) (cs : List Int) : Nat → List Int
  | 0 => []
  | i + 1 => fL c cs i ++ [fI c cs i]
theorem fN_le (c : CardD) (cs : List Int) (i : Nat) : fN c cs i ≤ c.ps.length := by
  induction i with
  | zero => simp [fN]
  | succ i ih =>
    rw [fN]
    cases h : atU c (nth cs i) (fN c cs i) with
    | none => exact ih
    | some k => exact (atU_lt h).2
theorem fL_len (c : CardD) (cs : List Int) (i : Nat) : (fL c cs i).length = i := by
  induction i with
  | zero => rfl
  | succ i ih => simp [fL, ih]
theorem nth_drop {α : Type} [Inhabited α] (xs : List α) (m k : Nat) : nth (xs.drop m) k = nth xs (m + k) := by
  simp [nth, List.getD]

theorem impl_foundAt_1 {a b code : Int} {B : Nat} {w : World} (h : w.cell? ⟨B, 0, none⟩ = some (.int .i64 code)) (hB : B < w.heap.size) :
    Calls Tryz.prog 54 #[.agg #[.int .i64 a, .int .i64 b], .pointer (some ⟨B, 0, none⟩)] w fun e w' => e = .returned (.bool (a == code)) ∧ Ext w w' := by
  go_enter Tryz.func54, Tryz.ntmps54
  go_wp2
  go_ret
  exact ⟨rfl, (by repeat (first | (with_reducible exact Ext.refl _) | (with_reducible assumption) | with_reducible refine Ext.drew ?_ | with_reducible refine Ext.alloc ?_ _ | with_reducible refine Ext.setCell ?_ (by first | (simp; done) | (simp; omega) | omega) _ | with_reducible refine Ext.trans ?_ (by with_reducible assumption)))⟩

/-- what an index from a place on tells of the whole list -/
theorem idx_at {c : CardD} {code : Int} {m : Nat} (hm : m ≤ c.ps.length) : (idxU (fun k => (nth (c.ps.drop m) k).code == code) (c.ps.length - m) = -1 ∧ atU c code m = none) ∨ ∃ k, k < c.ps.length - m ∧ idxU (fun k => (nth (c.ps.drop m) k).code == code) (c.ps.length - m) = (k : Int) ∧ atU c code m = some (m + k) := by
  rcases idxU_cases (fun k => (nth (c.ps.drop m) k).code == code) (c.ps.length - m) with ⟨h1, h2⟩ | ⟨k, h1, h2, h3, h4⟩
  · refine .inl ⟨h1, atU_none fun j hj hl => ?_⟩
    have := h2 (j - m) (by omega)
    rwa [nth_drop, show m + (j - m) = j by omega] at this
  · refine .inr ⟨k, h1, h2, atU_some (by omega) (by omega) ?_ fun j hj hl => ?_⟩
    · rwa [nth_drop] at h3
    · have := h4 (j - m) (by omega)
      rwa [nth_drop, show m + (j - m) = j by omega] at this

set_option maxRecDepth 100000 in
set_option maxHeartbeats 2000000 in
theorem impl_foundAt {c : CardD} {b0 off0 cap : Nat} {cs : List Int} {bo : Option Addr} {bcap : Nat} {w : World} (h : RowAt w (some ⟨b0, off0, none⟩) 2 c.ps.length (fun k => (nth c.ps k).c)) (hn : c.ps.length ≤ 12) (hcap : c.ps.length ≤ cap ∧ cap ≤ 9223372036854775807)
    (h' : RowAt w bo 1 cs.length (ic cs)) (hcs : cs.length ≤ 12) :
    Calls Tryz.prog 28 #[c.val (some ⟨b0, off0, none⟩) cap, .slice bo cs.length bcap] w fun e w' => ∃ go gc, e = .returned (.slice go (fL c cs cs.length).length gc) ∧ Ext w w' ∧ FreshAt w.heap.size w' go 1 (fL c cs cs.length).length (ic (fL c cs cs.length)) := by
  obtain ⟨i0, hi, hz0, hz1, hz2⟩ := info_parts infoInt
  have hx0 : Ext w (w.alloc (Obj.cells #[.int .i64 c.number, .int .i64 c.start, .int .i64 c.finish, .slice (some ⟨b0, off0, none⟩) c.ps.length cap] 26)) := (Ext.refl _).alloc _
  have f3 : (w.alloc (Obj.cells #[.int .i64 c.number, .int .i64 c.start, .int .i64 c.finish, .slice (some ⟨b0, off0, none⟩) c.ps.length cap] 26)).cell? ⟨w.heap.size, 3, none⟩ = some (.slice (some ⟨b0, off0, none⟩) c.ps.length cap) := by go_simp
  have hwl : w.heap.size < (w.alloc (Obj.cells #[.int .i64 c.number, .int .i64 c.start, .int .i64 c.finish, .slice (some ⟨b0, off0, none⟩) c.ps.length cap] 26)).heap.size := by simp
  have hws : (w.alloc (Obj.cells #[.int .i64 c.number, .int .i64 c.start, .int .i64 c.finish, .slice (some ⟨b0, off0, none⟩) c.ps.length cap] 26)).heap.size = w.heap.size + 1 := by simp
  unfold CardD.val
  go_enter Tryz.func28, Tryz.ntmps28
  go_wp2
  generalize hwb : w.alloc (Obj.cells #[.int .i64 c.number, .int .i64 c.start, .int .i64 c.finish, .slice (some ⟨b0, off0, none⟩) c.ps.length cap] 26) = wb at hx0 f3 hwl hws ⊢
  clear hwb
  go_loopw [5, 6, 13] (fun out next i wr => ∃ k : Nat, k ≤ cs.length ∧ i = .int .i64 k ∧ next = .int .i64 (fN c cs k) ∧ Ext wb wr ∧ Owns wr wb.heap.size 3 1 icc out (fL c cs k)) (fun _ _ i _ => cs.length - (intOf i).toNat)
  case atStart => exact ⟨0, by omega, rfl, rfl, (by repeat (first | (with_reducible exact Ext.refl _) | (with_reducible assumption) | with_reducible refine Ext.drew ?_ | with_reducible refine Ext.alloc ?_ _ | with_reducible refine Ext.setCell ?_ (by first | (simp; done) | (simp; omega) | omega) _ | with_reducible refine Ext.trans ?_ (by with_reducible assumption))), by rw [show (⟨w.heap.size + 1, 0, none⟩ : Addr) = ⟨wb.heap.size, 0, none⟩ by rw [hws]]; exact Owns.start (Ext.refl _)⟩
  case round =>
    obtain ⟨k, hk, rfl, rfl, hx, hown⟩ := hrel
    have f3 := hx.cells f3
    have hsz : w.heap.size < wr.heap.size := Nat.lt_of_lt_of_le hwl hx.size
    have hlen := fL_len c cs k
    by_cases hlt : k < cs.length
    · obtain ⟨b, off, rfl, hcell⟩ := ints_at' h' (by omega)
      have d0 := hx.cells (hx0.cells (hcell k hlt))
      have hm := fN_le c cs k
      have hia := idx_at (code := nth cs k) hm
      obtain ⟨m, hM⟩ : ∃ m, m = fN c cs k := ⟨_, rfl⟩
      rw [← hM] at hm hia ⊢
      have HM := Lib.hid hM; clear hM
      have hdl : (c.ps.drop (m)).length = c.ps.length - m := List.length_drop
      have hrd := (h.ext hx0).ext hx
      have hcl : (wr.alloc (Obj.cells #[.int .i64 (nth cs k)] 3)).cell? ⟨wr.heap.size, 0, none⟩ = some (.int .i64 (nth cs k)) := by go_simp
      clear h h' hcell
      by_cases hcn : m = cap
      · subst hcn
        have hH := indexFunc_Punch (w := wr.alloc (Obj.cells #[.int .i64 (nth cs k)] 3)) (ao := some ⟨b0, off0, none⟩) (cap := 0) (xs := []) (F := 54) (caps := #[.pointer (some ⟨wr.heap.size, 0, none⟩)]) (p := fun y => y.code == nth cs k) (fun h0 => by simp at h0) (by simp) (entersF_of Tryz.func54 (by kernel_rfl) rfl) (fun a b w' hw' => impl_foundAt_1 (hw'.cells hcl) (Nat.lt_of_lt_of_le (by simp) hw'.size))
        simp only [List.length_nil, idxU_zero] at hH
        rcases hia with ⟨h1, h2⟩ | ⟨q, hq, h1, h2⟩
        · clear hcl hrd hdl
          have hnx : fL c cs (k + 1) = fL c cs k ++ [-1] := by rw [fL, fI, ← HM.out, h2]
          have hfn : fN c cs (k + 1) = m := by rw [fN, ← HM.out, h2]
          have HN := Lib.hid hnx; clear hnx
          have HFN := Lib.hid hfn; clear hfn
          have hrow2 := fun x => row_lit (w := x) (cs := #[.int .i64 (-1)]) (T := 3) (s := 1) (cc := icc) (x := -1) (by intro j hj; obtain rfl : j = 0 := (by omega); rfl)
          go_wp2_with fail
          refine hH.mono ?_; rintro e w1 ⟨rfl, hx1⟩
          have hX : Ext wr w1 := Ext.trans ((Ext.refl _).alloc _) hx1
          have hown2 := hown.kept hX
          have hxw := hx.trans hX
          go_wp2_with (at_builtin; refine wpList_append_rows rfl _ _ 27 rfl wb 3 i0 _ 1 8 Tryz.underlying27 hi hz0 hz1 hz2 rfl (by decide) icc icc_one _ (fL c cs k) [-1] rfl (hown2.kept ((Ext.refl _).alloc _)) (some ⟨w1.heap.size, 0, none⟩) 1 1 rfl rfl (fun h => by cases h) (hrow2 _) (by simp; omega) (by simp; omega) (hxw.alloc _) ?_; intro v1 w3 ho1 hx3)
          rw [← HN.out] at ho1
          go_wp2
          go_roundw
          case rel => exact ⟨k + 1, by omega, by go_num, by rw [HFN.out] <;> first | rfl | go_num | (congr 1; omega), (by repeat (first | (with_reducible exact Ext.refl _) | (with_reducible assumption) | with_reducible refine Ext.drew ?_ | with_reducible refine Ext.alloc ?_ _ | with_reducible refine Ext.setCell ?_ (by first | (simp; done) | (simp; omega) | omega) _ | with_reducible refine Ext.trans ?_ (by with_reducible assumption))), ho1⟩
          case measure => simp [intOf]; omega
        · exfalso; omega
      · have hH := indexFunc_Punch (w := wr.alloc (Obj.cells #[.int .i64 (nth cs k)] 3)) (ao := some ⟨b0, off0 + m * 2, none⟩) (cap := cap - m) (xs := c.ps.drop (m)) (F := 54) (caps := #[.pointer (some ⟨wr.heap.size, 0, none⟩)]) (p := fun y => y.code == nth cs k) (fun h0 => by
            rw [hdl] at h0
            obtain ⟨b1, off1, e1, H⟩ := hrd (by omega)
            injection e1 with e1
            injection e1 with e2 e3
            subst e2 e3
            refine ⟨_, _, rfl, fun q hq j hj => ?_⟩
            rw [hdl] at hq
            have := H (m + q) (by omega) j hj
            show _ = some ((nth (c.ps.drop m) q).c j)
            rw [nth_drop, show off0 + m * 2 + q * 2 + j = off0 + (m + q) * 2 + j by omega]
            exact ((Ext.refl wr).alloc _).cells this) (by rw [hdl]; omega) (entersF_of Tryz.func54 (by kernel_rfl) rfl) (fun a b w' hw' => impl_foundAt_1 (hw'.cells hcl) (Nat.lt_of_lt_of_le (by simp) hw'.size))
        rw [hdl] at hH
        rcases hia with ⟨h1, h2⟩ | ⟨q, hq, h1, h2⟩
        · clear hcl hrd hdl
          rw [h1] at hH
          have hnx : fL c cs (k + 1) = fL c cs k ++ [-1] := by rw [fL, fI, ← HM.out, h2]
          have hfn : fN c cs (k + 1) = m := by rw [fN, ← HM.out, h2]
          have HN := Lib.hid hnx; clear hnx
          have HFN := Lib.hid hfn; clear hfn
          have hrow2 := fun x => row_lit (w := x) (cs := #[.int .i64 (-1)]) (T := 3) (s := 1) (cc := icc) (x := -1) (by intro j hj; obtain rfl : j = 0 := (by omega); rfl)
          go_wp2_with fail
          refine hH.mono ?_; rintro e w1 ⟨rfl, hx1⟩
          have hX : Ext wr w1 := Ext.trans ((Ext.refl _).alloc _) hx1
          have hown2 := hown.kept hX
          have hxw := hx.trans hX
          go_wp2_with (at_builtin; refine wpList_append_rows rfl _ _ 27 rfl wb 3 i0 _ 1 8 Tryz.underlying27 hi hz0 hz1 hz2 rfl (by decide) icc icc_one _ (fL c cs k) [-1] rfl (hown2.kept ((Ext.refl _).alloc _)) (some ⟨w1.heap.size, 0, none⟩) 1 1 rfl rfl (fun h => by cases h) (hrow2 _) (by simp; omega) (by simp; omega) (hxw.alloc _) ?_; intro v1 w3 ho1 hx3)
          rw [← HN.out] at ho1
          go_wp2
          go_roundw
          case rel => exact ⟨k + 1, by omega, by go_num, by rw [HFN.out] <;> first | rfl | go_num | (congr 1; omega), (by repeat (first | (with_reducible exact Ext.refl _) | (with_reducible assumption) | with_reducible refine Ext.drew ?_ | with_reducible refine Ext.alloc ?_ _ | with_reducible refine Ext.setCell ?_ (by first | (simp; done) | (simp; omega) | omega) _ | with_reducible refine Ext.trans ?_ (by with_reducible assumption))), ho1⟩
          case measure => simp [intOf]; omega
        · clear hcl hrd hdl
          rw [h1] at hH
          have hnx : fL c cs (k + 1) = fL c cs k ++ [(q : Int) + (m : Int)] := by rw [fL, fI, ← HM.out, h2]; simp only [List.append_cancel_left_eq, List.cons.injEq, and_true]; omega
          have hfn : fN c cs (k + 1) = m + q + 1 := by rw [fN, ← HM.out, h2]
          have HN := Lib.hid hnx; clear hnx
          have HFN := Lib.hid hfn; clear hfn
          have hrow2 := fun x => row_lit (w := x) (cs := #[.int .i64 ((q : Int) + (m : Int))]) (T := 3) (s := 1) (cc := icc) (x := (q : Int) + (m : Int)) (by intro j hj; obtain rfl : j = 0 := (by omega); rfl)
          go_wp2_with fail
          refine hH.mono ?_; rintro e w1 ⟨rfl, hx1⟩
          have hX : Ext wr w1 := Ext.trans ((Ext.refl _).alloc _) hx1
          have hown2 := hown.kept hX
          have hxw := hx.trans hX
          go_wp2_with (at_builtin; refine wpList_append_rows rfl _ _ 27 rfl wb 3 i0 _ 1 8 Tryz.underlying27 hi hz0 hz1 hz2 rfl (by decide) icc icc_one _ (fL c cs k) [(q : Int) + (m : Int)] rfl (hown2.kept ((Ext.refl _).alloc _)) (some ⟨w1.heap.size, 0, none⟩) 1 1 rfl rfl (fun h => by cases h) (hrow2 _) (by simp; omega) (by simp; omega) (hxw.alloc _) ?_; intro v1 w3 ho1 hx3)
          rw [← HN.out] at ho1
          go_wp2
          go_roundw
          case rel => exact ⟨k + 1, by omega, by go_num, by rw [HFN.out] <;> first | rfl | go_num | (congr 1; omega), (by repeat (first | (with_reducible exact Ext.refl _) | (with_reducible assumption) | with_reducible refine Ext.drew ?_ | with_reducible refine Ext.alloc ?_ _ | with_reducible refine Ext.setCell ?_ (by first | (simp; done) | (simp; omega) | omega) _ | with_reducible refine Ext.trans ?_ (by with_reducible assumption))), ho1⟩
          case measure => simp [intOf]; omega
    · have hkn : k = cs.length := by omega
      subst hkn
      obtain ⟨go, gc, rfl, hF, _, _, _⟩ := hown.fresh
      go_wp2
      go_ret
      exact ⟨go, gc, rfl, (by repeat (first | (with_reducible exact Ext.refl _) | (with_reducible assumption) | with_reducible refine Ext.drew ?_ | with_reducible refine Ext.alloc ?_ _ | with_reducible refine Ext.setCell ?_ (by first | (simp; done) | (simp; omega) | omega) _ | with_reducible refine Ext.trans ?_ (by with_reducible assumption))), hF.mono (Nat.le_of_lt hwl)⟩

end Go.Proofs.YtckgjpaccgpdpaaGreatDoor
