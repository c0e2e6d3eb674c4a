/-
  Proved here: Punch values: how lists of them are read, copied, compared.
  Conditions: none beyond those in each statement.
-/
import Derived.Test.YtckgjpaccgpdpaaDoorSmall
import Derived.Test.YtckgjpaccgpdpaaDoorLaw
namespace Go.Proofs.YtckgjpaccgpdpaaDoor
open Go.ChangeShapes Go.WideShapes Go.ChangeAt Go.RowKit Go.Joins Go.Deep

structure Pch where
  code : Int
  time : Int
instance : Inhabited Pch := ⟨⟨0, 0⟩⟩
def Pch.c (m : Pch) : Nat → Value
  | 0 => .int .i64 m.code
  | _ => .int .i64 m.time
theorem Pch.c0 (m : Pch) : m.c 0 = .int .i64 m.code := rfl
theorem Pch.c1 (m : Pch) : m.c 1 = .int .i64 m.time := rfl
/-- equal, as the program tests it -/
def Pch.eqB (x y : Pch) : Bool := x.code == y.code && x.time == y.time
theorem Pch.eqB_iff (x y : Pch) : x.eqB y = true ↔ x = y := by
  cases x; cases y; simp [Pch.eqB]

theorem laws_toPunch {q0 q1 : Int} {w : World} :
    Calls Tryd.prog 32 #[.agg #[.int .i64 q0, .int .i64 q1]] w fun e w' => e = .returned (.agg #[.int .i64 q0, .int .i64 q1]) ∧ Ext w w' := by
  go_enter Tryd.func32, Tryd.ntmps32
  go_wp2
  exact bodyPost_ret (v := .agg #[.int .i64 q0, .int .i64 q1]) (by simp [results, Tryd.results32, go_sem]) rfl ⟨rfl, (by repeat (first | (with_reducible exact Ext.refl _) | (with_reducible assumption) | with_reducible refine Ext.drew ?_ | with_reducible refine Ext.alloc ?_ _ | with_reducible refine Ext.setCell ?_ (by first | (simp; done) | (simp; omega) | omega) _ | with_reducible refine Ext.trans ?_ (by with_reducible assumption)))⟩

theorem laws_eqPunch {q0 q1 : Int} {r0 r1 : Int} {w : World} :
    Calls Tryd.prog 37 #[.agg #[.int .i64 q0, .int .i64 q1], .agg #[.int .i64 r0, .int .i64 r1]] w fun e w' => e = .returned (.bool (Pch.eqB ⟨q0, q1⟩ ⟨r0, r1⟩)) ∧ Ext w w' := by
  go_enter Tryd.func37, Tryd.ntmps37
  go_wp2
  all_goals go_ret
  all_goals refine ⟨ret_b (by simp_all [Pch.eqB]), (by repeat (first | (with_reducible exact Ext.refl _) | (with_reducible assumption) | with_reducible refine Ext.drew ?_ | with_reducible refine Ext.alloc ?_ _ | with_reducible refine Ext.setCell ?_ (by first | (simp; done) | (simp; omega) | omega) _ | with_reducible refine Ext.trans ?_ (by with_reducible assumption)))⟩

theorem infoPch : (Tryd.prog.info? 48).map (fun i => (i.zero, i.size, i.bytes)) = some (some (.agg #[.int .i64 0, .int .i64 0]), 2, 16) := by kernel_rfl

set_option maxHeartbeats 400000 in
theorem laws_toPunchS {ao : Option Addr} {cap : Nat} {ms : List Pch} {w : World} (h : RowAt w ao 2 ms.length (fun k => (nth ms k).c)) (hn : ms.length ≤ 1048576) :
    Calls Tryd.prog 17 #[.slice ao ms.length cap] w fun e w' => ∃ B, e = .returned (.slice (some ⟨B, 0, none⟩) ms.length ms.length) ∧ Ext w w' ∧ FreshAt w.heap.size w' (some ⟨B, 0, none⟩) 2 ms.length (fun k => (nth ms k).c) := by
  obtain ⟨i0, hi, hz0, hz1, hz2⟩ := info_parts infoPch
  obtain ⟨n, hN⟩ : ∃ n, n = ms.length := ⟨_, rfl⟩
  rw [← hN] at hn h ⊢
  clear hN
  go_enter Tryd.func17, Tryd.ntmps17
  go_wp2_with (refine wpList_make_full _ rfl _ _ _ rfl (w.heap.size) 48 i0 _ 2 Tryd.underlying28 hi hz0 hz1 .i64 .i64 n n n rfl rfl rfl rfl (by rw [hz2]; omega) (by unfold maxLen; omega) (by simp) ?_; intro w1 hown hgrow)
  have hF := Fill.start (c := fun k => (nth ms k).c) hown hgrow
  clear hown hgrow hi hz0 hz1 hz2
  go_loopw [4] (fun i wr => ∃ k : Nat, k ≤ n ∧ i = .int .i64 k ∧ Fill w wr w.heap.size 2 n (k * 2) (fun k => (nth ms k).c)) (fun i _ => n - (intOf i).toNat)
  case atStart => exact ⟨0, Nat.zero_le _, rfl, by simpa using hF⟩
  case round =>
    clear hF
    obtain ⟨k, hk, rfl, hF⟩ := hrel
    by_cases hlt : k < n
    · obtain ⟨b, off, rfl, hcell⟩ := h (by omega)
      have d0 : wr.cell? ⟨b, off + k * 2, none⟩ = some (.int .i64 (nth ms k).code) := hF.ext.cells (hcell k hlt 0 (by decide))
      have d1 : wr.cell? ⟨b, off + k * 2 + 1, none⟩ = some (.int .i64 (nth ms k).time) := hF.ext.cells (hcell k hlt 1 (by decide))
      obtain ⟨u0, e0⟩ := hF.cell (k * 2) (by omega)
      have f0 := hF.free (k * 2)
      obtain ⟨u1, e1⟩ := hF.cell (k * 2 + 1) (by omega)
      have f1 := hF.free (k * 2 + 1)
      have hsz := hF.size
      clear hcell h
      go_wp2_with (go_at_call 32; refine (laws_toPunch).mono ?_; rintro e w1 ⟨rfl, hx1⟩; have hc1 := Ext.cellr hx1; have hf1 := Ext.frozenr hx1; have hz1 := Ext.size hx1; (try simp at hz1))
      have R0 := hF.kept hx1
      have R1 := R0.put (i := k) (j := 0) (by decide) rfl hlt
      have R2 := R1.put (i := k) (j := 1) (by decide) rfl hlt
      go_roundw
      case rel => exact ⟨k + 1, by omega, by go_num, by rw [show (k + 1) * 2 = k * 2 + 1 + 1 by omega]; exact R2⟩
      case measure => simp [intOf]; omega
    · obtain rfl : k = n := by omega
      go_wp2
      go_ret
      exact ⟨_, rfl, hF.ext, hF.fresh rfl⟩

set_option maxHeartbeats 400000 in
theorem laws_eqPunchS {ao bo : Option Addr} {cap cap' : Nat} {xs ys : List Pch} {w : World} (h : RowAt w ao 2 xs.length (fun k => (nth xs k).c)) (h' : RowAt w bo 2 ys.length (fun k => (nth ys k).c)) (hn : xs.length ≤ 9223372036854775807) (hn' : ys.length ≤ 9223372036854775807) :
    Calls Tryd.prog 20 #[.slice ao xs.length cap, .slice bo ys.length cap'] w fun e w' => e = .returned (.bool (eqL Pch.eqB xs ys)) ∧ Ext w w' := by
  obtain ⟨n, hN⟩ : ∃ n, n = xs.length := ⟨_, rfl⟩
  obtain ⟨m, hM⟩ : ∃ m, m = ys.length := ⟨_, rfl⟩
  have hfin : eqL Pch.eqB xs ys = (decide (n = m) && upto (fun k => (nth xs k).eqB (nth ys k)) n) := by rw [hN, hM]; rfl
  have HF := Lib.hid hfin; clear hfin
  rw [← hN] at hn h ⊢
  rw [← hM] at hn' h' ⊢
  clear hN hM
  by_cases hnm : n = m
  · subst hnm
    go_enter Tryd.func20, Tryd.ntmps20
    go_wp2
    go_loopw [5] (fun i wr => ∃ k : Nat, k ≤ n ∧ i = .int .i64 k ∧ Ext w wr ∧ upto (fun k => (nth xs k).eqB (nth ys k)) k = true) (fun i _ => n - (intOf i).toNat)
    case atStart => exact ⟨0, Nat.zero_le _, rfl, Ext.refl _, rfl⟩
    case round =>
      obtain ⟨k, hk, rfl, hx, hu⟩ := hrel
      have HU := Lib.hid hu; clear hu
      by_cases hlt : k < n
      · obtain ⟨b, off, rfl, hcell⟩ := h (by omega)
        obtain ⟨b', off', rfl, hcell'⟩ := h' (by omega)
        have d0 := Grow.cells (show wr.cell? ⟨b, off + k * 2, none⟩ = some (.int .i64 (nth xs k).code) from hx.cells (hcell k hlt 0 (by decide)))
        have d1 := Grow.cells (show wr.cell? ⟨b, off + k * 2 + 1, none⟩ = some (.int .i64 (nth xs k).time) from hx.cells (hcell k hlt 1 (by decide)))
        have p0 := Grow.cells (show wr.cell? ⟨b', off' + k * 2, none⟩ = some (.int .i64 (nth ys k).code) from hx.cells (hcell' k hlt 0 (by decide)))
        have p1 := Grow.cells (show wr.cell? ⟨b', off' + k * 2 + 1, none⟩ = some (.int .i64 (nth ys k).time) from hx.cells (hcell' k hlt 1 (by decide)))
        clear hcell hcell' h h'
        go_wp2
        refine wp_region_ext (by kernel_rfl) (by kernel_rfl) ?_
        repeat (go_big_quiet_step ((go_at_call 37; exact Calls.ext_of (laws_eqPunch))))
        refine wpQuiet_nil ?_
        rintro _ ⟨⟨w1, hx1⟩, rfl⟩
        clear d0 d1 p0 p1
        go_wp2
        · go_ret
          have ht : (!((nth xs k).eqB (nth ys k))) = true := by assumption
          exact ⟨ret_b (by rw [HF.out, upto_false hlt (by simpa using ht)]; simp), (by repeat (first | (with_reducible exact Ext.refl _) | (with_reducible assumption) | with_reducible refine Ext.drew ?_ | with_reducible refine Ext.alloc ?_ _ | with_reducible refine Ext.setCell ?_ (by first | (simp; done) | (simp; omega) | omega) _ | with_reducible refine Ext.trans ?_ (by with_reducible assumption)))⟩
        · go_roundw
          have ht : (!((nth xs k).eqB (nth ys k))) = false := by assumption
          case rel => exact ⟨k + 1, by omega, by go_num, (by repeat (first | (with_reducible exact Ext.refl _) | (with_reducible assumption) | with_reducible refine Ext.drew ?_ | with_reducible refine Ext.alloc ?_ _ | with_reducible refine Ext.setCell ?_ (by first | (simp; done) | (simp; omega) | omega) _ | with_reducible refine Ext.trans ?_ (by with_reducible assumption))), upto_succ HU.out (by simpa using ht)⟩
          case measure => simp [intOf]; omega
      · obtain rfl : k = n := by omega
        go_wp2
        go_ret
        exact ⟨ret_b (by rw [HF.out, HU.out]; simp), (by repeat (first | (with_reducible exact Ext.refl _) | (with_reducible assumption) | with_reducible refine Ext.drew ?_ | with_reducible refine Ext.alloc ?_ _ | with_reducible refine Ext.setCell ?_ (by first | (simp; done) | (simp; omega) | omega) _ | with_reducible refine Ext.trans ?_ (by with_reducible assumption)))⟩
  · go_enter Tryd.func20, Tryd.ntmps20
    go_wp2
    go_ret
    exact ⟨ret_b (by rw [HF.out]; simp [hnm]), Ext.refl _⟩

theorem laws_szPunchS {ao : Option Addr} {cap n : Nat} {x : Int} {w : World} (hn : n ≤ 9223372036854775807) (h0 : 0 ≤ x) (h1 : x ≤ 1048576) :
    Calls Tryd.prog 14 #[.slice ao n cap, .int .i64 x] w fun e w' => e = .returned (.int .i64 (szI n x)) ∧ w = w' := by
  by_cases h : (n : Int) ≤ x
  · go_enter Tryd.func14, Tryd.ntmps14
    go_wp2
    go_ret
    exact ⟨ret_i (by simp [szI]; omega), rfl⟩
  · go_enter Tryd.func14, Tryd.ntmps14
    go_wp2
    go_ret
    exact ⟨ret_i (by simp [szI]; omega), rfl⟩

set_option maxRecDepth 100000 in
/-- A reading of such a slice, opened. -/
theorem trod_PunchS {H : Type} {enc : TypeId × Value → H} {w : World} {v : Value} {fuel : Nat} {x : DataW H × List MemPlace} {base : Nat} {spare : Nat → Bool} {held : Bool} (hf : DataW.trod enc Tryd.prog w base spare held fuel 22 [v] = some x) :
    ∃ (ao : Option Addr) (cap : Nat) (ms : List Pch), v = .slice ao ms.length cap ∧ ms.length ≤ 9223372036854775807 ∧ RowAt w ao 2 ms.length (fun k => (nth ms k).c) ∧ ∀ k, k < ms.length → I64 (nth ms k).code ∧ I64 (nth ms k).time := by
  rcases open_slice_fields Tryd.underlying22 Tryd.underlying60 (by kernel_rfl) (by kernel_rfl) hf with ⟨hcs, _⟩ | ⟨a, len, cap, m, Dt, Pl, hcs, _, hl, hm, hmm, _, hi⟩
  · obtain rfl : v = _ := List.singleton_inj.1 hcs
    exact ⟨none, 0, [], rfl, by simp, fun h => by simp at h, fun k hk => by simp at hk⟩
  · obtain rfl : v = _ := List.singleton_inj.1 hcs
    have hex : ∀ k, k < len → ∃ x : Pch, (∀ j, j < 2 → w.cell? (a.add (k * 2 + j)) = some (x.c j)) ∧ I64 x.code ∧ I64 x.time := by
      intro k hk
      obtain ⟨ys, n, _, _, _, hfj⟩ := hi k (by rw [hmm]; split <;> omega)
      obtain ⟨v0, y0, hc0, _, ht0⟩ := hfj 0 _ rfl
      obtain ⟨x0, ex0, _, wx0⟩ := DataW.trod_int Tryd.underlying3 ht0
      obtain rfl : v0 = _ := List.singleton_inj.1 ex0
      obtain ⟨v1, y1, hc1, _, ht1⟩ := hfj 1 _ rfl
      obtain ⟨x1, ex1, _, wx1⟩ := DataW.trod_int Tryd.underlying3 ht1
      obtain rfl : v1 = _ := List.singleton_inj.1 ex1
      refine ⟨⟨x0, x1⟩, fun j hj => ?_, I64.of_wf wx0, I64.of_wf wx1⟩
      match j, hj with
      | 0, _ => exact hc0
      | 1, _ => exact hc1
    obtain ⟨ms, rfl, hms⟩ := exists_list hex
    exact ⟨some a, cap, ms, rfl, by unfold maxLen at hm; omega, rowAt_of_add (by decide) (fun k hk => (hms k hk).1), fun k hk => (hms k hk).2⟩

set_option maxRecDepth 100000 in
/-- An argument that is such a slice, opened. -/
theorem open_PunchS {H : Type} {enc : TypeId × Value → H} {w : World} {base : Nat} {v : Value} {d : DataW H} {p : List MemPlace} (hv : Value.okWide Tryd.prog w .any base 22 v) (h : DataW.Trod enc Tryd.prog w 0 (fun _ => true) true 22 v d p) :
    ∃ (ao : Option Addr) (cap : Nat) (ms : List Pch), v = .slice ao ms.length cap ∧ ms.length ≤ 9223372036854775807 ∧ RowAt w ao 2 ms.length (fun k => (nth ms k).c) ∧ ∀ k, k < ms.length → I64 (nth ms k).code ∧ I64 (nth ms k).time := by
  obtain ⟨a0, len, cap, rfl⟩ := okWide_slice Tryd.underlying22 hv
  obtain ⟨fuel, hf⟩ := h
  exact trod_PunchS hf


def Pch.val (x : Pch) : Value := .agg #[.int .i64 x.code, .int .i64 x.time]
set_option maxRecDepth 100000 in
/-- An argument that is such a struct, opened. -/
theorem open_Punch {H : Type} {enc : TypeId × Value → H} {w : World} {base : Nat} {v : Value} {d : DataW H} {p : List MemPlace} (hv : Value.okWide Tryd.prog w .any base 60 v) (h : DataW.Trod enc Tryd.prog w 0 (fun _ => true) true 60 v d p) :
    ∃ x : Pch, v = x.val ∧ I64 x.code ∧ I64 x.time := by
  obtain ⟨v0, v1, y0, y1, n, rfl, _, _, t0, t1⟩ := open_agg2 Tryd.underlying60 (by kernel_rfl) (by kernel_rfl) hv h
  obtain ⟨x0, ex0, _, wx0⟩ := DataW.trod_int Tryd.underlying3 t0
  obtain rfl : v0 = _ := List.singleton_inj.1 ex0
  obtain ⟨x1, ex1, _, wx1⟩ := DataW.trod_int Tryd.underlying3 t1
  obtain rfl : v1 = _ := List.singleton_inj.1 ex1
  exact ⟨⟨x0, x1⟩, rfl, I64.of_wf wx0, I64.of_wf wx1⟩

end Go.Proofs.YtckgjpaccgpdpaaDoor
