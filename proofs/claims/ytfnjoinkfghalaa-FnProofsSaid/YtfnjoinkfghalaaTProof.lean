/-
  Proved here: Proof values: how lists of them are read, copied, compared.
  Conditions: none beyond those in each statement.
-/
import Derived.Test.YtfnjoinkfghalaaSmall
import Derived.Test.YtfnjoinkfghalaaLaw
namespace Go.Proofs.Ytfnjoinkfghalaa
open Go.ChangeShapes Go.WideShapes Go.ChangeAt Go.RowKit Go.Joins Go.Deep

structure Prf where
  runner : Int
  code : Int
  kind : Int
  weight : Int
  against : Bool
instance : Inhabited Prf := ⟨⟨0, 0, 0, 0, false⟩⟩
def Prf.c (m : Prf) : Nat → Value
  | 0 => .int .i64 m.runner
  | 1 => .int .i64 m.code
  | 2 => .int .i64 m.kind
  | 3 => .int .i64 m.weight
  | _ => .bool m.against
theorem Prf.c0 (m : Prf) : m.c 0 = .int .i64 m.runner := rfl
theorem Prf.c1 (m : Prf) : m.c 1 = .int .i64 m.code := rfl
theorem Prf.c2 (m : Prf) : m.c 2 = .int .i64 m.kind := rfl
theorem Prf.c3 (m : Prf) : m.c 3 = .int .i64 m.weight := rfl
theorem Prf.c4 (m : Prf) : m.c 4 = .bool m.against := rfl
/-- equal, as the program tests it -/
def Prf.eqB (x y : Prf) : Bool := x.runner == y.runner && x.code == y.code && x.kind == y.kind && x.weight == y.weight && x.against == y.against
theorem Prf.eqB_iff (x y : Prf) : x.eqB y = true ↔ x = y := by
  cases x; cases y; simp [Prf.eqB, and_assoc]

theorem laws_toProof {q0 q1 q2 q3 : Int} {q4 : Bool} {w : World} :
    Calls Try.prog 45 #[.agg #[.int .i64 q0, .int .i64 q1, .int .i64 q2, .int .i64 q3, .bool q4]] w fun e w' => e = .returned (.agg #[.int .i64 q0, .int .i64 q1, .int .i64 q2, .int .i64 q3, .bool q4]) ∧ Ext w w' := by
  go_enter Try.func45, Try.ntmps45
  go_wp2
  exact bodyPost_ret (v := .agg #[.int .i64 q0, .int .i64 q1, .int .i64 q2, .int .i64 q3, .bool q4]) (by simp [results, Try.results45, go_sem]) rfl ⟨rfl, (by repeat (first | (with_reducible exact Ext.refl _) | (with_reducible assumption) | with_reducible refine Ext.drew ?_ | with_reducible refine Ext.alloc ?_ _ | with_reducible refine Ext.setCell ?_ (by first | (simp; done) | (simp; omega) | omega) _ | with_reducible refine Ext.trans ?_ (by with_reducible assumption)))⟩

theorem laws_eqProof {q0 q1 q2 q3 : Int} {q4 : Bool} {r0 r1 r2 r3 : Int} {r4 : Bool} {w : World} :
    Calls Try.prog 52 #[.agg #[.int .i64 q0, .int .i64 q1, .int .i64 q2, .int .i64 q3, .bool q4], .agg #[.int .i64 r0, .int .i64 r1, .int .i64 r2, .int .i64 r3, .bool r4]] w fun e w' => e = .returned (.bool (Prf.eqB ⟨q0, q1, q2, q3, q4⟩ ⟨r0, r1, r2, r3, r4⟩)) ∧ Ext w w' := by
  go_enter Try.func52, Try.ntmps52
  go_wp2
  all_goals go_ret
  all_goals refine ⟨ret_b (by simp_all [Prf.eqB]), (by repeat (first | (with_reducible exact Ext.refl _) | (with_reducible assumption) | with_reducible refine Ext.drew ?_ | with_reducible refine Ext.alloc ?_ _ | with_reducible refine Ext.setCell ?_ (by first | (simp; done) | (simp; omega) | omega) _ | with_reducible refine Ext.trans ?_ (by with_reducible assumption)))⟩

theorem infoPrf : (Try.prog.info? 45).map (fun i => (i.zero, i.size, i.bytes)) = some (some (.agg #[.int .i64 0, .int .i64 0, .int .i64 0, .int .i64 0, .bool false]), 5, 40) := by kernel_rfl

set_option maxHeartbeats 400000 in
theorem laws_toProofS {ao : Option Addr} {cap : Nat} {ms : List Prf} {w : World} (h : RowAt w ao 5 ms.length (fun k => (nth ms k).c)) (hn : ms.length ≤ 1048576) :
    Calls Try.prog 8 #[.slice ao ms.length cap] w fun e w' => ∃ B, e = .returned (.slice (some ⟨B, 0, none⟩) ms.length ms.length) ∧ Ext w w' ∧ FreshAt w.heap.size w' (some ⟨B, 0, none⟩) 5 ms.length (fun k => (nth ms k).c) := by
  obtain ⟨i0, hi, hz0, hz1, hz2⟩ := info_parts infoPrf
  obtain ⟨n, hN⟩ : ∃ n, n = ms.length := ⟨_, rfl⟩
  rw [← hN] at hn h ⊢
  clear hN
  go_enter Try.func8, Try.ntmps8
  go_wp2_with (refine wpList_make_full _ rfl _ _ _ rfl (w.heap.size) 45 i0 _ 5 Try.underlying27 hi hz0 hz1 .i64 .i64 n n n rfl rfl rfl rfl (by rw [hz2]; omega) (by unfold maxLen; omega) (by simp) ?_; intro w1 hown hgrow)
  have hF := Fill.start (c := fun k => (nth ms k).c) hown hgrow
  clear hown hgrow hi hz0 hz1 hz2
  go_loopw [4] (fun i wr => ∃ k : Nat, k ≤ n ∧ i = .int .i64 k ∧ Fill w wr w.heap.size 5 n (k * 5) (fun k => (nth ms k).c)) (fun i _ => n - (intOf i).toNat)
  case atStart => exact ⟨0, Nat.zero_le _, rfl, by simpa using hF⟩
  case round =>
    clear hF
    obtain ⟨k, hk, rfl, hF⟩ := hrel
    by_cases hlt : k < n
    · obtain ⟨b, off, rfl, hcell⟩ := h (by omega)
      have d0 : wr.cell? ⟨b, off + k * 5, none⟩ = some (.int .i64 (nth ms k).runner) := hF.ext.cells (hcell k hlt 0 (by decide))
      have d1 : wr.cell? ⟨b, off + k * 5 + 1, none⟩ = some (.int .i64 (nth ms k).code) := hF.ext.cells (hcell k hlt 1 (by decide))
      have d2 : wr.cell? ⟨b, off + k * 5 + 2, none⟩ = some (.int .i64 (nth ms k).kind) := hF.ext.cells (hcell k hlt 2 (by decide))
      have d3 : wr.cell? ⟨b, off + k * 5 + 3, none⟩ = some (.int .i64 (nth ms k).weight) := hF.ext.cells (hcell k hlt 3 (by decide))
      have d4 : wr.cell? ⟨b, off + k * 5 + 4, none⟩ = some (.bool (nth ms k).against) := hF.ext.cells (hcell k hlt 4 (by decide))
      obtain ⟨u0, e0⟩ := hF.cell (k * 5) (by omega)
      have f0 := hF.free (k * 5)
      obtain ⟨u1, e1⟩ := hF.cell (k * 5 + 1) (by omega)
      have f1 := hF.free (k * 5 + 1)
      obtain ⟨u2, e2⟩ := hF.cell (k * 5 + 2) (by omega)
      have f2 := hF.free (k * 5 + 2)
      obtain ⟨u3, e3⟩ := hF.cell (k * 5 + 3) (by omega)
      have f3 := hF.free (k * 5 + 3)
      obtain ⟨u4, e4⟩ := hF.cell (k * 5 + 4) (by omega)
      have f4 := hF.free (k * 5 + 4)
      have hsz := hF.size
      clear hcell h
      go_wp2_with (go_at_call 45; refine (laws_toProof).mono ?_; rintro e w1 ⟨rfl, hx1⟩; have hc1 := Ext.cellr hx1; have hf1 := Ext.frozenr hx1; have hz1 := Ext.size hx1; (try simp at hz1))
      have R0 := hF.kept hx1
      have R1 := R0.put (i := k) (j := 0) (by decide) rfl hlt
      have R2 := R1.put (i := k) (j := 1) (by decide) rfl hlt
      have R3 := R2.put (i := k) (j := 2) (by decide) (by omega) hlt
      have R4 := R3.put (i := k) (j := 3) (by decide) (by omega) hlt
      have R5 := R4.put (i := k) (j := 4) (by decide) (by omega) hlt
      go_roundw
      case rel => exact ⟨k + 1, by omega, by go_num, by rw [show (k + 1) * 5 = k * 5 + 1 + 1 + 1 + 1 + 1 by omega]; exact R5⟩
      case measure => simp [intOf]; omega
    · obtain rfl : k = n := by omega
      go_wp2
      go_ret
      exact ⟨_, rfl, hF.ext, hF.fresh rfl⟩

set_option maxHeartbeats 400000 in
theorem laws_eqProofS {ao bo : Option Addr} {cap cap' : Nat} {xs ys : List Prf} {w : World} (h : RowAt w ao 5 xs.length (fun k => (nth xs k).c)) (h' : RowAt w bo 5 ys.length (fun k => (nth ys k).c)) (hn : xs.length ≤ 9223372036854775807) (hn' : ys.length ≤ 9223372036854775807) :
    Calls Try.prog 11 #[.slice ao xs.length cap, .slice bo ys.length cap'] w fun e w' => e = .returned (.bool (eqL Prf.eqB xs ys)) ∧ Ext w w' := by
  obtain ⟨n, hN⟩ : ∃ n, n = xs.length := ⟨_, rfl⟩
  obtain ⟨m, hM⟩ : ∃ m, m = ys.length := ⟨_, rfl⟩
  have hfin : eqL Prf.eqB xs ys = (decide (n = m) && upto (fun k => (nth xs k).eqB (nth ys k)) n) := by rw [hN, hM]; rfl
  have HF := Lib.hid hfin; clear hfin
  rw [← hN] at hn h ⊢
  rw [← hM] at hn' h' ⊢
  clear hN hM
  by_cases hnm : n = m
  · subst hnm
    go_enter Try.func11, Try.ntmps11
    go_wp2
    go_loopw [5] (fun i wr => ∃ k : Nat, k ≤ n ∧ i = .int .i64 k ∧ Ext w wr ∧ upto (fun k => (nth xs k).eqB (nth ys k)) k = true) (fun i _ => n - (intOf i).toNat)
    case atStart => exact ⟨0, Nat.zero_le _, rfl, Ext.refl _, rfl⟩
    case round =>
      obtain ⟨k, hk, rfl, hx, hu⟩ := hrel
      have HU := Lib.hid hu; clear hu
      by_cases hlt : k < n
      · obtain ⟨b, off, rfl, hcell⟩ := h (by omega)
        obtain ⟨b', off', rfl, hcell'⟩ := h' (by omega)
        have d0 := Grow.cells (show wr.cell? ⟨b, off + k * 5, none⟩ = some (.int .i64 (nth xs k).runner) from hx.cells (hcell k hlt 0 (by decide)))
        have d1 := Grow.cells (show wr.cell? ⟨b, off + k * 5 + 1, none⟩ = some (.int .i64 (nth xs k).code) from hx.cells (hcell k hlt 1 (by decide)))
        have d2 := Grow.cells (show wr.cell? ⟨b, off + k * 5 + 2, none⟩ = some (.int .i64 (nth xs k).kind) from hx.cells (hcell k hlt 2 (by decide)))
        have d3 := Grow.cells (show wr.cell? ⟨b, off + k * 5 + 3, none⟩ = some (.int .i64 (nth xs k).weight) from hx.cells (hcell k hlt 3 (by decide)))
        have d4 := Grow.cells (show wr.cell? ⟨b, off + k * 5 + 4, none⟩ = some (.bool (nth xs k).against) from hx.cells (hcell k hlt 4 (by decide)))
        have p0 := Grow.cells (show wr.cell? ⟨b', off' + k * 5, none⟩ = some (.int .i64 (nth ys k).runner) from hx.cells (hcell' k hlt 0 (by decide)))
        have p1 := Grow.cells (show wr.cell? ⟨b', off' + k * 5 + 1, none⟩ = some (.int .i64 (nth ys k).code) from hx.cells (hcell' k hlt 1 (by decide)))
        have p2 := Grow.cells (show wr.cell? ⟨b', off' + k * 5 + 2, none⟩ = some (.int .i64 (nth ys k).kind) from hx.cells (hcell' k hlt 2 (by decide)))
        have p3 := Grow.cells (show wr.cell? ⟨b', off' + k * 5 + 3, none⟩ = some (.int .i64 (nth ys k).weight) from hx.cells (hcell' k hlt 3 (by decide)))
        have p4 := Grow.cells (show wr.cell? ⟨b', off' + k * 5 + 4, none⟩ = some (.bool (nth ys k).against) from hx.cells (hcell' k hlt 4 (by decide)))
        clear hcell hcell' h h'
        go_wp2
        refine wp_region_ext (by kernel_rfl) (by kernel_rfl) ?_
        repeat (go_big_quiet_step ((go_at_call 52; exact Calls.ext_of (laws_eqProof))))
        refine wpQuiet_nil ?_
        rintro _ ⟨⟨w1, hx1⟩, rfl⟩
        clear d0 d1 d2 d3 d4 p0 p1 p2 p3 p4
        go_wp2
        · go_ret
          have ht : (!((nth xs k).eqB (nth ys k))) = true := by assumption
          exact ⟨ret_b (by rw [HF.out, upto_false hlt (by simpa using ht)]; simp), (by repeat (first | (with_reducible exact Ext.refl _) | (with_reducible assumption) | with_reducible refine Ext.drew ?_ | with_reducible refine Ext.alloc ?_ _ | with_reducible refine Ext.setCell ?_ (by first | (simp; done) | (simp; omega) | omega) _ | with_reducible refine Ext.trans ?_ (by with_reducible assumption)))⟩
        · go_roundw
          have ht : (!((nth xs k).eqB (nth ys k))) = false := by assumption
          case rel => exact ⟨k + 1, by omega, by go_num, (by repeat (first | (with_reducible exact Ext.refl _) | (with_reducible assumption) | with_reducible refine Ext.drew ?_ | with_reducible refine Ext.alloc ?_ _ | with_reducible refine Ext.setCell ?_ (by first | (simp; done) | (simp; omega) | omega) _ | with_reducible refine Ext.trans ?_ (by with_reducible assumption))), upto_succ HU.out (by simpa using ht)⟩
          case measure => simp [intOf]; omega
      · obtain rfl : k = n := by omega
        go_wp2
        go_ret
        exact ⟨ret_b (by rw [HF.out, HU.out]; simp), (by repeat (first | (with_reducible exact Ext.refl _) | (with_reducible assumption) | with_reducible refine Ext.drew ?_ | with_reducible refine Ext.alloc ?_ _ | with_reducible refine Ext.setCell ?_ (by first | (simp; done) | (simp; omega) | omega) _ | with_reducible refine Ext.trans ?_ (by with_reducible assumption)))⟩
  · go_enter Try.func11, Try.ntmps11
    go_wp2
    go_ret
    exact ⟨ret_b (by rw [HF.out]; simp [hnm]), Ext.refl _⟩

theorem laws_szProofS {ao : Option Addr} {cap n : Nat} {x : Int} {w : World} (hn : n ≤ 9223372036854775807) (h0 : 0 ≤ x) (h1 : x ≤ 1048576) :
    Calls Try.prog 6 #[.slice ao n cap, .int .i64 x] w fun e w' => e = .returned (.int .i64 (szI n x)) ∧ w = w' := by
  by_cases h : (n : Int) ≤ x
  · go_enter Try.func6, Try.ntmps6
    go_wp2
    go_ret
    exact ⟨ret_i (by simp [szI]; omega), rfl⟩
  · go_enter Try.func6, Try.ntmps6
    go_wp2
    go_ret
    exact ⟨ret_i (by simp [szI]; omega), rfl⟩

set_option maxRecDepth 100000 in
/-- A reading of such a slice, opened. -/
theorem trod_ProofS {H : Type} {enc : TypeId × Value → H} {w : World} {v : Value} {fuel : Nat} {x : DataW H × List MemPlace} {base : Nat} {spare : Nat → Bool} {held : Bool} (hf : DataW.trod enc Try.prog w base spare held fuel 22 [v] = some x) :
    ∃ (ao : Option Addr) (cap : Nat) (ms : List Prf), v = .slice ao ms.length cap ∧ ms.length ≤ 9223372036854775807 ∧ RowAt w ao 5 ms.length (fun k => (nth ms k).c) ∧ ∀ k, k < ms.length → I64 (nth ms k).runner ∧ I64 (nth ms k).code ∧ I64 (nth ms k).kind ∧ I64 (nth ms k).weight := by
  rcases open_slice_fields Try.underlying22 Try.underlying66 (by kernel_rfl) (by kernel_rfl) hf with ⟨hcs, _⟩ | ⟨a, len, cap, m, Dt, Pl, hcs, _, hl, hm, hmm, _, hi⟩
  · obtain rfl : v = _ := List.singleton_inj.1 hcs
    exact ⟨none, 0, [], rfl, by simp, fun h => by simp at h, fun k hk => by simp at hk⟩
  · obtain rfl : v = _ := List.singleton_inj.1 hcs
    have hex : ∀ k, k < len → ∃ x : Prf, (∀ j, j < 5 → w.cell? (a.add (k * 5 + j)) = some (x.c j)) ∧ I64 x.runner ∧ I64 x.code ∧ I64 x.kind ∧ I64 x.weight := by
      intro k hk
      obtain ⟨ys, n, _, _, _, hfj⟩ := hi k (by rw [hmm]; split <;> omega)
      obtain ⟨v0, y0, hc0, _, ht0⟩ := hfj 0 _ rfl
      obtain ⟨x0, ex0, _, wx0⟩ := DataW.trod_int Try.underlying3 ht0
      obtain rfl : v0 = _ := List.singleton_inj.1 ex0
      obtain ⟨v1, y1, hc1, _, ht1⟩ := hfj 1 _ rfl
      obtain ⟨x1, ex1, _, wx1⟩ := DataW.trod_int Try.underlying3 ht1
      obtain rfl : v1 = _ := List.singleton_inj.1 ex1
      obtain ⟨v2, y2, hc2, _, ht2⟩ := hfj 2 _ rfl
      obtain ⟨x2, ex2, _, wx2⟩ := DataW.trod_int Try.underlying3 ht2
      obtain rfl : v2 = _ := List.singleton_inj.1 ex2
      obtain ⟨v3, y3, hc3, _, ht3⟩ := hfj 3 _ rfl
      obtain ⟨x3, ex3, _, wx3⟩ := DataW.trod_int Try.underlying3 ht3
      obtain rfl : v3 = _ := List.singleton_inj.1 ex3
      obtain ⟨v4, y4, hc4, _, ht4⟩ := hfj 4 _ rfl
      obtain ⟨x4, ex4, _⟩ := DataW.trod_bool Try.underlying4 ht4
      obtain rfl : v4 = _ := List.singleton_inj.1 ex4
      refine ⟨⟨x0, x1, x2, x3, x4⟩, fun j hj => ?_, I64.of_wf wx0, I64.of_wf wx1, I64.of_wf wx2, I64.of_wf wx3⟩
      match j, hj with
      | 0, _ => exact hc0
      | 1, _ => exact hc1
      | 2, _ => exact hc2
      | 3, _ => exact hc3
      | 4, _ => exact hc4
    obtain ⟨ms, rfl, hms⟩ := exists_list hex
    exact ⟨some a, cap, ms, rfl, by unfold maxLen at hm; omega, rowAt_of_add (by decide) (fun k hk => (hms k hk).1), fun k hk => (hms k hk).2⟩

set_option maxRecDepth 100000 in
/-- An argument that is such a slice, opened. -/
theorem open_ProofS {H : Type} {enc : TypeId × Value → H} {w : World} {base : Nat} {v : Value} {d : DataW H} {p : List MemPlace} (hv : Value.okWide Try.prog w .any base 22 v) (h : DataW.Trod enc Try.prog w 0 (fun _ => true) true 22 v d p) :
    ∃ (ao : Option Addr) (cap : Nat) (ms : List Prf), v = .slice ao ms.length cap ∧ ms.length ≤ 9223372036854775807 ∧ RowAt w ao 5 ms.length (fun k => (nth ms k).c) ∧ ∀ k, k < ms.length → I64 (nth ms k).runner ∧ I64 (nth ms k).code ∧ I64 (nth ms k).kind ∧ I64 (nth ms k).weight := by
  obtain ⟨a0, len, cap, rfl⟩ := okWide_slice Try.underlying22 hv
  obtain ⟨fuel, hf⟩ := h
  exact trod_ProofS hf


def Prf.val (x : Prf) : Value := .agg #[.int .i64 x.runner, .int .i64 x.code, .int .i64 x.kind, .int .i64 x.weight, .bool x.against]
set_option maxRecDepth 100000 in
/-- An argument that is such a struct, opened. -/
theorem open_Proof {H : Type} {enc : TypeId × Value → H} {w : World} {base : Nat} {v : Value} {d : DataW H} {p : List MemPlace} (hv : Value.okWide Try.prog w .any base 66 v) (h : DataW.Trod enc Try.prog w 0 (fun _ => true) true 66 v d p) :
    ∃ x : Prf, v = x.val ∧ I64 x.runner ∧ I64 x.code ∧ I64 x.kind ∧ I64 x.weight := by
  obtain ⟨v0, v1, v2, v3, v4, y0, y1, y2, y3, y4, n, rfl, _, _, t0, t1, t2, t3, t4⟩ := open_agg5 Try.underlying66 (by kernel_rfl) (by kernel_rfl) hv h
  obtain ⟨x0, ex0, _, wx0⟩ := DataW.trod_int Try.underlying3 t0
  obtain rfl : v0 = _ := List.singleton_inj.1 ex0
  obtain ⟨x1, ex1, _, wx1⟩ := DataW.trod_int Try.underlying3 t1
  obtain rfl : v1 = _ := List.singleton_inj.1 ex1
  obtain ⟨x2, ex2, _, wx2⟩ := DataW.trod_int Try.underlying3 t2
  obtain rfl : v2 = _ := List.singleton_inj.1 ex2
  obtain ⟨x3, ex3, _, wx3⟩ := DataW.trod_int Try.underlying3 t3
  obtain rfl : v3 = _ := List.singleton_inj.1 ex3
  obtain ⟨x4, ex4, _⟩ := DataW.trod_bool Try.underlying4 t4
  obtain rfl : v4 = _ := List.singleton_inj.1 ex4
  exact ⟨⟨x0, x1, x2, x3, x4⟩, rfl, I64.of_wf wx0, I64.of_wf wx1, I64.of_wf wx2, I64.of_wf wx3⟩

end Go.Proofs.Ytfnjoinkfghalaa
