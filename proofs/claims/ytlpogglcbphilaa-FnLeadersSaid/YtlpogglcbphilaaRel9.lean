/-
  Proved here: what MassStarters and its reference return.
  Conditions: the number of teams fits an int.
-/
import Derived.Test.YtlpogglcbphilaaRel7
import Derived.Test.YtlpogglcbphilaaOwn2
import Derived.Test.YtlpogglcbphilaaMark
namespace Go.Proofs.Ytlpogglcbphilaa
open Go.RowKit

/-- two ints -/
structure Par where
  a : Int
  b : Int
instance : Inhabited Par := ⟨⟨0, 0⟩⟩
def Par.c (x : Par) : Nat → Value
  | 0 => .int .i64 x.a
  | _ => .int .i64 x.b
theorem par_one : ∀ (x : Par) (j : Nat), j < 2 → (x.c j).oneCell' = true := by
  intro x j hj
  match j, hj with
  | 0, _ => rfl
  | 1, _ => rfl
/-- the runner of leg q + 1 starts with the mass -/
def msB (t : TeamD) (mass : Int) (q : Nat) : Bool :=
  match stU t mass q with
  | none => false
  | some s => decide (legT t q < 0) || (decide (0 < legT t q) && decide (mass < s + legT t q))
/-- those of the legs 1 .. q -/
def msU (t : TeamD) (mass : Int) : Nat → List Par
  | 0 => []
  | q + 1 => if msB t mass q then msU t mass q ++ [⟨t.num, (q : Int) + 1⟩] else msU t mass q
def msA (ts : List TeamD) (mass : Int) (n : Nat) : Nat → List Par
  | 0 => []
  | k + 1 => msA ts mass n k ++ msU (nth ts k) mass n
theorem msU_len (t : TeamD) (mass : Int) (q : Nat) : (msU t mass q).length ≤ q := by
  induction q with
  | zero => simp [msU]
  | succ q ih =>
    rw [msU]
    split
    · simp; omega
    · omega
theorem msA_len (ts : List TeamD) (mass : Int) (n k : Nat) : (msA ts mass n k).length ≤ n * k := by
  induction k with
  | zero => simp [msA]
  | succ k ih =>
    have := msU_len (nth ts k) mass n
    simp only [msA, List.length_append, Nat.mul_add]
    omega
theorem msU_yes {t : TeamD} {mass : Int} {q : Nat} (h : msB t mass q = true) : msU t mass (q + 1) = msU t mass q ++ [⟨t.num, (q : Int) + 1⟩] := by rw [msU, if_pos h]
theorem msU_no {t : TeamD} {mass : Int} {q : Nat} (h : msB t mass q = false) : msU t mass (q + 1) = msU t mass q := by rw [msU, if_neg (by simp [h])]
theorem msB_none {t : TeamD} {mass : Int} {q : Nat} (h : stU t mass q = none) : msB t mass q = false := by simp [msB, h]
theorem msB_neg {t : TeamD} {mass s : Int} {q : Nat} (h : stU t mass q = some s) (hl : legT t q < 0) : msB t mass q = true := by simp [msB, h, hl]
theorem msB_zero {t : TeamD} {mass s : Int} {q : Nat} (h : stU t mass q = some s) (hl : legT t q = 0) : msB t mass q = false := by simp [msB, h, hl]
theorem msB_pos {t : TeamD} {mass s : Int} {q : Nat} (h : stU t mass q = some s) (hl : 0 < legT t q) : msB t mass q = decide (mass < s + legT t q) := by
  have : ¬ legT t q < 0 := by omega
  simp [msB, h, hl, this]
/-- behind the first that is missing there is none -/
theorem msU_stop {t : TeamD} {mass : Int} {q : Nat} (h : stU t mass (q + 1) = none) : ∀ n, q ≤ n → msU t mass n = msU t mass q := by
  intro n hn
  induction n with
  | zero => obtain rfl : q = 0 := by omega
            rfl
  | succ n ih =>
    by_cases e : q = n + 1
    · subst e; rfl
    · rw [msU_no ?_, ih (by omega)]
      by_cases e2 : q = n
      · subst e2
        cases hs : stU t mass q with
        | none => exact msB_none hs
        | some s =>
          refine msB_zero hs ?_
          refine Classical.byContradiction fun hne => ?_
          by_cases hlt : legT t q < 0
          · rw [stU_neg hs hlt] at h; cases h
          · rw [stU_pos hs (by omega)] at h; cases h
      · exact msB_none (stU_none h n (by omega))
def msL (ts : List TeamD) (legs mass : Int) : List Par := if relB ts legs mass then msA ts mass (legs - 1).toNat ts.length else []

theorem infoA2 : (Try.prog.info? 43).map (fun i => (i.zero, i.size, i.bytes)) = some (some (.agg #[.int .i64 0, .int .i64 0]), 2, 16) := by kernel_rfl

set_option maxRecDepth 100000 in
set_option maxHeartbeats 4000000 in
theorem impl_MassStarters {ao : Option Addr} {cap : Nat} {ts : List TeamD} {legs mass : Int} {w : World} (h : GRow w ao 2 ts.length (tsC ts)) (hn : ts.length ≤ 9223372036854775807) (_h1 : I64 legs) (_h2 : I64 mass) :
    Calls Try.prog 20 #[.slice ao ts.length cap, .int .i64 legs, .int .i64 mass] w fun e w' => ∃ bo bc, e = .returned (.tuple #[.slice bo (msL ts legs mass).length bc, .bool (relB ts legs mass)]) ∧ Ext w w' ∧ FreshAt w.heap.size w' bo 2 (msL ts legs mass).length (fun k => (nth (msL ts legs mass) k).c) := by
  obtain ⟨i0, hi, hz0, hz1, hz2⟩ := info_parts infoA2
  cases hv : relB ts legs mass
  · have hL : msL ts legs mass = [] := by simp [msL, hv]
    rw [hL]; clear hL
    go_enter Try.func20, Try.ntmps20
    go_wp2_with fail
    refine (impl_isRelay h hn).mono ?_; rw [hv]; rintro e w1 ⟨rfl, hx1⟩
    go_wp2
    go_ret2
    exact ⟨none, 0, rfl, (by repeat (first | (with_reducible exact Ext.refl _) | (with_reducible assumption) | with_reducible refine Ext.drew ?_ | with_reducible refine Ext.alloc ?_ _ | with_reducible refine Ext.setCell ?_ (by first | (simp; done) | (simp; omega) | omega) _ | with_reducible refine Ext.trans ?_ (by with_reducible assumption))), ⟨fun h => by simp at h, fun a e => (by cases e), fun b off e => (by cases e)⟩⟩
  · have hL : msL ts legs mass = msA ts mass (legs - 1).toNat ts.length := by simp [msL, hv]
    have hvt : teamsB ts legs = true := by simp only [relB, Bool.and_eq_true] at hv; exact hv.1
    have hmm : 1 ≤ mass ∧ mass ≤ 40000 := by simp only [relB, Bool.and_eq_true, inB_iff] at hv; exact hv.2
    have hl4 := (teamsB_at hvt).1
    have h8 := (teamsB_at hvt).2.1
    obtain ⟨m, rfl⟩ : ∃ m : Nat, legs = (m : Int) + 1 := ⟨(legs - 1).toNat, by omega⟩
    rw [show ((m : Int) + 1 - 1).toNat = m by omega] at hL
    rw [hL]
    have HOK := Lib.hid (fun k (hk : k < ts.length) => teamOk hvt hk)
    have hA := impl_isRelay (cap := cap) (legs := (m : Int) + 1) (mass := mass) h hn
    rw [hv] at hA
    clear hL hv hvt
    obtain ⟨n, hN⟩ : ∃ n, n = ts.length := ⟨_, rfl⟩
    rw [← hN] at hn h HOK hA h8 ⊢
    clear hN
    go_enter Try.func20, Try.ntmps20
    go_wp2_with fail
    refine hA.mono ?_; rintro e w1 ⟨rfl, hx1⟩
    clear hA
    have hst := Owns.start (α := Par) (e := 43) (s := 2) (cc := Par.c) hx1
    go_wp2
    go_loopw [8, 23] (fun v i wr => ∃ k : Nat, k ≤ n ∧ i = .int .i64 k ∧ Ext w wr ∧ Owns wr w.heap.size 43 2 Par.c v (msA ts mass m k)) (fun _ i _ => n - (intOf i).toNat)
    case atStart => exact ⟨0, Nat.zero_le _, rfl, (by repeat (first | (with_reducible exact Ext.refl _) | (with_reducible assumption) | with_reducible refine Ext.drew ?_ | with_reducible refine Ext.alloc ?_ _ | with_reducible refine Ext.setCell ?_ (by first | (simp; done) | (simp; omega) | omega) _ | with_reducible refine Ext.trans ?_ (by with_reducible assumption))), hst⟩
    case round =>
      clear hx1 hst
      obtain ⟨k, hk, rfl, hx, hown⟩ := hrel
      by_cases hlt : k < n
      · obtain ⟨b, off, rfl, hcell⟩ := h (by omega)
        obtain ⟨a1, c1, d0, d1, r1, n1, l1⟩ := teams_at (fun j hj => (hcell k hlt j hj).ext hx)
        have ho := HOK.out k hlt
        have hlenA := msA_len ts mass m k
        have hmk : m * k ≤ 3 * 8 := Nat.mul_le_mul (by omega) (by omega)
        have hxb : Ext wr (wr.alloc (Obj.cells #[.int .i64 (nth ts k).num, .slice a1 (nth ts k).legs.length c1] 51)) := (Ext.refl _).alloc _
        have hownb := hown.kept hxb
        have r1w := fun x (hX : Ext wr x) => r1.ext hX
        have hxw := hx.trans hxb
        have hne : ∀ v, Owns wr w.heap.size 43 2 Par.c v (msA ts mass m k) → v.ownBlock ≠ some wr.heap.size := fun v hv e => by
          have h1 : wr.ownsRow w.heap.size 43 2 v _ _ := hv
          have := (h1.lt _ e).2
          omega
        have hne0 := hne _ hown
        have hb0 : (wr.alloc (Obj.cells #[.int .i64 (nth ts k).num, .slice a1 (nth ts k).legs.length c1] 51)).cell? ⟨wr.heap.size, 0, none⟩ = some (.int .i64 (nth ts k).num) := by go_simp
        have hb1 : (wr.alloc (Obj.cells #[.int .i64 (nth ts k).num, .slice a1 (nth ts k).legs.length c1] 51)).cell? ⟨wr.heap.size, 1, none⟩ = some (.slice a1 (nth ts k).legs.length c1) := by go_simp
        have hbs : wr.heap.size < (wr.alloc (Obj.cells #[.int .i64 (nth ts k).num, .slice a1 (nth ts k).legs.length c1] 51)).heap.size := by simp
        have r1 : ∀ x, Ext w x → RowAt x a1 1 (nth ts k).legs.length (ic (nth ts k).legs) := fun x hX => by
          obtain ⟨a1', c1', _, d1', r1', _, _⟩ := teams_at (fun j hj => hcell k hlt j hj)
          have := hx.cells d1'
          rw [d1] at this
          injection this with this
          injection this with e1 _ e3
          subst e1
          exact r1'.ext hX
        have HR := Lib.hid r1
        clear hcell h hown hx hxb r1 r1w hne
        obtain ⟨wo, rfl⟩ : ∃ wo : World, wo = wr := ⟨_, rfl⟩
        have HST := Lib.hid (And.intro hb0 (And.intro hb1 (And.intro hne0 (And.intro hbs hownb))))
        clear hb0 hb1 hne0 hbs hownb
        go_wp2
        clear d0 d1
        go_loopw [8, 11] (fun v i wi => ∃ q : Nat, q ≤ m ∧ i = .int .i64 ((q : Int) + 1) ∧ Ext w wi ∧ wi.cell? ⟨wo.heap.size, 0, none⟩ = some (.int .i64 (nth ts k).num) ∧ wi.cell? ⟨wo.heap.size, 1, none⟩ = some (.slice a1 (nth ts k).legs.length c1) ∧ v.ownBlock ≠ some wo.heap.size ∧ wo.heap.size < wi.heap.size ∧ Owns wi w.heap.size 43 2 Par.c v (msA ts mass m k ++ msU (nth ts k) mass q)) (fun _ i _ => m + 1 - (intOf i).toNat)
        case atStart => exact ⟨0, Nat.zero_le _, by go_num, hxw, HST.out.1, HST.out.2.1, HST.out.2.2.1, HST.out.2.2.2.1, by simpa [msU] using HST.out.2.2.2.2⟩
        case round =>
          clear HST hxw
          obtain ⟨q, hq, rfl, hX, f0, f1, hnb, hbs, hown⟩ := hrel
          have HNB := Lib.hid hnb; clear hnb
          have hlenU := msU_len (nth ts k) mass q
          by_cases hql : q < m
          · have hSt := impl_startOf (w := wr) (t := nth ts k) (ac := c1) (m := q) (HR.out _ hX) n1 (by omega) ho hmm.1 hmm.2
            have hT := fun x (hx : Ext wr x) => impl_legTime (w := x) (t := nth ts k) (ac := c1) (m := q) (HR.out _ (hX.trans hx)) n1 (by omega)
            unfold TeamD.val at hSt hT
            have hlb := legT_bd ho q
            cases hst : stU (nth ts k) mass q with
            | none =>
              rw [hst] at hSt
              unfold stV at hSt
              have HN := Lib.hid (msU_no (msB_none hst))
              clear hst
              go_wp2_with fail
              refine hSt.mono ?_; rintro e w2 ⟨rfl, hx2⟩
              have f0' := hx2.cells f0
              have f1' := hx2.cells f1
              go_wp2_with fail
              refine (hT _ hx2).mono ?_; rintro e w3 ⟨rfl, hx3⟩
              have hz3 := (hx2.trans hx3).size
              go_wp2
              go_roundw
              case rel => exact ⟨q + 1, by omega, by go_num, (by repeat (first | (with_reducible exact Ext.refl _) | (with_reducible assumption) | with_reducible refine Ext.drew ?_ | with_reducible refine Ext.alloc ?_ _ | with_reducible refine Ext.setCell ?_ (by first | (simp; done) | (simp; omega) | omega) _ | with_reducible refine Ext.trans ?_ (by with_reducible assumption))), hx3.cells f0', hx3.cells f1', HNB.out, by omega, by rw [HN.out]; exact hown.kept (hx2.trans hx3)⟩
              case measure => simp [intOf]; omega
            | some s =>
              have hsb := stU_bd hmm.1 hmm.2 hst
              rw [hst] at hSt
              unfold stV at hSt
              by_cases hneg : legT (nth ts k) q < 0
              · have HN := Lib.hid (msU_yes (msB_neg hst hneg))
                clear hst
                have hrow2 := fun x => row_lit (w := x) (cs := #[.int .i64 (nth ts k).num, .int .i64 ((q : Int) + 1)]) (T := 43) (s := 2) (cc := Par.c) (x := ⟨(nth ts k).num, (q : Int) + 1⟩) (by intro j hj; match j, hj with | 0, _ => rfl | 1, _ => rfl)
                go_wp2_with fail
                refine hSt.mono ?_; rintro e w2 ⟨rfl, hx2⟩
                have f0' := hx2.cells f0
                have f1' := hx2.cells f1
                go_wp2_with fail
                refine (hT _ hx2).mono ?_; rintro e w3 ⟨rfl, hx3⟩
                have g0 := hx3.cells f0'
                have g1 := hx3.cells f1'
                have hown3 := hown.kept (hx2.trans hx3)
                have hX3 := hX.trans (hx2.trans hx3)
                have hz3 := (hx2.trans hx3).size
                have hbs3 : wo.heap.size < w3.heap.size := by omega
                clear hown hx2 hx3 f0 f1 f0' f1' hSt hT hX hz3
                go_wp2_with (at_builtin; refine wpList_append_where rfl _ _ 39 rfl w 43 i0 _ 2 16 Try.underlying39 hi hz0 hz1 hz2 rfl (by decide) Par.c par_one _ (msA ts mass m k ++ msU (nth ts k) mass q) [⟨(nth ts k).num, (q : Int) + 1⟩] rfl (hown3.kept ((Ext.refl _).alloc _)) ⟨w3.heap.size, 0, none⟩ 1 1 rfl rfl (hrow2 _) (by simp; omega) (by simp; omega) (hX3.alloc _) ?_; intro v1 w4 ho1 hx4 hg4 hw4)
                rw [List.append_assoc, ← HN.out] at ho1
                have hva := HNB.out
                have gl0 := Ext.cells ((Ext.refl _).alloc (Obj.cells #[.int .i64 (nth ts k).num, .int .i64 ((q : Int) + 1)] 43)) g0
                have gl1 := Ext.cells ((Ext.refl _).alloc (Obj.cells #[.int .i64 (nth ts k).num, .int .i64 ((q : Int) + 1)] 43)) g1
                have k0 := (grown_cell hg4 (World.block_lt_of_cell? _ _ gl0) hva).trans gl0
                have k1 := (grown_cell hg4 (World.block_lt_of_cell? _ _ gl1) hva).trans gl1
                have hnb1 : v1.ownBlock ≠ some wo.heap.size := by
                  rcases hw4 with e | e
                  · rw [e]; exact hva
                  · rw [e]; intro e'; injection e' with e'; simp at e'; omega
                have hbs4 : wo.heap.size < w4.heap.size := World.block_lt_of_cell? _ _ k0
                have HK := Lib.hid (And.intro k0 (And.intro k1 (And.intro hnb1 (And.intro hbs4 ho1))))
                clear k0 k1 hnb1 hbs4 ho1 gl0 gl1 hva hg4 hw4 g0 g1 hown3
                go_wp2
                go_roundw
                case rel => exact ⟨q + 1, by omega, by go_num, (by repeat (first | (with_reducible exact Ext.refl _) | (with_reducible assumption) | with_reducible refine Ext.drew ?_ | with_reducible refine Ext.alloc ?_ _ | with_reducible refine Ext.setCell ?_ (by first | (simp; done) | (simp; omega) | omega) _ | with_reducible refine Ext.trans ?_ (by with_reducible assumption))), HK.out.1, HK.out.2.1, HK.out.2.2.1, HK.out.2.2.2.1, HK.out.2.2.2.2⟩
                case measure => simp [intOf]; omega
              · by_cases h0 : legT (nth ts k) q = 0
                · have HN := Lib.hid (msU_no (msB_zero hst h0))
                  have h0a : ¬ 0 < legT (nth ts k) q := by omega
                  have H0 := Lib.hid h0
                  clear hst h0
                  go_wp2_with fail
                  refine hSt.mono ?_; rintro e w2 ⟨rfl, hx2⟩
                  have f0' := hx2.cells f0
                  have f1' := hx2.cells f1
                  go_wp2_with fail
                  refine (hT _ hx2).mono ?_; rintro e w3 ⟨rfl, hx3⟩
                  have hz3 := (hx2.trans hx3).size
                  go_wp2
                  go_roundw
                  case rel => exact ⟨q + 1, by omega, by go_num, (by repeat (first | (with_reducible exact Ext.refl _) | (with_reducible assumption) | with_reducible refine Ext.drew ?_ | with_reducible refine Ext.alloc ?_ _ | with_reducible refine Ext.setCell ?_ (by first | (simp; done) | (simp; omega) | omega) _ | with_reducible refine Ext.trans ?_ (by with_reducible assumption))), hx3.cells f0', hx3.cells f1', HNB.out, by omega, by rw [HN.out]; exact hown.kept (hx2.trans hx3)⟩
                  case measure => simp [intOf]; omega
                · have hp : 0 < legT (nth ts k) q := by omega
                  clear h0
                  by_cases hgt : mass < s + legT (nth ts k) q
                  · have HN := Lib.hid (msU_yes (show msB (nth ts k) mass q = true by rw [msB_pos hst hp]; simpa using hgt))
                    clear hst
                    have hrow2 := fun x => row_lit (w := x) (cs := #[.int .i64 (nth ts k).num, .int .i64 ((q : Int) + 1)]) (T := 43) (s := 2) (cc := Par.c) (x := ⟨(nth ts k).num, (q : Int) + 1⟩) (by intro j hj; match j, hj with | 0, _ => rfl | 1, _ => rfl)
                    go_wp2_with fail
                    refine hSt.mono ?_; rintro e w2 ⟨rfl, hx2⟩
                    have f0' := hx2.cells f0
                    have f1' := hx2.cells f1
                    go_wp2_with fail
                    refine (hT _ hx2).mono ?_; rintro e w3 ⟨rfl, hx3⟩
                    have g0 := hx3.cells f0'
                    have g1 := hx3.cells f1'
                    have hown3 := hown.kept (hx2.trans hx3)
                    have hX3 := hX.trans (hx2.trans hx3)
                    have hz3 := (hx2.trans hx3).size
                    have hbs3 : wo.heap.size < w3.heap.size := by omega
                    clear hown hx2 hx3 f0 f1 f0' f1' hSt hT hX hz3
                    go_wp2_with (at_builtin; refine wpList_append_where rfl _ _ 39 rfl w 43 i0 _ 2 16 Try.underlying39 hi hz0 hz1 hz2 rfl (by decide) Par.c par_one _ (msA ts mass m k ++ msU (nth ts k) mass q) [⟨(nth ts k).num, (q : Int) + 1⟩] rfl (hown3.kept ((Ext.refl _).alloc _)) ⟨w3.heap.size, 0, none⟩ 1 1 rfl rfl (hrow2 _) (by simp; omega) (by simp; omega) (hX3.alloc _) ?_; intro v1 w4 ho1 hx4 hg4 hw4)
                    rw [List.append_assoc, ← HN.out] at ho1
                    have hva := HNB.out
                    have gl0 := Ext.cells ((Ext.refl _).alloc (Obj.cells #[.int .i64 (nth ts k).num, .int .i64 ((q : Int) + 1)] 43)) g0
                    have gl1 := Ext.cells ((Ext.refl _).alloc (Obj.cells #[.int .i64 (nth ts k).num, .int .i64 ((q : Int) + 1)] 43)) g1
                    have k0 := (grown_cell hg4 (World.block_lt_of_cell? _ _ gl0) hva).trans gl0
                    have k1 := (grown_cell hg4 (World.block_lt_of_cell? _ _ gl1) hva).trans gl1
                    have hnb1 : v1.ownBlock ≠ some wo.heap.size := by
                      rcases hw4 with e | e
                      · rw [e]; exact hva
                      · rw [e]; intro e'; injection e' with e'; simp at e'; omega
                    have hbs4 : wo.heap.size < w4.heap.size := World.block_lt_of_cell? _ _ k0
                    have HK := Lib.hid (And.intro k0 (And.intro k1 (And.intro hnb1 (And.intro hbs4 ho1))))
                    clear k0 k1 hnb1 hbs4 ho1 gl0 gl1 hva hg4 hw4 g0 g1 hown3
                    go_wp2
                    go_roundw
                    case rel => exact ⟨q + 1, by omega, by go_num, (by repeat (first | (with_reducible exact Ext.refl _) | (with_reducible assumption) | with_reducible refine Ext.drew ?_ | with_reducible refine Ext.alloc ?_ _ | with_reducible refine Ext.setCell ?_ (by first | (simp; done) | (simp; omega) | omega) _ | with_reducible refine Ext.trans ?_ (by with_reducible assumption))), HK.out.1, HK.out.2.1, HK.out.2.2.1, HK.out.2.2.2.1, HK.out.2.2.2.2⟩
                    case measure => simp [intOf]; omega
                  · have HN := Lib.hid (msU_no (show msB (nth ts k) mass q = false by rw [msB_pos hst hp]; simpa using hgt))
                    clear hst
                    go_wp2_with fail
                    refine hSt.mono ?_; rintro e w2 ⟨rfl, hx2⟩
                    have f0' := hx2.cells f0
                    have f1' := hx2.cells f1
                    go_wp2_with fail
                    refine (hT _ hx2).mono ?_; rintro e w3 ⟨rfl, hx3⟩
                    have hz3 := (hx2.trans hx3).size
                    go_wp2
                    go_roundw
                    case rel => exact ⟨q + 1, by omega, by go_num, (by repeat (first | (with_reducible exact Ext.refl _) | (with_reducible assumption) | with_reducible refine Ext.drew ?_ | with_reducible refine Ext.alloc ?_ _ | with_reducible refine Ext.setCell ?_ (by first | (simp; done) | (simp; omega) | omega) _ | with_reducible refine Ext.trans ?_ (by with_reducible assumption))), hx3.cells f0', hx3.cells f1', HNB.out, by omega, by rw [HN.out]; exact hown.kept (hx2.trans hx3)⟩
                    case measure => simp [intOf]; omega
          · obtain rfl : q = m := by omega
            go_wp2
            go_roundw
            case rel => exact ⟨k + 1, by omega, by go_num, (by repeat (first | (with_reducible exact Ext.refl _) | (with_reducible assumption) | with_reducible refine Ext.drew ?_ | with_reducible refine Ext.alloc ?_ _ | with_reducible refine Ext.setCell ?_ (by first | (simp; done) | (simp; omega) | omega) _ | with_reducible refine Ext.trans ?_ (by with_reducible assumption))), hown⟩
            case measure => simp [intOf]; omega
      · obtain rfl : k = n := by omega
        obtain ⟨bo, bc, rfl, hF, _, _, _⟩ := hown.fresh
        go_wp2
        go_ret2
        exact ⟨bo, bc, rfl, (by repeat (first | (with_reducible exact Ext.refl _) | (with_reducible assumption) | with_reducible refine Ext.drew ?_ | with_reducible refine Ext.alloc ?_ _ | with_reducible refine Ext.setCell ?_ (by first | (simp; done) | (simp; omega) | omega) _ | with_reducible refine Ext.trans ?_ (by with_reducible assumption))), hF⟩

end Go.Proofs.Ytlpogglcbphilaa
