/-
  Proved here: slices.Clone, slices.IndexFunc, slices.DeleteFunc and slices.MinFunc at controls.
  Conditions: the function leaves what was there as it was, and reads nothing of the row.
-/
import Derived.Test.YtidcfohlhamgmaaTControl
import Derived.Test.YtidcfohlhamgmaaGre0
import Derived.Test.YtidcfohlhamgmaaIdx
import Derived.Test.YtidcfohlhamgmaaDel
import Derived.Test.YtidcfohlhamgmaaOwn3
import Derived.Test.YtidcfohlhamgmaaTouch
import Derived.Lib.SliceRun
import Derived.WalkSpells
namespace Go.Proofs.Ytidcfohlhamgmaa
open Go.RowKit

theorem ct_cells : ∀ (x : Ctl) (j : Nat), j < 2 → (x.c j).oneCell' = true := by
  intro x j hj
  match j, hj with
  | 0, _ => rfl
  | 1, _ => rfl

set_option maxRecDepth 100000 in
theorem clone_Ctl {ao : Option Addr} {cap : Nat} {xs : List Ctl} {w : World} (h : RowAt w ao 2 xs.length (fun k => (nth xs k).c)) (hs : xs.length ≤ 1048577) (hnil : ao = none → cap = 0) :
    Calls Try.prog 107 #[.slice ao xs.length cap] w fun e w' => ∃ v, e = .returned v ∧ Ext w w' ∧ Owns w' w.heap.size 75 2 Ctl.c v xs := by
  obtain ⟨i0, hi, hz0, hz1, hz2⟩ := info_parts infoCtl
  have hq := fun (w : World) => Lib.run_eql_slice_nil (P := Try.prog) w 32 75 ao xs.length cap 0 0 Try.underlying32
  cases ao with
  | none =>
    obtain rfl := hnil rfl
    have hx : xs = [] := by
      rcases Nat.eq_zero_or_pos xs.length with e | e
      · exact List.eq_nil_of_length_eq_zero e
      · obtain ⟨_, _, h, _⟩ := h e; cases h
    subst hx
    have hq0 := fun (w : World) => Lib.run_eql_slice_nil (P := Try.prog) w 32 75 none 0 0 0 0 Try.underlying32
    go_enter Try.func107, Try.ntmps107
    go_wp2
    go_ret
    exact ⟨_, rfl, Ext.refl _, Owns.nil⟩
  | some a =>
    have HST := Lib.hid (Owns.start' (e := 75) (s := 2) (cc := Ctl.c) (Nat.le_refl w.heap.size))
    have HR := Lib.hid (h.ext ((Ext.refl w).alloc (.cells #[] 75)))
    have HXA := Lib.hid ((Ext.refl w).alloc (.cells #[] 75))
    clear h hnil
    go_enter Try.func107, Try.ntmps107
    go_wp2_with (at_builtin; refine wpList_append_rows rfl _ _ 32 rfl w 75 i0 _ 2 16 Try.underlying32 hi hz0 hz1 hz2 rfl (by decide) Ctl.c ct_cells _ [] xs rfl HST.out (some a) xs.length cap rfl rfl (fun h => by cases h) HR.out (by simp; omega) (by simp; omega) HXA.out ?_; intro v1 w3 ho1 hx3; rw [List.nil_append] at ho1; have HO := Lib.hid ho1; have HX := Lib.hid hx3; clear ho1 hx3)
    go_wp2
    go_ret
    exact ⟨_, rfl, HX.out, HO.out⟩

set_option maxHeartbeats 400000 in
theorem indexFunc_CtlK {ao : Option Addr} {cap : Nat} {xs : List Ctl} {F : FuncId} {caps : Array Value} {p : Ctl → Bool} {w : World} (h : RowAt w ao 2 xs.length (fun k => (nth xs k).c)) (hn : xs.length ≤ 9223372036854775807) (hE : EntersF Try.prog F)
    (hp : ∀ k, k < xs.length → ∀ (w' : World), Ext w w' → Calls Try.prog F (#[(nth xs k).val] ++ caps) w' fun e w'' => e = .returned (.bool (p (nth xs k))) ∧ Ext w' w'') :
    Calls Try.prog 111 #[.slice ao xs.length cap, .func (.func F) #[] caps] w fun e w' => e = .returned (.int .i64 (idxU (fun k => p (nth xs k)) xs.length)) ∧ Ext w w' := by
  have HE : Hid (EntersF Try.prog F) := hE
  clear hE
  have HP := Lib.hid hp; clear hp
  go_enter Try.func111, Try.ntmps111
  go_wp2
  go_loopw [8] (fun i wr => ∃ k : Nat, k ≤ xs.length ∧ i = .int .i64 k ∧ Ext w wr ∧ ∀ j, j < k → p (nth xs j) = false) (fun i _ => xs.length - (intOf i).toNat)
  case atStart => exact ⟨0, Nat.zero_le _, rfl, Ext.refl _, fun j hj => by omega⟩
  case round =>
    obtain ⟨k, hk, rfl, hx, hb⟩ := hrel
    have HB := Lib.hid hb; clear hb
    by_cases hlt : k < xs.length
    · obtain ⟨b, off, rfl, hcell⟩ := h (by omega)
      have d0 := hx.cells (hcell k hlt 0 (by decide))
      have d1 := hx.cells (hcell k hlt 1 (by decide))
      simp only [Ctl.c0, Ctl.c1, Nat.add_zero] at d0 d1
      have hcall := fun x hx => HP.out k hlt x hx
      unfold Ctl.val at hcall
      clear hcell h
      have hE : ∀ (args : Array Value) (w : World), (callFunc F args).run Try.prog w = .ok (.enter F args) w := HE
      cases hpk : p (nth xs k)
      all_goals
        rw [hpk] at hcall
        go_wp2_with fail
        refine (hcall _ hx).mono ?_; rintro e w1 ⟨rfl, hx1⟩
        go_wp2
      · go_roundw
        case rel => exact ⟨k + 1, by omega, by go_num, (by repeat (first | (with_reducible exact Ext.refl _) | (with_reducible assumption) | with_reducible refine Ext.drew ?_ | with_reducible refine Ext.alloc ?_ _ | with_reducible refine Ext.setCell ?_ (by first | (simp; done) | (simp; omega) | omega) _ | with_reducible refine Ext.trans ?_ (by with_reducible assumption))), fun j hj => by by_cases e : j = k; (subst e; exact hpk); exact HB.out j (by omega)⟩
        case measure => simp [intOf]; omega
      · go_ret
        exact ⟨ret_i (by rw [idxU_at hlt hpk HB.out]), (by repeat (first | (with_reducible exact Ext.refl _) | (with_reducible assumption) | with_reducible refine Ext.drew ?_ | with_reducible refine Ext.alloc ?_ _ | with_reducible refine Ext.setCell ?_ (by first | (simp; done) | (simp; omega) | omega) _ | with_reducible refine Ext.trans ?_ (by with_reducible assumption)))⟩
    · have hkn : k = xs.length := by omega
      subst hkn
      go_wp2
      go_ret
      exact ⟨ret_i (by rw [idxU_none HB.out]), (by repeat (first | (with_reducible exact Ext.refl _) | (with_reducible assumption) | with_reducible refine Ext.drew ?_ | with_reducible refine Ext.alloc ?_ _ | with_reducible refine Ext.setCell ?_ (by first | (simp; done) | (simp; omega) | omega) _ | with_reducible refine Ext.trans ?_ (by with_reducible assumption)))⟩

set_option maxRecDepth 100000 in
set_option maxHeartbeats 2000000 in
theorem deleteFunc_Ctl {B0 g cap : Nat} {xs : List Ctl} {F : FuncId} {caps : Array Value} {p : Ctl → Bool} {w : World} (h : FreshAt B0 w (some ⟨g, 0, none⟩) 2 xs.length (fun k => (nth xs k).c)) (hn : xs.length ≤ 1048577) (hcap : xs.length ≤ cap) (hcm : cap ≤ 9223372036854775807) (hE : EntersF Try.prog F)
    (hp : ∀ k, k < xs.length → ∀ (w' : World), w.grownBy w' (some g) → Calls Try.prog F (#[(nth xs k).val] ++ caps) w' fun e w'' => e = .returned (.bool (p (nth xs k))) ∧ Ext w' w'') :
    Calls Try.prog 72 #[.slice (some ⟨g, 0, none⟩) xs.length cap, .func (.func F) #[] caps] w fun e w' => e = .returned (.slice (some ⟨g, 0, none⟩) (keptL p xs).length cap) ∧ w.grownBy w' (some g) ∧ FreshAt B0 w' (some ⟨g, 0, none⟩) 2 (keptL p xs).length (fun k => (nth (keptL p xs) k).c) := by
  have hidx := indexFunc_CtlK (cap := cap) h.row (by omega) hE (fun k hk w' hx => hp k hk w' (grown_of_ext hx))
  have hbase := (h.base _ rfl).1
  have hg0 : g < w.heap.size := (h.base _ rfl).2
  have HE : Hid (EntersF Try.prog F) := hE
  clear hE
  have HP := Lib.hid hp; clear hp
  have hcells : ∀ q, q < xs.length * 2 → w.cell? ⟨g, q, none⟩ = some (fc 2 Ctl.c xs q) := fun q hq => by
    obtain ⟨b, off, e, H⟩ := h.row (by omega)
    injection e with e; injection e with e1 e2; subst e1 e2
    have := H (q / 2) (by omega) (q % 2) (by omega)
    rwa [show 0 + q / 2 * 2 + q % 2 = q by omega] at this
  rcases idxU_cases (fun k => p (nth xs k)) xs.length with ⟨e0, hall⟩ | ⟨k0, hk0, e0, hpk, hbef⟩
  · rw [e0] at hidx
    have hK : keptL p xs = xs := kept_all hall
    rw [hK]
    clear hall hK e0 hcells
    go_enter Try.func72, Try.ntmps72
    go_wp2_with fail
    refine hidx.mono ?_; rintro e w1 ⟨rfl, hx1⟩
    go_wp2
    go_ret
    exact ⟨rfl, grown_of_ext hx1, h.ext hx1⟩
  · rw [e0] at hidx
    have hc0 : cntU p xs k0 = k0 := cntU_before hbef
    have hc1 : cntU p xs (k0 + 1) = k0 := by rw [cntU_yes hpk, hc0]
    have hlo0 : ∀ q, q < k0 * 2 → fc 2 Ctl.c xs q = fc 2 Ctl.c (keptL p xs) q := fun q hq => by
      have h1 := hbef (q / 2) (by omega)
      have h2 := kept_nth (p := p) (xs := xs) (k := q / 2) (by omega) h1
      rw [cntU_before (fun j hj => hbef j (by omega))] at h2
      unfold fc
      rw [h2]
    have hfin := cntU_all p xs
    have hd0 : DW w w g (xs.length * 2) (k0 * 2) ((k0 + 1) * 2) (fc 2 Ctl.c (keptL p xs)) (fc 2 Ctl.c xs) :=
      ⟨grown_refl _ _, hg0, fun q hq => by rw [hcells q (by omega), hlo0 q hq], fun q _ h2 => hcells q h2, fun q hq => ⟨_, hcells q hq⟩, fun q => h.free g 0 rfl q⟩
    clear hcells hbef e0 hc0 hlo0
    have HF := Lib.hid hfin; clear hfin
    have HC1 := Lib.hid hc1; clear hc1
    have hz : ∀ w, (zeroValue 75).run Try.prog w = .ok (.agg #[.int .i64 0, .int .i64 0]) w := fun _ => by kernel_rfl
    go_enter Try.func72, Try.ntmps72
    go_wp2_with fail
    refine hidx.mono ?_; rintro e w1 ⟨rfl, hx1⟩
    have hneg : ((k0 : Int) == -1) = false := by simp
    go_wp2
    go_loopw [5, 6] (fun i j wr => ∃ (ki kj : Nat), kj ≤ xs.length ∧ ki + 1 ≤ kj ∧ i = .int .i64 ki ∧ j = .int .i64 kj ∧ cntU p xs kj = ki ∧ DW w wr g (xs.length * 2) (ki * 2) (kj * 2) (fc 2 Ctl.c (keptL p xs)) (fc 2 Ctl.c xs)) (fun _ j _ => xs.length - (intOf j).toNat)
    case atStart => exact ⟨k0, k0 + 1, by omega, by omega, rfl, by go_num, HC1.out, hd0.kept hx1⟩
    case round =>
      clear hd0 hneg hidx hx1
      obtain ⟨ki, kj, hkj, hij, rfl, rfl, hcnt, hD⟩ := hrel
      have HCN := Lib.hid hcnt; clear hcnt
      by_cases hlt : kj < xs.length
      · have d0 := hD.hi (kj * 2) (by omega) (by omega)
        have d1 := hD.hi (kj * 2 + 1) (by omega) (by omega)
        simp only [fc, show kj * 2 / 2 = kj by omega, show kj * 2 % 2 = 0 by omega, show (kj * 2 + 1) / 2 = kj by omega, show (kj * 2 + 1) % 2 = 1 by omega, Ctl.c0, Ctl.c1] at d0 d1
        obtain ⟨u0, e0⟩ := hD.all (ki * 2) (by omega)
        obtain ⟨u1, e1⟩ := hD.all (ki * 2 + 1) (by omega)
        have f0 := hD.free (ki * 2)
        have f1 := hD.free (ki * 2 + 1)
        have hsz := hD.size
        have hcall := fun x hx => HP.out kj hlt x hx
        have hE : ∀ (args : Array Value) (w : World), (callFunc F args).run Try.prog w = .ok (.enter F args) w := HE
        have hx2 : Ext wr (wr.alloc (Obj.cells #[.int .i64 (nth xs kj).code, .int .i64 (nth xs kj).cell] 75)) := (Ext.refl _).alloc _
        have hcw := hcall _ (grown_trans hD.grown (grown_of_ext hx2))
        unfold Ctl.val at hcw
        cases hpk' : p (nth xs kj)
        · rw [hpk'] at hcw
          clear hcall
          go_wp2_with fail
          refine hcw.mono ?_; rintro e w2 ⟨rfl, hx3⟩
          have hD2 := hD.kept (hx2.trans hx3)
          have b0 : w2.cell? ⟨wr.heap.size, 0, none⟩ = some (.int .i64 (nth xs kj).code) := hx3.cells (by go_simp)
          have b1 : w2.cell? ⟨wr.heap.size, 1, none⟩ = some (.int .i64 (nth xs kj).cell) := hx3.cells (by go_simp)
          have hxx := hx2.trans hx3
          have e0' := hxx.cells e0
          have e1' := hxx.cells e1
          have f0' := hD2.free (ki * 2)
          have f1' := hD2.free (ki * 2 + 1)
          have hnth := kept_nth (p := p) hlt hpk'
          rw [HCN.out] at hnth
          have HNT := Lib.hid hnth; clear hnth
          clear hcw hx2 hx3 hxx d0 d1 e0 e1 f0 f1 hD
          go_wp2
          have R1 := hD2.put (by omega) (by omega) (u := .int .i64 (nth xs kj).code) (by simp only [fc, show ki * 2 / 2 = ki by omega, show ki * 2 % 2 = 0 by omega, HNT.out]; rfl)
          have R2 := R1.put (by omega) (by omega) (u := .int .i64 (nth xs kj).cell) (by simp only [fc, show (ki * 2 + 1) / 2 = ki by omega, show (ki * 2 + 1) % 2 = 1 by omega, HNT.out]; rfl)
          have R := R2.skip (J' := (kj + 1) * 2) (by omega)
          rw [show ki * 2 + 1 + 1 = (ki + 1) * 2 by omega] at R
          go_roundw
          case rel => exact ⟨ki + 1, kj + 1, by omega, by omega, by go_num, by go_num, by rw [cntU_no hpk', HCN.out], R⟩
          case measure => simp [intOf]; omega
        · rw [hpk'] at hcw
          clear hcall
          go_wp2_with fail
          refine hcw.mono ?_; rintro e w2 ⟨rfl, hx3⟩
          have hD2 := (hD.kept (hx2.trans hx3)).skip (J' := (kj + 1) * 2) (by omega)
          clear hcw hx2 hx3 d0 d1 e0 e1 f0 f1 hD
          go_wp2
          go_roundw
          case rel => exact ⟨ki, kj + 1, by omega, by omega, rfl, by go_num, by rw [cntU_yes hpk', HCN.out], hD2⟩
          case measure => simp [intOf]; omega
      · obtain rfl : kj = xs.length := by omega
        have hm : (keptL p xs).length = ki := by rw [← HF.out, HCN.out]
        have HM := Lib.hid hm; clear hm
        have hcl : ∀ ty, (Builtin.clear_ #[32] ty #[.slice (some ⟨g, ki * 2, none⟩) (xs.length - ki) (cap - ki)]).run Try.prog wr = .ok (.tuple #[]) (wr.setCells g (ki * 2) (Builtin.zeroCells (#[.int .i64 0, .int .i64 0] : Array Value) (xs.length - ki)).toList) :=
          fun ty => run_clear_rows wr 32 ty 75 Try.underlying32 _ hz (by decide) (by decide) g (ki * 2) _ _ (by omega) (fun j hj => by
            obtain ⟨u, hu⟩ := hD.all (ki * 2 + j) (by simp only [Value.cells] at hj; simp at hj; omega)
            rw [hu]; rfl) hD.free
        have hend := hD.clear (Builtin.zeroCells (#[.int .i64 0, .int .i64 0] : Array Value) (xs.length - ki)).toList
        have HEND := Lib.hid hend; clear hend
        clear hD
        go_wp2
        go_ret
        obtain ⟨q1, q2, q3, q4⟩ := HEND.out
        rw [HM.out]
        refine ⟨rfl, q1, ⟨fun hpos => ⟨g, 0, rfl, fun k hk j hj => ?_⟩, fun a e => by injection e with e; subst e; exact ⟨hbase, q2⟩, fun b off e j => by injection e with e; injection e with e1 e2; subst e1; exact q4 j⟩⟩
        have := q3 (k * 2 + j) (by omega)
        rw [show 0 + k * 2 + j = k * 2 + j by omega, this]
        simp only [fc]
        rw [show (k * 2 + j) / 2 = k by omega, show (k * 2 + j) % 2 = j by omega]

theorem deleteFunc_nil_Ctl {F : FuncId} {caps : Array Value} {w : World} :
    Calls Try.prog 72 #[.slice none 0 0, .func (.func F) #[] caps] w fun e w' => e = .returned (.slice none 0 0) ∧ Ext w w' := by
  have hidx : Calls Try.prog 111 #[.slice none 0 0, .func (.func F) #[] caps] w fun e w' => e = .returned (.int .i64 (-1)) ∧ Ext w w' := by
    go_enter Try.func111, Try.ntmps111
    go_wp2
    go_loopw [8] (fun i wr => i = .int .i64 0 ∧ Ext w wr) (fun _ _ => 0)
    case atStart => exact ⟨rfl, Ext.refl _⟩
    case round =>
      obtain ⟨rfl, hx⟩ := hrel
      go_wp2
      go_ret
      exact ⟨rfl, (by repeat (first | (with_reducible exact Ext.refl _) | (with_reducible assumption) | with_reducible refine Ext.drew ?_ | with_reducible refine Ext.alloc ?_ _ | with_reducible refine Ext.setCell ?_ (by first | (simp; done) | (simp; omega) | omega) _ | with_reducible refine Ext.trans ?_ (by with_reducible assumption)))⟩
  go_enter Try.func72, Try.ntmps72
  go_wp2_with fail
  refine hidx.mono ?_; rintro e w1 ⟨rfl, hx1⟩
  go_wp2
  go_ret
  exact ⟨rfl, (by repeat (first | (with_reducible exact Ext.refl _) | (with_reducible assumption) | with_reducible refine Ext.drew ?_ | with_reducible refine Ext.alloc ?_ _ | with_reducible refine Ext.setCell ?_ (by first | (simp; done) | (simp; omega) | omega) _ | with_reducible refine Ext.trans ?_ (by with_reducible assumption)))⟩


/-- a cell block that holds a control -/
structure BoxC (w : World) (B : Nat) (x : Ctl) : Prop where
  c0 : w.cell? ⟨B, 0, none⟩ = some (.int .i64 x.code)
  c1 : w.cell? ⟨B, 1, none⟩ = some (.int .i64 x.cell)
  fr : ∀ j, w.frozen? ⟨B, j, none⟩ = false
  lt : B < w.heap.size
theorem BoxC.ext {w w' : World} {B : Nat} {x : Ctl} (h : BoxC w B x) (hx : Ext w w') : BoxC w' B x where
  c0 := hx.cells h.c0
  c1 := hx.cells h.c1
  fr := fun j => (hx.frozenr B j h.lt).trans (h.fr j)
  lt := Nat.lt_of_lt_of_le h.lt hx.size
theorem BoxC.put {w : World} {B : Nat} {m : Ctl} (h : BoxC w B m) (x : Ctl) : BoxC ((w.setCell ⟨B, 0, none⟩ (.int .i64 x.code)).setCell ⟨B, 1, none⟩ (.int .i64 x.cell)) B x where
  c0 := (World.cell?_setCell_other _ _ _ _ (fun e => by injection e with _ e; omega)).trans (World.cell?_setCell_same _ _ _ h.c0)
  c1 := World.cell?_setCell_same _ _ _ ((World.cell?_setCell_other _ _ _ _ (fun e => by injection e with _ e; omega)).trans h.c1)
  fr := fun j => by simp only [World.frozen?_setCell]; exact h.fr j
  lt := by simpa [World.setCell] using h.lt
theorem Ext.put2 {a w : World} (h : Ext a w) {B : Nat} (hB : a.heap.size ≤ B) (u0 u1 : Value) : Ext a ((w.setCell ⟨B, 0, none⟩ u0).setCell ⟨B, 1, none⟩ u1) :=
  Ext.setCell (p := ⟨B, 1, none⟩) (Ext.setCell (p := ⟨B, 0, none⟩) h hB u0) hB u1

set_option maxRecDepth 100000 in
set_option maxHeartbeats 2000000 in
theorem minFunc_Ctl {ao : Option Addr} {cap : Nat} {xs : List Ctl} {F : FuncId} {caps : Array Value} {o : Ctl → Ctl → Int} {q : Ctl → Ctl → Bool} {w : World} (h : RowAt w ao 2 xs.length (fun k => (nth xs k).c)) (hn : xs.length ≤ 9223372036854775807) (h1 : 0 < xs.length) (hE : EntersF Try.prog F)
    (hl : ∀ a b, decide (o a b < 0) = q a b)
    (hp : ∀ (x y : Ctl) (w' : World), (x ∈ xs ∧ y ∈ xs) → Ext w w' → Calls Try.prog F (#[x.val, y.val] ++ caps) w' fun e w'' => e = .returned (.int .i64 (o x y)) ∧ Ext w' w'') :
    Calls Try.prog 66 #[.slice ao xs.length cap, .func (.func F) #[] caps] w fun e w' => e = .returned (minC q xs xs.length).val ∧ Ext w w' := by
  have HE : Hid (EntersF Try.prog F) := hE
  clear hE
  have HP := Lib.hid hp; clear hp
  have HL := Lib.hid hl; clear hl
  obtain ⟨b, off, rfl, hcell⟩ := h h1
  go_enter Try.func66, Try.ntmps66
  have q0 := hcell 0 h1 0 (by decide)
  have q1 := hcell 0 h1 1 (by decide)
  simp only [Ctl.c0, Ctl.c1, Nat.zero_mul, Nat.add_zero] at q0 q1
  have hb := World.block_lt_of_cell? _ _ q0
  go_wp2
  go_loopw [6] (fun i wr => ∃ k : Nat, 1 ≤ k ∧ k ≤ xs.length ∧ i = .int .i64 k ∧ Ext (w.alloc (Obj.cells #[Value.int .i64 0, Value.int .i64 0] 75)) wr ∧ BoxC wr (w.heap.size + 1) (minC q xs k) ∧ minC q xs k ∈ xs) (fun i _ => xs.length - (intOf i).toNat)
  case atStart =>
    have e : minC q xs 1 = nth xs 0 := by
      rw [minC]
      split <;> rfl
    refine ⟨1, Nat.le_refl _, h1, rfl, (by repeat (first | (with_reducible exact Ext.refl _) | (with_reducible assumption) | with_reducible refine Ext.drew ?_ | with_reducible refine Ext.alloc ?_ _ | with_reducible refine Ext.setCell ?_ (by first | (simp; done) | (simp; omega) | omega) _ | with_reducible refine Ext.trans ?_ (by with_reducible assumption))), ?_, ?_⟩
    · rw [e]
      exact ⟨by go_simp, by go_simp, fun j => by go_simp, by simp⟩
    · rw [e]; simp [nth, h1]
  case round =>
    obtain ⟨k, hk1, hk, rfl, hx, hbox, hmem⟩ := hrel
    have hw0 : Ext w (w.alloc (Obj.cells #[Value.int .i64 0, Value.int .i64 0] 75)) := (Ext.refl _).alloc _
    have hin : ∀ j, j < xs.length → nth xs j ∈ xs := fun j hj => by simp [nth, hj]
    obtain ⟨m, hM⟩ : ∃ m, m = minC q xs k := ⟨_, rfl⟩
    rw [← hM] at hbox hmem
    have HM := Lib.hid hM; clear hM
    have HIN := Lib.hid hin; have HMEM := Lib.hid hmem
    clear hin hmem
    have hbl : b < wr.heap.size := Nat.lt_of_lt_of_le hb (hw0.trans hx).size
    have p0 := hbox.c0
    have p1 := hbox.c1
    have pf := hbox.fr
    have plt := hbox.lt
    have plt0 : w.heap.size < wr.heap.size := by omega
    have z0 : wr.cell? ⟨w.heap.size, 0, none⟩ = some (.int .i64 0) := hx.cells (by go_simp)
    have z1 : wr.cell? ⟨w.heap.size, 1, none⟩ = some (.int .i64 0) := hx.cells (by go_simp)
    have zf : ∀ j, wr.frozen? ⟨w.heap.size, j, none⟩ = false := fun j => (hx.frozenr _ _ (by simp)).trans (by go_simp)
    by_cases hlt : k < xs.length
    · have d0 := (hw0.trans hx).cells (hcell k hlt 0 (by decide))
      have d1 := (hw0.trans hx).cells (hcell k hlt 1 (by decide))
      simp only [Ctl.c0, Ctl.c1, Nat.add_zero] at d0 d1
      clear hcell h q0 q1
      have hE : ∀ (args : Array Value) (w : World), (callFunc F args).run Try.prog w = .ok (.enter F args) w := HE
      have hlp := HL.out (nth xs k) m
      have hnx : minC q xs (k + 1) = if q (nth xs k) m then nth xs k else m := by rw [minC, ← HM.out]
      have HN := Lib.hid hnx; clear hnx
      have hcall := HP.out (nth xs k) m
      have HCL := Lib.hid (fun y hy => hcall y ⟨HIN.out k hlt, HMEM.out⟩ ((hw0.trans hx).trans hy))
      unfold Ctl.val at HCL
      have hki0 : (0 : Int) ≤ (k : Int) := by omega
      have hki1 : (k : Int) < (xs.length : Int) := by omega
      clear hcall
      go_wp2
      refine wp_region_ext (by kernel_rfl) (by kernel_rfl) ?_
      have e0 : ∀ x : Grow wr, x.w.cell? ⟨b, off + k * 2, none⟩ = some (.int .i64 (nth xs k).code) := Grow.cells d0
      have e1 : ∀ x : Grow wr, x.w.cell? ⟨b, off + k * 2 + 1, none⟩ = some (.int .i64 (nth xs k).cell) := Grow.cells d1
      have i0 : ∀ x : Grow wr, x.w.cell? ⟨w.heap.size + 1, 0, none⟩ = some (.int .i64 m.code) := Grow.cells p0
      have i1 : ∀ x : Grow wr, x.w.cell? ⟨w.heap.size + 1, 1, none⟩ = some (.int .i64 m.cell) := Grow.cells p1
      repeat (go_big_quiet_step (exact Calls.ext_of (HCL.out _ (Grow.h _))))
      refine wpQuiet_nil ?_
      rintro _ ⟨⟨w1, hx1⟩, rfl⟩
      clear e0 e1 i0 i1
      rename_i w1
      have hxw : Ext w w1 := hw0.trans (hx.trans hx1)
      have hbox1 := hbox.ext hx1
      have d0 := hx1.cells d0
      have d1 := hx1.cells d1
      have p0 := hbox1.c0
      have p1 := hbox1.c1
      have pf := hbox1.fr
      have plt := hbox1.lt
      have hbl : b < w1.heap.size := Nat.lt_of_lt_of_le hbl hx1.size
      have HB1 := Lib.hid hbox1
      have HX := Lib.hid (hx.trans hx1)
      clear hx hx1 hbox hbox1 z0 z1 zf HCL
      cases hB : q (nth xs k) m
      · have hlt' : decide (o (nth xs k) m < 0) = false := hlp.trans hB
        have hn2 : minC q xs (k + 1) = m := by rw [HN.out, hB]; rfl
        have HN2 := Lib.hid hn2; clear hn2 hB hlp HN
        go_wp2
        go_roundw
        case rel => exact ⟨k + 1, by omega, by omega, by go_num, HX.out, by rw [HN2.out]; exact HB1.out, by rw [HN2.out]; exact HMEM.out⟩
        case measure => simp [intOf]; omega
      · have hlt' : decide (o (nth xs k) m < 0) = true := hlp.trans hB
        have hn2 : minC q xs (k + 1) = nth xs k := by rw [HN.out, hB]; rfl
        have HN2 := Lib.hid hn2; clear hn2 hB hlp HN
        go_wp2
        go_roundw
        case rel => exact ⟨k + 1, by omega, by omega, by go_num, HX.out.put2 (by simp) _ _, by rw [HN2.out]; exact HB1.out.put _, by rw [HN2.out]; exact HIN.out k hlt⟩
        case measure => simp [intOf]; omega
    · have hkn : k = xs.length := by omega
      subst hkn
      have HBX := Lib.hid hbox
      have HX := Lib.hid hx
      clear hx hbox hcell h
      go_wp2
      refine bodyPost_ret (v := .agg #[.int .i64 m.code, .int .i64 m.cell]) ?_ rfl ?_
      · simp [results, Try.results66, go_sem, cell_put, z0, z1]
      · exact ⟨by rw [← HM.out]; rfl, (hw0.trans HX.out).put2 (Nat.le_refl _) _ _⟩

end Go.Proofs.Ytidcfohlhamgmaa
