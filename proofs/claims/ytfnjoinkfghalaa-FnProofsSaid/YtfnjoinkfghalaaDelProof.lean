/-
  Proved here: what slices.DeleteFunc does to proofs of the call's own, whatever the predicate.
  Conditions: the predicate leaves what was there as it was, and reads nothing of the row.
-/
import Derived.Test.YtfnjoinkfghalaaDel
import Derived.Test.YtfnjoinkfghalaaIdxProof
namespace Go.Proofs.Ytfnjoinkfghalaa
open Go.RowKit

set_option maxRecDepth 100000 in
set_option maxHeartbeats 2000000 in
theorem deleteFunc_Proof {B0 g cap : Nat} {xs : List Prf} {F : FuncId} {caps : Array Value} {p : Prf → Bool} {w : World} (h : FreshAt B0 w (some ⟨g, 0, none⟩) 5 xs.length (fun k => (nth xs k).c)) (hn : xs.length ≤ 1048577) (hcap : xs.length ≤ cap) (hcm : cap ≤ 9223372036854775807) (hE : EntersF Try.prog F)
    (hp : ∀ (r c k t : Int) (a : Bool) (w' : World), w.grownBy w' (some g) → Calls Try.prog F (#[.agg #[.int .i64 r, .int .i64 c, .int .i64 k, .int .i64 t, .bool a]] ++ caps) w' fun e w'' => e = .returned (.bool (p ⟨r, c, k, t, a⟩)) ∧ Ext w' w'') :
    Calls Try.prog 69 #[.slice (some ⟨g, 0, none⟩) xs.length cap, .func (.func F) #[] caps] w fun e w' => e = .returned (.slice (some ⟨g, 0, none⟩) (keptL p xs).length cap) ∧ w.grownBy w' (some g) ∧ FreshAt B0 w' (some ⟨g, 0, none⟩) 5 (keptL p xs).length (fun k => (nth (keptL p xs) k).c) := by
  have hidx := indexFunc_Proof (cap := cap) h.row (by omega) hE (fun r c k t a w' hx => hp r c k t a w' (grown_of_ext hx))
  have hbase := (h.base _ rfl).1
  have hg0 : g < w.heap.size := (h.base _ rfl).2
  have HE : Hid (EntersF Try.prog F) := hE
  clear hE
  have HP := Lib.hid hp; clear hp
  have hcells : ∀ q, q < xs.length * 5 → w.cell? ⟨g, q, none⟩ = some (fc 5 Prf.c xs q) := fun q hq => by
    obtain ⟨b, off, e, H⟩ := h.row (by omega)
    injection e with e; injection e with e1 e2; subst e1 e2
    have := H (q / 5) (by omega) (q % 5) (by omega)
    rwa [show 0 + q / 5 * 5 + q % 5 = q by omega] at this
  rcases idxU_cases (fun k => p (nth xs k)) xs.length with ⟨e0, hall⟩ | ⟨k0, hk0, e0, hpk, hbef⟩
  · rw [e0] at hidx
    have hK : keptL p xs = xs := kept_all hall
    rw [hK]
    clear hall hK e0 hcells
    go_enter Try.func69, Try.ntmps69
    go_wp2_with fail
    refine hidx.mono ?_; rintro e w1 ⟨rfl, hx1⟩
    go_wp2
    go_ret
    exact ⟨rfl, grown_of_ext hx1, h.ext hx1⟩
  · rw [e0] at hidx
    have hc0 : cntU p xs k0 = k0 := cntU_before hbef
    have hc1 : cntU p xs (k0 + 1) = k0 := by rw [cntU_yes hpk, hc0]
    have hlo0 : ∀ q, q < k0 * 5 → fc 5 Prf.c xs q = fc 5 Prf.c (keptL p xs) q := fun q hq => by
      have h1 := hbef (q / 5) (by omega)
      have h2 := kept_nth (p := p) (xs := xs) (k := q / 5) (by omega) h1
      rw [cntU_before (fun j hj => hbef j (by omega))] at h2
      unfold fc
      rw [h2]
    have hfin := cntU_all p xs
    have hd0 : DW w w g (xs.length * 5) (k0 * 5) ((k0 + 1) * 5) (fc 5 Prf.c (keptL p xs)) (fc 5 Prf.c xs) :=
      ⟨grown_refl _ _, hg0, fun q hq => by rw [hcells q (by omega), hlo0 q hq], fun q _ h2 => hcells q h2, fun q hq => ⟨_, hcells q hq⟩, fun q => h.free g 0 rfl q⟩
    clear hcells hbef e0 hc0 hlo0
    have HF := Lib.hid hfin; clear hfin
    have HC1 := Lib.hid hc1; clear hc1
    have hz : ∀ w, (zeroValue 45).run Try.prog w = .ok (.agg #[.int .i64 0, .int .i64 0, .int .i64 0, .int .i64 0, .bool false]) w := fun _ => by kernel_rfl
    go_enter Try.func69, Try.ntmps69
    go_wp2_with fail
    refine hidx.mono ?_; rintro e w1 ⟨rfl, hx1⟩
    have hneg : ((k0 : Int) == -1) = false := by simp
    go_wp2
    go_loopw [5, 6] (fun i j wr => ∃ (ki kj : Nat), kj ≤ xs.length ∧ ki + 1 ≤ kj ∧ i = .int .i64 ki ∧ j = .int .i64 kj ∧ cntU p xs kj = ki ∧ DW w wr g (xs.length * 5) (ki * 5) (kj * 5) (fc 5 Prf.c (keptL p xs)) (fc 5 Prf.c xs)) (fun _ j _ => xs.length - (intOf j).toNat)
    case atStart => exact ⟨k0, k0 + 1, by omega, by omega, rfl, by go_num, HC1.out, hd0.kept hx1⟩
    case round =>
      clear hd0 hneg hidx hx1
      obtain ⟨ki, kj, hkj, hij, rfl, rfl, hcnt, hD⟩ := hrel
      have HCN := Lib.hid hcnt; clear hcnt
      by_cases hlt : kj < xs.length
      · have d0 := hD.hi (kj * 5) (by omega) (by omega)
        have d1 := hD.hi (kj * 5 + 1) (by omega) (by omega)
        have d2 := hD.hi (kj * 5 + 2) (by omega) (by omega)
        have d3 := hD.hi (kj * 5 + 3) (by omega) (by omega)
        have d4 := hD.hi (kj * 5 + 4) (by omega) (by omega)
        simp only [fc, show kj * 5 / 5 = kj by omega, show kj * 5 % 5 = 0 by omega, show (kj * 5 + 1) / 5 = kj by omega, show (kj * 5 + 1) % 5 = 1 by omega, show (kj * 5 + 2) / 5 = kj by omega, show (kj * 5 + 2) % 5 = 2 by omega, show (kj * 5 + 3) / 5 = kj by omega, show (kj * 5 + 3) % 5 = 3 by omega, show (kj * 5 + 4) / 5 = kj by omega, show (kj * 5 + 4) % 5 = 4 by omega, Prf.c0, Prf.c1, Prf.c2, Prf.c3, Prf.c4] at d0 d1 d2 d3 d4
        obtain ⟨u0, e0⟩ := hD.all (ki * 5) (by omega)
        obtain ⟨u1, e1⟩ := hD.all (ki * 5 + 1) (by omega)
        obtain ⟨u2, e2⟩ := hD.all (ki * 5 + 2) (by omega)
        obtain ⟨u3, e3⟩ := hD.all (ki * 5 + 3) (by omega)
        obtain ⟨u4, e4⟩ := hD.all (ki * 5 + 4) (by omega)
        have f0 := hD.free (ki * 5)
        have f1 := hD.free (ki * 5 + 1)
        have f2 := hD.free (ki * 5 + 2)
        have f3 := hD.free (ki * 5 + 3)
        have f4 := hD.free (ki * 5 + 4)
        have hsz := hD.size
        have hcall := fun x hx => HP.out (nth xs kj).runner (nth xs kj).code (nth xs kj).kind (nth xs kj).weight (nth xs kj).against x hx
        have hE : ∀ (args : Array Value) (w : World), (callFunc F args).run Try.prog w = .ok (.enter F args) w := HE
        cases hpk' : p (nth xs kj)
        · have hx2 : Ext wr (wr.alloc (Obj.cells #[.int .i64 (nth xs kj).runner, .int .i64 (nth xs kj).code, .int .i64 (nth xs kj).kind, .int .i64 (nth xs kj).weight, .bool (nth xs kj).against] 45)) := (Ext.refl _).alloc _
          have hcw := hcall _ (grown_trans hD.grown (grown_of_ext hx2))
          rw [show p ⟨(nth xs kj).runner, (nth xs kj).code, (nth xs kj).kind, (nth xs kj).weight, (nth xs kj).against⟩ = false from hpk'] at hcw
          clear hcall
          go_wp2_with fail
          refine hcw.mono ?_; rintro e w2 ⟨rfl, hx3⟩
          have hD2 := hD.kept (hx2.trans hx3)
          have b0 : w2.cell? ⟨wr.heap.size, 0, none⟩ = some (.int .i64 (nth xs kj).runner) := hx3.cells (by go_simp)
          have b1 : w2.cell? ⟨wr.heap.size, 1, none⟩ = some (.int .i64 (nth xs kj).code) := hx3.cells (by go_simp)
          have b2 : w2.cell? ⟨wr.heap.size, 2, none⟩ = some (.int .i64 (nth xs kj).kind) := hx3.cells (by go_simp)
          have b3 : w2.cell? ⟨wr.heap.size, 3, none⟩ = some (.int .i64 (nth xs kj).weight) := hx3.cells (by go_simp)
          have b4 : w2.cell? ⟨wr.heap.size, 4, none⟩ = some (.bool (nth xs kj).against) := hx3.cells (by go_simp)
          have hxx := hx2.trans hx3
          have e0' := hxx.cells e0
          have e1' := hxx.cells e1
          have e2' := hxx.cells e2
          have e3' := hxx.cells e3
          have e4' := hxx.cells e4
          have f0' := hD2.free (ki * 5)
          have f1' := hD2.free (ki * 5 + 1)
          have f2' := hD2.free (ki * 5 + 2)
          have f3' := hD2.free (ki * 5 + 3)
          have f4' := hD2.free (ki * 5 + 4)
          have hnth := kept_nth (p := p) hlt hpk'
          rw [HCN.out] at hnth
          have HNT := Lib.hid hnth; clear hnth
          clear hcw hx2 hx3 hxx d0 d1 d2 d3 d4 e0 e1 e2 e3 e4 f0 f1 f2 f3 f4 hD
          go_wp2
          have R1 := hD2.put (by omega) (by omega) (u := .int .i64 (nth xs kj).runner) (by simp only [fc, show ki * 5 / 5 = ki by omega, show ki * 5 % 5 = 0 by omega, HNT.out]; rfl)
          have R2 := R1.put (by omega) (by omega) (u := .int .i64 (nth xs kj).code) (by simp only [fc, show (ki * 5 + 1) / 5 = ki by omega, show (ki * 5 + 1) % 5 = 1 by omega, HNT.out]; rfl)
          have R3 := R2.put (by omega) (by omega) (u := .int .i64 (nth xs kj).kind) (by simp only [fc, show (ki * 5 + 1 + 1) / 5 = ki by omega, show (ki * 5 + 1 + 1) % 5 = 2 by omega, HNT.out]; rfl)
          have R4 := R3.put (by omega) (by omega) (u := .int .i64 (nth xs kj).weight) (by simp only [fc, show (ki * 5 + 1 + 1 + 1) / 5 = ki by omega, show (ki * 5 + 1 + 1 + 1) % 5 = 3 by omega, HNT.out]; rfl)
          have R5 := R4.put (by omega) (by omega) (u := .bool (nth xs kj).against) (by simp only [fc, show (ki * 5 + 1 + 1 + 1 + 1) / 5 = ki by omega, show (ki * 5 + 1 + 1 + 1 + 1) % 5 = 4 by omega, HNT.out]; rfl)
          have R := R5.skip (J' := (kj + 1) * 5) (by omega)
          rw [show ki * 5 + 1 + 1 + 1 + 1 + 1 = (ki + 1) * 5 by omega] at R
          go_roundw
          case rel => exact ⟨ki + 1, kj + 1, by omega, by omega, by go_num, by go_num, by rw [cntU_no hpk', HCN.out], R⟩
          case measure => simp [intOf]; omega
        · have hx2 : Ext wr (wr.alloc (Obj.cells #[.int .i64 (nth xs kj).runner, .int .i64 (nth xs kj).code, .int .i64 (nth xs kj).kind, .int .i64 (nth xs kj).weight, .bool (nth xs kj).against] 45)) := (Ext.refl _).alloc _
          have hcw := hcall _ (grown_trans hD.grown (grown_of_ext hx2))
          rw [show p ⟨(nth xs kj).runner, (nth xs kj).code, (nth xs kj).kind, (nth xs kj).weight, (nth xs kj).against⟩ = true from hpk'] at hcw
          clear hcall
          go_wp2_with fail
          refine hcw.mono ?_; rintro e w2 ⟨rfl, hx3⟩
          have hD2 := (hD.kept (hx2.trans hx3)).skip (J' := (kj + 1) * 5) (by omega)
          clear hcw hx2 hx3 d0 d1 d2 d3 d4 e0 e1 e2 e3 e4 f0 f1 f2 f3 f4 hD
          go_wp2
          go_roundw
          case rel => exact ⟨ki, kj + 1, by omega, by omega, rfl, by go_num, by rw [cntU_yes hpk', HCN.out], hD2⟩
          case measure => simp [intOf]; omega
      · obtain rfl : kj = xs.length := by omega
        have hm : (keptL p xs).length = ki := by rw [← HF.out, HCN.out]
        have HM := Lib.hid hm; clear hm
        have hcl : ∀ ty, (Builtin.clear_ #[27] ty #[.slice (some ⟨g, ki * 5, none⟩) (xs.length - ki) (cap - ki)]).run Try.prog wr = .ok (.tuple #[]) (wr.setCells g (ki * 5) (Builtin.zeroCells (#[.int .i64 0, .int .i64 0, .int .i64 0, .int .i64 0, .bool false] : Array Value) (xs.length - ki)).toList) :=
          fun ty => run_clear_rows wr 27 ty 45 Try.underlying27 _ hz (by decide) (by decide) g (ki * 5) _ _ (by omega) (fun j hj => by
            obtain ⟨u, hu⟩ := hD.all (ki * 5 + j) (by simp only [Value.cells] at hj; simp at hj; omega)
            rw [hu]; rfl) hD.free
        have hend := hD.clear (Builtin.zeroCells (#[.int .i64 0, .int .i64 0, .int .i64 0, .int .i64 0, .bool false] : Array Value) (xs.length - ki)).toList
        have HEND := Lib.hid hend; clear hend
        clear hD
        go_wp2
        go_ret
        obtain ⟨q1, q2, q3, q4⟩ := HEND.out
        rw [HM.out]
        refine ⟨rfl, q1, ⟨fun hpos => ⟨g, 0, rfl, fun k hk j hj => ?_⟩, fun a e => by injection e with e; subst e; exact ⟨hbase, q2⟩, fun b off e j => by injection e with e; injection e with e1 e2; subst e1; exact q4 j⟩⟩
        have := q3 (k * 5 + j) (by omega)
        rw [show 0 + k * 5 + j = k * 5 + j by omega, this]
        simp only [fc]
        rw [show (k * 5 + j) / 5 = k by omega, show (k * 5 + j) % 5 = j by omega]

theorem deleteFunc_nil_Proof {F : FuncId} {caps : Array Value} {w : World} :
    Calls Try.prog 69 #[.slice none 0 0, .func (.func F) #[] caps] w fun e w' => e = .returned (.slice none 0 0) ∧ Ext w w' := by
  have hidx : Calls Try.prog 94 #[.slice none 0 0, .func (.func F) #[] caps] w fun e w' => e = .returned (.int .i64 (-1)) ∧ Ext w w' := by
    go_enter Try.func94, Try.ntmps94
    go_wp2
    go_loopw [8] (fun i wr => i = .int .i64 0 ∧ Ext w wr) (fun _ _ => 0)
    case atStart => exact ⟨rfl, Ext.refl _⟩
    case round =>
      obtain ⟨rfl, hx⟩ := hrel
      go_wp2
      go_ret
      exact ⟨rfl, (by repeat (first | (with_reducible exact Ext.refl _) | (with_reducible assumption) | with_reducible refine Ext.drew ?_ | with_reducible refine Ext.alloc ?_ _ | with_reducible refine Ext.setCell ?_ (by first | (simp; done) | (simp; omega) | omega) _ | with_reducible refine Ext.trans ?_ (by with_reducible assumption)))⟩
  go_enter Try.func69, Try.ntmps69
  go_wp2_with fail
  refine hidx.mono ?_; rintro e w1 ⟨rfl, hx1⟩
  go_wp2
  go_ret
  exact ⟨rfl, (by repeat (first | (with_reducible exact Ext.refl _) | (with_reducible assumption) | with_reducible refine Ext.drew ?_ | with_reducible refine Ext.alloc ?_ _ | with_reducible refine Ext.setCell ?_ (by first | (simp; done) | (simp; omega) | omega) _ | with_reducible refine Ext.trans ?_ (by with_reducible assumption)))⟩

end Go.Proofs.Ytfnjoinkfghalaa
