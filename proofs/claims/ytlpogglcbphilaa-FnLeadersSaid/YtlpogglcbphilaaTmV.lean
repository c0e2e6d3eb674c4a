/-
  Proved here: teams with their slices' addresses; slices.Clone, slices.IndexFunc and slices.DeleteFunc at them.
  Conditions: the predicate leaves what was there as it was, and reads nothing of the row.
-/
import Derived.Test.YtlpogglcbphilaaTTeam
import Derived.Test.YtlpogglcbphilaaIdx
import Derived.Test.YtlpogglcbphilaaDel
import Derived.Test.YtlpogglcbphilaaOwn3
import Derived.Test.YtlpogglcbphilaaTouch
import Derived.Lib.SliceRun
import Derived.WalkSpells
namespace Go.Proofs.Ytlpogglcbphilaa
open Go.RowKit

/-- a team, its legs' address and capacity -/
structure TmV where
  t : TeamD
  a : Option Addr
  ac : Nat
instance : Inhabited TmV := ⟨⟨default, none, 0⟩⟩
def TmV.c (x : TmV) : Nat → Value
  | 0 => .int .i64 x.t.num
  | _ => .slice x.a x.t.legs.length x.ac
theorem TmV.c0 (x : TmV) : x.c 0 = .int .i64 x.t.num := rfl
theorem TmV.c1 (x : TmV) : x.c 1 = .slice x.a x.t.legs.length x.ac := rfl
def TmV.val (x : TmV) : Value := .agg #[.int .i64 x.t.num, .slice x.a x.t.legs.length x.ac]
theorem tm_cells : ∀ (x : TmV) (j : Nat), j < 2 → (x.c j).oneCell' = true := by
  intro x j hj
  match j, hj with
  | 0, _ => rfl
  | 1, _ => rfl
/-- its legs are there -/
def TmV.ok (w : World) (x : TmV) : Prop := RowAt w x.a 1 x.t.legs.length (ic x.t.legs) ∧ x.t.legs.length ≤ x.ac ∧ x.t.legs.length ≤ 9223372036854775807
theorem TmV.ok.ext {w w' : World} {x : TmV} (h : x.ok w) (hx : Ext w w') : x.ok w' := ⟨h.1.ext hx, h.2⟩
theorem nth_range {α : Type} [Inhabited α] {n k : Nat} {f : Nat → α} (hk : k < n) : nth ((List.range n).map f) k = f k := by simp [nth, hk]
/-- a row of teams as a list of values -/
theorem tms_of {w : World} {ao : Option Addr} {ts : List TeamD} (h : GRow w ao 2 ts.length (tsC ts)) : ∃ vs : List TmV, vs.length = ts.length ∧ vs.map TmV.t = ts ∧ RowAt w ao 2 vs.length (fun k => (nth vs k).c) ∧ ∀ k, k < vs.length → (nth vs k).ok w ∧ (nth vs k).t = nth ts k := by
  by_cases hn : 0 < ts.length
  · obtain ⟨b, off, e, H⟩ := h hn
    have hA : ∀ k, ∃ p : Option Addr × Nat, k < ts.length → w.cell? ⟨b, off + k * 2, none⟩ = some (.int .i64 (nth ts k).num) ∧ w.cell? ⟨b, off + k * 2 + 1, none⟩ = some (.slice p.1 (nth ts k).legs.length p.2) ∧
        RowAt w p.1 1 (nth ts k).legs.length (ic (nth ts k).legs) ∧ (nth ts k).legs.length ≤ 9223372036854775807 ∧ (nth ts k).legs.length ≤ p.2 := fun k => by
      by_cases hk : k < ts.length
      · obtain ⟨a, c, h1⟩ := teams_at (fun j hj => H k hk j hj)
        exact ⟨(a, c), fun _ => h1⟩
      · exact ⟨(none, 0), fun q => absurd q hk⟩
    obtain ⟨f, hf⟩ := Classical.axiomOfChoice hA
    have hl : ((List.range ts.length).map fun k => (⟨nth ts k, (f k).1, (f k).2⟩ : TmV)).length = ts.length := by simp
    refine ⟨(List.range ts.length).map fun k => ⟨nth ts k, (f k).1, (f k).2⟩, hl, ?_, ?_, ?_⟩
    · apply List.ext_getElem
      · simp
      · intro i h1 h2
        simp [nth, List.getD, h2]
    · rw [hl]
      refine fun _ => ⟨b, off, e, fun k hk j hj => ?_⟩
      show _ = some ((nth ((List.range ts.length).map fun k => (⟨nth ts k, (f k).1, (f k).2⟩ : TmV)) k).c j)
      rw [nth_range hk]
      have := hf k hk
      match j, hj with
      | 0, _ => exact this.1
      | 1, _ => exact this.2.1
    · rw [hl]
      intro k hk
      rw [nth_range hk]
      have := hf k hk
      exact ⟨⟨this.2.2.1, this.2.2.2.2, this.2.2.2.1⟩, rfl⟩
  · have : ts = [] := List.eq_nil_of_length_eq_zero (by omega)
    subst this
    exact ⟨[], rfl, rfl, fun h0 => absurd h0 (by simp), fun k hk => absurd hk (by simp)⟩

set_option maxRecDepth 100000 in
theorem clone_Team {ao : Option Addr} {cap : Nat} {xs : List TmV} {w : World} (h : RowAt w ao 2 xs.length (fun k => (nth xs k).c)) (hs : xs.length ≤ 1048577) (hnil : ao = none → cap = 0) :
    Calls Try.prog 50 #[.slice ao xs.length cap] w fun e w' => ∃ v, e = .returned v ∧ Ext w w' ∧ Owns w' w.heap.size 51 2 TmV.c v xs := by
  obtain ⟨i0, hi, hz0, hz1, hz2⟩ := info_parts infoTeam
  have hq := fun (w : World) => Lib.run_eql_slice_nil (P := Try.prog) w 24 51 ao xs.length cap 0 0 Try.underlying24
  cases ao with
  | none =>
    obtain rfl := hnil rfl
    have hx : xs = [] := by
      rcases Nat.eq_zero_or_pos xs.length with e | e
      · exact List.eq_nil_of_length_eq_zero e
      · obtain ⟨_, _, h, _⟩ := h e; cases h
    subst hx
    have hq0 := fun (w : World) => Lib.run_eql_slice_nil (P := Try.prog) w 24 51 none 0 0 0 0 Try.underlying24
    go_enter Try.func50, Try.ntmps50
    go_wp2
    go_ret
    exact ⟨_, rfl, Ext.refl _, Owns.nil⟩
  | some a =>
    have HST := Lib.hid (Owns.start' (e := 51) (s := 2) (cc := TmV.c) (Nat.le_refl w.heap.size))
    have HR := Lib.hid (h.ext ((Ext.refl w).alloc (.cells #[] 51)))
    have HXA := Lib.hid ((Ext.refl w).alloc (.cells #[] 51))
    clear h hnil
    go_enter Try.func50, Try.ntmps50
    go_wp2_with (at_builtin; refine wpList_append_rows rfl _ _ 24 rfl w 51 i0 _ 2 32 Try.underlying24 hi hz0 hz1 hz2 rfl (by decide) TmV.c tm_cells _ [] xs rfl HST.out (some a) xs.length cap rfl rfl (fun h => by cases h) HR.out (by simp; omega) (by simp; omega) HXA.out ?_; intro v1 w3 ho1 hx3; rw [List.nil_append] at ho1; have HO := Lib.hid ho1; have HX := Lib.hid hx3; clear ho1 hx3)
    go_wp2
    go_ret
    exact ⟨_, rfl, HX.out, HO.out⟩

set_option maxHeartbeats 400000 in
theorem indexFunc_Tm {ao : Option Addr} {cap : Nat} {xs : List TmV} {F : FuncId} {caps : Array Value} {p : TmV → Bool} {w : World} (h : RowAt w ao 2 xs.length (fun k => (nth xs k).c)) (hn : xs.length ≤ 9223372036854775807) (hE : EntersF Try.prog F)
    (hp : ∀ k, k < xs.length → ∀ (w' : World), Ext w w' → Calls Try.prog F (#[(nth xs k).val] ++ caps) w' fun e w'' => e = .returned (.bool (p (nth xs k))) ∧ Ext w' w'') :
    Calls Try.prog 65 #[.slice ao xs.length cap, .func (.func F) #[] caps] w fun e w' => e = .returned (.int .i64 (idxU (fun k => p (nth xs k)) xs.length)) ∧ Ext w w' := by
  have HE : Hid (EntersF Try.prog F) := hE
  clear hE
  have HP := Lib.hid hp; clear hp
  go_enter Try.func65, Try.ntmps65
  go_wp2
  go_loopw [8] (fun i wr => ∃ k : Nat, k ≤ xs.length ∧ i = .int .i64 k ∧ Ext w wr ∧ ∀ j, j < k → p (nth xs j) = false) (fun i _ => xs.length - (intOf i).toNat)
  case atStart => exact ⟨0, Nat.zero_le _, rfl, Ext.refl _, fun j hj => by omega⟩
  case round =>
    obtain ⟨k, hk, rfl, hx, hb⟩ := hrel
    have HB := Lib.hid hb; clear hb
    by_cases hlt : k < xs.length
    · obtain ⟨b, off, rfl, hcell⟩ := h (by omega)
      have d0 := hx.cells (hcell k hlt 0 (by decide))
      have d1 := hx.cells (hcell k hlt 1 (by decide))
      simp only [TmV.c0, TmV.c1, Nat.add_zero] at d0 d1
      have hcall := fun x hx => HP.out k hlt x hx
      unfold TmV.val at hcall
      clear hcell h
      have hE : ∀ (args : Array Value) (w : World), (callFunc F args).run Try.prog w = .ok (.enter F args) w := HE
      cases hpk : p (nth xs k)
      all_goals
        rw [hpk] at hcall
        go_wp2_with fail
        refine (hcall _ hx).mono ?_; rintro e w1 ⟨rfl, hx1⟩
        go_wp2
      · go_roundw
        case rel => exact ⟨k + 1, by omega, by go_num, (by repeat (first | (with_reducible exact Ext.refl _) | (with_reducible assumption) | with_reducible refine Ext.drew ?_ | with_reducible refine Ext.alloc ?_ _ | with_reducible refine Ext.setCell ?_ (by first | (simp; done) | (simp; omega) | omega) _ | with_reducible refine Ext.trans ?_ (by with_reducible assumption))), fun j hj => by by_cases e : j = k; (subst e; exact hpk); exact HB.out j (by omega)⟩
        case measure => simp [intOf]; omega
      · go_ret
        exact ⟨ret_i (by rw [idxU_at hlt hpk HB.out]), (by repeat (first | (with_reducible exact Ext.refl _) | (with_reducible assumption) | with_reducible refine Ext.drew ?_ | with_reducible refine Ext.alloc ?_ _ | with_reducible refine Ext.setCell ?_ (by first | (simp; done) | (simp; omega) | omega) _ | with_reducible refine Ext.trans ?_ (by with_reducible assumption)))⟩
    · have hkn : k = xs.length := by omega
      subst hkn
      go_wp2
      go_ret
      exact ⟨ret_i (by rw [idxU_none HB.out]), (by repeat (first | (with_reducible exact Ext.refl _) | (with_reducible assumption) | with_reducible refine Ext.drew ?_ | with_reducible refine Ext.alloc ?_ _ | with_reducible refine Ext.setCell ?_ (by first | (simp; done) | (simp; omega) | omega) _ | with_reducible refine Ext.trans ?_ (by with_reducible assumption)))⟩

set_option maxRecDepth 100000 in
set_option maxHeartbeats 2000000 in
theorem deleteFunc_Team {B0 g cap : Nat} {xs : List TmV} {F : FuncId} {caps : Array Value} {p : TmV → Bool} {w : World} (h : FreshAt B0 w (some ⟨g, 0, none⟩) 2 xs.length (fun k => (nth xs k).c)) (hn : xs.length ≤ 1048577) (hcap : xs.length ≤ cap) (hcm : cap ≤ 9223372036854775807) (hE : EntersF Try.prog F)
    (hp : ∀ k, k < xs.length → ∀ (w' : World), w.grownBy w' (some g) → Calls Try.prog F (#[(nth xs k).val] ++ caps) w' fun e w'' => e = .returned (.bool (p (nth xs k))) ∧ Ext w' w'') :
    Calls Try.prog 49 #[.slice (some ⟨g, 0, none⟩) xs.length cap, .func (.func F) #[] caps] w fun e w' => e = .returned (.slice (some ⟨g, 0, none⟩) (keptL p xs).length cap) ∧ w.grownBy w' (some g) ∧ FreshAt B0 w' (some ⟨g, 0, none⟩) 2 (keptL p xs).length (fun k => (nth (keptL p xs) k).c) := by
  have hidx := indexFunc_Tm (cap := cap) h.row (by omega) hE (fun k hk w' hx => hp k hk w' (grown_of_ext hx))
  have hbase := (h.base _ rfl).1
  have hg0 : g < w.heap.size := (h.base _ rfl).2
  have HE : Hid (EntersF Try.prog F) := hE
  clear hE
  have HP := Lib.hid hp; clear hp
  have hcells : ∀ q, q < xs.length * 2 → w.cell? ⟨g, q, none⟩ = some (fc 2 TmV.c xs q) := fun q hq => by
    obtain ⟨b, off, e, H⟩ := h.row (by omega)
    injection e with e; injection e with e1 e2; subst e1 e2
    have := H (q / 2) (by omega) (q % 2) (by omega)
    rwa [show 0 + q / 2 * 2 + q % 2 = q by omega] at this
  rcases idxU_cases (fun k => p (nth xs k)) xs.length with ⟨e0, hall⟩ | ⟨k0, hk0, e0, hpk, hbef⟩
  · rw [e0] at hidx
    have hK : keptL p xs = xs := kept_all hall
    rw [hK]
    clear hall hK e0 hcells
    go_enter Try.func49, Try.ntmps49
    go_wp2_with fail
    refine hidx.mono ?_; rintro e w1 ⟨rfl, hx1⟩
    go_wp2
    go_ret
    exact ⟨rfl, grown_of_ext hx1, h.ext hx1⟩
  · rw [e0] at hidx
    have hc0 : cntU p xs k0 = k0 := cntU_before hbef
    have hc1 : cntU p xs (k0 + 1) = k0 := by rw [cntU_yes hpk, hc0]
    have hlo0 : ∀ q, q < k0 * 2 → fc 2 TmV.c xs q = fc 2 TmV.c (keptL p xs) q := fun q hq => by
      have h1 := hbef (q / 2) (by omega)
      have h2 := kept_nth (p := p) (xs := xs) (k := q / 2) (by omega) h1
      rw [cntU_before (fun j hj => hbef j (by omega))] at h2
      unfold fc
      rw [h2]
    have hfin := cntU_all p xs
    have hd0 : DW w w g (xs.length * 2) (k0 * 2) ((k0 + 1) * 2) (fc 2 TmV.c (keptL p xs)) (fc 2 TmV.c xs) :=
      ⟨grown_refl _ _, hg0, fun q hq => by rw [hcells q (by omega), hlo0 q hq], fun q _ h2 => hcells q h2, fun q hq => ⟨_, hcells q hq⟩, fun q => h.free g 0 rfl q⟩
    clear hcells hbef e0 hc0 hlo0
    have HF := Lib.hid hfin; clear hfin
    have HC1 := Lib.hid hc1; clear hc1
    have hz : ∀ w, (zeroValue 51).run Try.prog w = .ok (.agg #[.int .i64 0, .slice none 0 0]) w := fun _ => by kernel_rfl
    go_enter Try.func49, Try.ntmps49
    go_wp2_with fail
    refine hidx.mono ?_; rintro e w1 ⟨rfl, hx1⟩
    have hneg : ((k0 : Int) == -1) = false := by simp
    go_wp2
    go_loopw [5, 6] (fun i j wr => ∃ (ki kj : Nat), kj ≤ xs.length ∧ ki + 1 ≤ kj ∧ i = .int .i64 ki ∧ j = .int .i64 kj ∧ cntU p xs kj = ki ∧ DW w wr g (xs.length * 2) (ki * 2) (kj * 2) (fc 2 TmV.c (keptL p xs)) (fc 2 TmV.c xs)) (fun _ j _ => xs.length - (intOf j).toNat)
    case atStart => exact ⟨k0, k0 + 1, by omega, by omega, rfl, by go_num, HC1.out, hd0.kept hx1⟩
    case round =>
      clear hd0 hneg hidx hx1
      obtain ⟨ki, kj, hkj, hij, rfl, rfl, hcnt, hD⟩ := hrel
      have HCN := Lib.hid hcnt; clear hcnt
      by_cases hlt : kj < xs.length
      · have d0 := hD.hi (kj * 2) (by omega) (by omega)
        have d1 := hD.hi (kj * 2 + 1) (by omega) (by omega)
        simp only [fc, show kj * 2 / 2 = kj by omega, show kj * 2 % 2 = 0 by omega, show (kj * 2 + 1) / 2 = kj by omega, show (kj * 2 + 1) % 2 = 1 by omega, TmV.c0, TmV.c1] at d0 d1
        obtain ⟨u0, e0⟩ := hD.all (ki * 2) (by omega)
        obtain ⟨u1, e1⟩ := hD.all (ki * 2 + 1) (by omega)
        have f0 := hD.free (ki * 2)
        have f1 := hD.free (ki * 2 + 1)
        have hsz := hD.size
        have hcall := fun x hx => HP.out kj hlt x hx
        have hE : ∀ (args : Array Value) (w : World), (callFunc F args).run Try.prog w = .ok (.enter F args) w := HE
        have hx2 : Ext wr (wr.alloc (Obj.cells #[.int .i64 (nth xs kj).t.num, .slice (nth xs kj).a (nth xs kj).t.legs.length (nth xs kj).ac] 51)) := (Ext.refl _).alloc _
        have hcw := hcall _ (grown_trans hD.grown (grown_of_ext hx2))
        unfold TmV.val at hcw
        cases hpk' : p (nth xs kj)
        · rw [hpk'] at hcw
          clear hcall
          go_wp2_with fail
          refine hcw.mono ?_; rintro e w2 ⟨rfl, hx3⟩
          have hD2 := hD.kept (hx2.trans hx3)
          have b0 : w2.cell? ⟨wr.heap.size, 0, none⟩ = some (.int .i64 (nth xs kj).t.num) := hx3.cells (by go_simp)
          have b1 : w2.cell? ⟨wr.heap.size, 1, none⟩ = some (.slice (nth xs kj).a (nth xs kj).t.legs.length (nth xs kj).ac) := hx3.cells (by go_simp)
          have hxx := hx2.trans hx3
          have e0' := hxx.cells e0
          have e1' := hxx.cells e1
          have f0' := hD2.free (ki * 2)
          have f1' := hD2.free (ki * 2 + 1)
          have hnth := kept_nth (p := p) hlt hpk'
          rw [HCN.out] at hnth
          have HNT := Lib.hid hnth; clear hnth
          clear hcw hx2 hx3 hxx d0 d1 e0 e1 f0 f1 hD
          go_wp2
          have R1 := hD2.put (by omega) (by omega) (u := .int .i64 (nth xs kj).t.num) (by simp only [fc, show ki * 2 / 2 = ki by omega, show ki * 2 % 2 = 0 by omega, HNT.out]; rfl)
          have R2 := R1.put (by omega) (by omega) (u := .slice (nth xs kj).a (nth xs kj).t.legs.length (nth xs kj).ac) (by simp only [fc, show (ki * 2 + 1) / 2 = ki by omega, show (ki * 2 + 1) % 2 = 1 by omega, HNT.out]; rfl)
          have R := R2.skip (J' := (kj + 1) * 2) (by omega)
          rw [show ki * 2 + 1 + 1 = (ki + 1) * 2 by omega] at R
          go_roundw
          case rel => exact ⟨ki + 1, kj + 1, by omega, by omega, by go_num, by go_num, by rw [cntU_no hpk', HCN.out], R⟩
          case measure => simp [intOf]; omega
        · rw [hpk'] at hcw
          clear hcall
          go_wp2_with fail
          refine hcw.mono ?_; rintro e w2 ⟨rfl, hx3⟩
          have hD2 := (hD.kept (hx2.trans hx3)).skip (J' := (kj + 1) * 2) (by omega)
          clear hcw hx2 hx3 d0 d1 e0 e1 f0 f1 hD
          go_wp2
          go_roundw
          case rel => exact ⟨ki, kj + 1, by omega, by omega, rfl, by go_num, by rw [cntU_yes hpk', HCN.out], hD2⟩
          case measure => simp [intOf]; omega
      · obtain rfl : kj = xs.length := by omega
        have hm : (keptL p xs).length = ki := by rw [← HF.out, HCN.out]
        have HM := Lib.hid hm; clear hm
        have hcl : ∀ ty, (Builtin.clear_ #[24] ty #[.slice (some ⟨g, ki * 2, none⟩) (xs.length - ki) (cap - ki)]).run Try.prog wr = .ok (.tuple #[]) (wr.setCells g (ki * 2) (Builtin.zeroCells (#[.int .i64 0, .slice none 0 0] : Array Value) (xs.length - ki)).toList) :=
          fun ty => run_clear_rows wr 24 ty 51 Try.underlying24 _ hz (by decide) (by decide) g (ki * 2) _ _ (by omega) (fun j hj => by
            obtain ⟨u, hu⟩ := hD.all (ki * 2 + j) (by simp only [Value.cells] at hj; simp at hj; omega)
            rw [hu]; rfl) hD.free
        have hend := hD.clear (Builtin.zeroCells (#[.int .i64 0, .slice none 0 0] : Array Value) (xs.length - ki)).toList
        have HEND := Lib.hid hend; clear hend
        clear hD
        go_wp2
        go_ret
        obtain ⟨q1, q2, q3, q4⟩ := HEND.out
        rw [HM.out]
        refine ⟨rfl, q1, ⟨fun hpos => ⟨g, 0, rfl, fun k hk j hj => ?_⟩, fun a e => by injection e with e; subst e; exact ⟨hbase, q2⟩, fun b off e j => by injection e with e; injection e with e1 e2; subst e1; exact q4 j⟩⟩
        have := q3 (k * 2 + j) (by omega)
        rw [show 0 + k * 2 + j = k * 2 + j by omega, this]
        simp only [fc]
        rw [show (k * 2 + j) / 2 = k by omega, show (k * 2 + j) % 2 = j by omega]

theorem deleteFunc_nil_Team {F : FuncId} {caps : Array Value} {w : World} :
    Calls Try.prog 49 #[.slice none 0 0, .func (.func F) #[] caps] w fun e w' => e = .returned (.slice none 0 0) ∧ Ext w w' := by
  have hidx : Calls Try.prog 65 #[.slice none 0 0, .func (.func F) #[] caps] w fun e w' => e = .returned (.int .i64 (-1)) ∧ Ext w w' := by
    go_enter Try.func65, Try.ntmps65
    go_wp2
    go_loopw [8] (fun i wr => i = .int .i64 0 ∧ Ext w wr) (fun _ _ => 0)
    case atStart => exact ⟨rfl, Ext.refl _⟩
    case round =>
      obtain ⟨rfl, hx⟩ := hrel
      go_wp2
      go_ret
      exact ⟨rfl, (by repeat (first | (with_reducible exact Ext.refl _) | (with_reducible assumption) | with_reducible refine Ext.drew ?_ | with_reducible refine Ext.alloc ?_ _ | with_reducible refine Ext.setCell ?_ (by first | (simp; done) | (simp; omega) | omega) _ | with_reducible refine Ext.trans ?_ (by with_reducible assumption)))⟩
  go_enter Try.func49, Try.ntmps49
  go_wp2_with fail
  refine hidx.mono ?_; rintro e w1 ⟨rfl, hx1⟩
  go_wp2
  go_ret
  exact ⟨rfl, (by repeat (first | (with_reducible exact Ext.refl _) | (with_reducible assumption) | with_reducible refine Ext.drew ?_ | with_reducible refine Ext.alloc ?_ _ | with_reducible refine Ext.setCell ?_ (by first | (simp; done) | (simp; omega) | omega) _ | with_reducible refine Ext.trans ?_ (by with_reducible assumption)))⟩

end Go.Proofs.Ytlpogglcbphilaa
