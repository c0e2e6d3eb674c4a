/-
  Proved here: what copyInts and the reference's l1Own return; AddLeg as plain lists.
  Conditions: those in each statement.
-/
import Derived.Test.YtlpogglcbphilaaOwnT
import Derived.Test.YtlpogglcbphilaaRel6
import Derived.Test.YtlpogglcbphilaaTeamF
namespace Go.Proofs.Ytlpogglcbphilaa
open Go.RowKit

set_option maxRecDepth 100000 in
set_option maxHeartbeats 1000000 in
theorem impl_copyInts {ad : Addr} {cap : Nat} {xs : List Int} {w : World} (h : RowAt w (some ad) 1 xs.length (ic xs)) (hs : xs.length ≤ 1048577) :
    Calls Try.prog 61 #[.slice (some ad) xs.length cap] w fun e w' => ∃ g c, e = .returned (.slice (some g) xs.length c) ∧ Ext w w' ∧ Owns w' w.heap.size 3 1 icc (.slice (some g) xs.length c) xs := by
  obtain ⟨i0, hi, hz0, hz1, hz2⟩ := info_parts infoInt
  have HST := Lib.hid (Owns.start' (e := 3) (s := 1) (cc := icc) (Nat.le_refl w.heap.size))
  have HR := Lib.hid (h.ext ((Ext.refl w).alloc (.cells #[] 3)))
  have HXA := Lib.hid ((Ext.refl w).alloc (.cells #[] 3))
  clear h
  go_enter Try.func61, Try.ntmps61
  go_wp2_with (at_builtin; refine wpList_append_bf rfl _ _ 31 rfl 3 i0 _ 1 8 Try.underlying31 hi hz0 hz1 hz2 rfl (by decide) icc icc_one w.heap.size (by simp) (.slice (some ⟨w.heap.size, 0, none⟩) 0 0) [] xs xs (Lib.hid rfl) rfl HST.out ad xs.length cap rfl rfl HR.out (by simp; omega) (by simp; omega) ?_; intro go gc w3 ho3 hb3 hg3 hv3; have HO := Lib.hid ho3; have HX := Lib.hid (Ext.below HXA.out hb3 (Nat.le_refl _)); have HSM : Hid (go ≠ none) := Lib.hid (fun e => by subst e; rcases hv3.out with q | q <;> cases q); clear ho3 hb3 hg3 hv3)
  cases go with
  | none => exact absurd rfl HSM.out
  | some g =>
    go_wp2
    go_ret
    exact ⟨g, gc, rfl, HX.out, HO.out⟩

set_option maxRecDepth 100000 in
set_option maxHeartbeats 1000000 in
theorem spec_l1Own {ad : Addr} {cap : Nat} {xs : List Int} {w : World} (h : RowAt w (some ad) 1 xs.length (ic xs)) (hs : xs.length ≤ 1048577) :
    Calls Try.prog 62 #[.slice (some ad) xs.length cap] w fun e w' => ∃ g c, e = .returned (.slice (some g) xs.length c) ∧ Ext w w' ∧ Owns w' w.heap.size 3 1 icc (.slice (some g) xs.length c) xs := by
  obtain ⟨i0, hi, hz0, hz1, hz2⟩ := info_parts infoInt
  have HST := Lib.hid (Owns.start' (e := 3) (s := 1) (cc := icc) (Nat.le_refl w.heap.size))
  have HR := Lib.hid (h.ext ((Ext.refl w).alloc (.cells #[] 3)))
  have HXA := Lib.hid ((Ext.refl w).alloc (.cells #[] 3))
  clear h
  go_enter Try.func62, Try.ntmps62
  go_wp2_with (at_builtin; refine wpList_append_bf rfl _ _ 31 rfl 3 i0 _ 1 8 Try.underlying31 hi hz0 hz1 hz2 rfl (by decide) icc icc_one w.heap.size (by simp) (.slice (some ⟨w.heap.size, 0, none⟩) 0 0) [] xs xs (Lib.hid rfl) rfl HST.out ad xs.length cap rfl rfl HR.out (by simp; omega) (by simp; omega) ?_; intro go gc w3 ho3 hb3 hg3 hv3; have HO := Lib.hid ho3; have HX := Lib.hid (Ext.below HXA.out hb3 (Nat.le_refl _)); have HSM : Hid (go ≠ none) := Lib.hid (fun e => by subst e; rcases hv3.out with q | q <;> cases q); clear ho3 hb3 hg3 hv3)
  cases go with
  | none => exact absurd rfl HSM.out
  | some g =>
    go_wp2
    go_ret
    exact ⟨g, gc, rfl, HX.out, HO.out⟩

/-- a team's legs, one more -/
def legAt (ts : List TeamD) (i : Nat) (time : Int) : List TeamD := ts.set i ⟨(nth ts i).num, (nth ts i).legs ++ [time]⟩
def legB (ts : List TeamD) (legs number time : Int) : Bool := teamsB ts legs && decide (0 ≤ fdT ts number) && teamsB (legAt ts (fdT ts number).toNat time) legs
def legL (ts : List TeamD) (legs number time : Int) : List TeamD := if legB ts legs number time then legAt ts (fdT ts number).toNat time else []
/-- what is handed back: teams of the call's own, a bool -/
def ResT (w : World) (L : List TeamD) (B : Bool) (e : Ending) (w' : World) : Prop := ∃ bo bc, e = .returned (.tuple #[.slice bo L.length bc, .bool B]) ∧ Ext w w' ∧
  ((bo = none ∧ bc = 0 ∧ L = []) ∨ ∃ b A cp, bo = some ⟨b, 0, none⟩ ∧ TeamsF w.heap.size w' b L.length A (tnum L) (tlen L) cp (tleg L) ∧ ∀ k, k < L.length → tlen L k ≤ cp k)
theorem FreshAt.setOther {B0 : Nat} {w : World} {ao : Option Addr} {s n : Nat} {c : Nat → Nat → Value} (h : FreshAt B0 w ao s n c) {p : Addr} (hp : ∀ a, ao = some a → a.block ≠ p.block) (u : Value) : FreshAt B0 (w.setCell p u) ao s n c := by
  refine ⟨fun hn => ?_, fun a e => by simpa [World.setCell] using h.base a e, fun b off e j => by rw [World.frozen?_setCell]; exact h.free b off e j⟩
  obtain ⟨b, off, e, H⟩ := h.row hn
  exact ⟨b, off, e, fun k hk j hj => (World.cell?_setCell_other _ _ _ _ (fun q => hp _ e (by rw [q]))).trans (H k hk j hj)⟩
theorem own_addr {w : World} {base n cap : Nat} {e : TypeId} {s : Nat} {α : Type} {cc : α → Nat → Value} {a : Addr} {xs : List α} (h : Owns w base e s cc (.slice (some a) n cap) xs) : a = ⟨a.block, 0, none⟩ := by
  have h0 : w.ownsRow base e s (.slice (some a) n cap) xs.length (fl s cc xs) := h
  rcases h0.2 with ⟨q, _⟩ | ⟨g, c, cur, q, _⟩
  · cases q
  · injection q with q; injection q with q; rw [q]
theorem OwnT.teams {w : World} {base b cap : Nat} {vs : List TmV} (h : OwnT w base (.slice (some ⟨b, 0, none⟩) vs.length cap) vs) :
    ∃ A cp, TeamsF base w b vs.length A (tnum (vs.map TmV.t)) (tlen (vs.map TmV.t)) cp (tleg (vs.map TmV.t)) ∧ ∀ k, k < vs.length → tlen (vs.map TmV.t) k ≤ cp k ∧ (nth vs k).a = some ⟨A k, 0, none⟩ ∧ (nth vs k).ac = cp k := by
  obtain ⟨ao', cap', e, _, _, hF⟩ := h.form
  injection e with e1 e2 e3
  subst e1
  have hm : ∀ k, k < vs.length → nth vs k ∈ vs := fun k hk => by simp [nth, hk]
  have ht : ∀ k, k < vs.length → nth (vs.map TmV.t) k = (nth vs k).t := fun k hk => by simp [nth, hk]
  have hA : ∀ k, ∃ A, k < vs.length → (nth vs k).a = some ⟨A, 0, none⟩ := fun k => by
    by_cases hk : k < vs.length
    · obtain ⟨h1, _, h3⟩ := h.inn _ (hm k hk)
      cases ha : (nth vs k).a with
      | none => exact absurd ha h3
      | some a =>
        unfold TmV.leg at h1
        rw [ha] at h1
        exact ⟨a.block, fun _ => by rw [← own_addr h1]⟩
    · exact ⟨0, fun q => absurd q hk⟩
  obtain ⟨A, hA⟩ := Classical.axiomOfChoice hA
  have hleg : ∀ k, k < vs.length → Owns w base 3 1 icc (.slice (some ⟨A k, 0, none⟩) (nth vs k).t.legs.length (nth vs k).ac) (nth vs k).t.legs := fun k hk => by
    have h1 := (h.inn _ (hm k hk)).1
    unfold TmV.leg at h1
    rwa [hA k hk] at h1
  refine ⟨A, fun k => (nth vs k).ac, ⟨hF.base _ rfl, fun j => hF.free b 0 rfl j, fun k hk => ?_, fun k hk => ?_, fun k hk => ?_, fun k hk e => ?_, fun k k' hk hk' hne e => ?_⟩, fun k hk => ⟨?_, hA k hk, rfl⟩⟩
  · obtain ⟨b', off, e, H⟩ := hF.row (by omega)
    injection e with e; injection e with e1 e2; subst e1 e2
    have := H k hk 0 (by decide)
    rw [show 0 + k * 2 + 0 = k * 2 by omega] at this
    rw [this, tnum, ht k hk]
    rfl
  · obtain ⟨b', off, e, H⟩ := hF.row (by omega)
    injection e with e; injection e with e1 e2; subst e1 e2
    have := H k hk 1 (by decide)
    rw [show 0 + k * 2 + 1 = k * 2 + 1 by omega] at this
    rw [this, tlen, ht k hk, ← hA k hk]
    rfl
  · obtain ⟨ao, c, e, hFr, _⟩ := (hleg k hk).fresh
    injection e with e1 e2 e3
    subst e1
    rw [tlen, tleg, ht k hk]
    exact hFr
  · have h2 := (h.inn _ (hm k hk)).2.1 (A k) (by unfold TmV.leg; rw [hA k hk]; rfl)
    exact h2 (by rw [e]; rfl)
  · have hd := h.dist
    have hat : ∀ i, (hi : i < vs.length) → nth vs i = vs[i] := fun i hi => by simp [nth, hi]
    have hb : ∀ i, i < vs.length → (nth vs i).leg.ownBlock = some (A i) := fun i hi => by unfold TmV.leg; rw [hA i hi]; rfl
    rcases Nat.lt_or_gt_of_ne hne with h1 | h1
    · have := List.pairwise_iff_getElem.1 hd k k' hk hk' h1
      rw [← hat, ← hat] at this
      exact this (A k) (hb k hk) (by rw [hb k' hk', e])
    · have := List.pairwise_iff_getElem.1 hd k' k hk' hk h1
      rw [← hat, ← hat] at this
      exact this (A k') (hb k' hk') (by rw [hb k hk, e])
  · obtain ⟨ao, c, e, _, _, h2, _⟩ := (hleg k hk).fresh
    injection e with e1 e2 e3
    rw [tlen, ht k hk]
    show (nth vs k).t.legs.length ≤ (nth vs k).ac
    omega
theorem legAt_len (ts : List TeamD) (i : Nat) (time : Int) : (legAt ts i time).length = ts.length := by simp [legAt]
theorem legAt_nth {ts : List TeamD} {i k : Nat} {time : Int} (hk : k < ts.length) : nth (legAt ts i time) k = if i = k then ⟨(nth ts i).num, (nth ts i).legs ++ [time]⟩ else nth ts k := by
  unfold legAt
  simp only [nth, List.getD, List.getElem?_set]
  split
  · rename_i e; subst e; simp [hk]
  · rfl
/-- one team's legs have been appended to -/
theorem TeamsF.put {B0 : Nat} {wr w2 w4 : World} {b n i gc : Nat} {A : Nat → Nat} {cp : Nat → Nat} {ts : List TeamD} {time : Int} {g : Addr} (h : TeamsF B0 wr b n A (tnum ts) (tlen ts) cp (tleg ts)) (hn : n = ts.length) (hi : i < n) (hx : Ext wr w2)
    (ho : Owns w4 B0 3 1 icc (.slice (some g) ((nth ts i).legs ++ [time]).length gc) ((nth ts i).legs ++ [time])) (hg : w2.grownBy w4 (some (A i))) (hv : some g.block = some (A i) ∨ some g.block = some w2.heap.size) :
    TeamsF B0 (w4.setCell ⟨b, i * 2 + 1, none⟩ (.slice (some g) ((nth ts i).legs ++ [time]).length gc)) b n (fun k => if k = i then g.block else A k) (tnum (legAt ts i time)) (tlen (legAt ts i time)) (fun k => if k = i then gc else cp k) (tleg (legAt ts i time)) := by
  have h2 := h.ext hx
  have hbl := h2.base.2
  have hap := h2.apart i hi
  have hgb : g.block ≠ b := by
    rcases hv with e | e
    · rw [Option.some.inj e]; exact hap
    · rw [Option.some.inj e]; omega
  have hgA : ∀ k, k < n → k ≠ i → g.block ≠ A k := fun k hk hne => by
    rcases hv with e | e
    · rw [Option.some.inj e]; exact h2.apart2 i k hi hk (fun q => hne q.symm)
    · have h3 := ((h2.inner k hk).base _ rfl).2
      simp only at h3
      rw [Option.some.inj e]; omega
  have hne : (some (A i) : Option Nat) ≠ some b := fun e => hap (Option.some.inj e)
  have hc : ∀ o, w4.cell? ⟨b, o, none⟩ = w2.cell? ⟨b, o, none⟩ := fun o => grown_cell hg hbl hne
  have hadr := own_addr ho
  have hat : ∀ k, k < n → nth (legAt ts i time) k = if i = k then ⟨(nth ts i).num, (nth ts i).legs ++ [time]⟩ else nth ts k := fun k hk => legAt_nth (by omega)
  refine ⟨⟨h2.base.1, by simp only [World.setCell, Array.size_modify]; exact Nat.lt_of_lt_of_le hbl hg.size⟩, fun j => ?_, fun k hk => ?_, fun k hk => ?_, fun k hk => ?_, fun k hk => ?_, fun k k' hk hk' hne => ?_⟩
  · rw [World.frozen?_setCell]; exact (grown_frozen hg hbl hne).trans (h2.free j)
  · rw [World.cell?_setCell_other _ _ _ _ (fun q => by injection q with _ q; omega), hc, h2.num k hk, tnum, tnum, hat k hk]
    split
    · rename_i e; subst e; rfl
    · rfl
  · by_cases e : k = i
    · subst e
      simp only [if_true]
      rw [World.cell?_setCell_same _ _ _ ((hc _).trans (h2.legs k hk)), tlen, hat k hk, if_pos rfl, ← hadr]
    · simp only [if_neg e]
      rw [World.cell?_setCell_other _ _ _ _ (fun q => by injection q with _ q; omega), hc, h2.legs k hk, tlen, tlen, hat k hk, if_neg (fun q => e q.symm)]
  · by_cases e : k = i
    · subst e
      simp only [if_true]
      rw [tlen, tleg, hat k hk, if_pos rfl, ← hadr]
      obtain ⟨ao, c, e2, hF, _⟩ := ho.fresh
      injection e2 with e3 e4 e5
      subst e3
      exact hF.setOther (fun a ea => by injection ea with ea; subst ea; exact hgb) _
    · simp only [if_neg e]
      rw [tlen, tleg, hat k hk, if_neg (fun q => e q.symm)]
      exact ((h2.inner k hk).grown hg (fun a ea q => by injection ea with ea; subst ea; exact h2.apart2 i k hi hk (fun q => e q.symm) (Option.some.inj q))).setOther (fun a ea => by injection ea with ea; subst ea; exact h2.apart k hk) _
  · by_cases e : k = i
    · simp only [if_pos e]; exact hgb
    · simp only [if_neg e]; exact h2.apart k hk
  · by_cases e : k = i
    · by_cases e' : k' = i
      · omega
      · simp only [if_pos e, if_neg e']; exact hgA k' hk' e'
    · by_cases e' : k' = i
      · simp only [if_neg e, if_pos e']; exact fun q => hgA k hk e q.symm
      · simp only [if_neg e, if_neg e']; exact h2.apart2 k k' hk hk' hne
theorem grow_of {w : World} {ao : Option Addr} {vs : List TmV} (hr : RowAt w ao 2 vs.length (fun k => (nth vs k).c)) (hok : ∀ x, x ∈ vs → x.ok w) : GRow w ao 2 (vs.map TmV.t).length (tsC (vs.map TmV.t)) := by
  rw [List.length_map]
  intro hn
  obtain ⟨b, off, e, H⟩ := hr hn
  refine ⟨b, off, e, fun k hk j hj => ?_⟩
  have hm : nth vs k ∈ vs := by simp [nth, hk]
  have hk2 : nth (vs.map TmV.t) k = (nth vs k).t := by simp [nth, hk]
  have hq := hok _ hm
  have hc := H k hk j hj
  match j, hj with
  | 0, _ => simpa [CellIs, tsC, TeamD.cd, hk2, TmV.c] using hc
  | 1, _ => exact ⟨(nth vs k).a, (nth vs k).ac, by rw [hk2]; exact hc, by rw [hk2]; exact hq.1, by rw [hk2]; exact hq.2.1, by rw [hk2]; exact hq.2.2⟩
theorem fdT_at {ts : List TeamD} {number : Int} (h : 0 ≤ fdT ts number) : ∃ i, i < ts.length ∧ fdT ts number = (i : Int) := by
  rcases idxU_cases (fun k => (nth ts k).num == number) ts.length with ⟨e, _⟩ | ⟨k, hk, e, _⟩
  · unfold fdT at h; omega
  · exact ⟨k, hk, e⟩

end Go.Proofs.Ytlpogglcbphilaa
