/-
  Proved here: what cellOf, tourTime and the reference's l8Cell, l17Time return.
  Conditions: the map and the controls are valid; the codes are of controls.
-/
import Derived.Test.YtidcfohlhamgmaaTour6
import Derived.Test.YtidcfohlhamgmaaSco1
namespace Go.Proofs.Ytidcfohlhamgmaa
open Go.RowKit

/-- where a way ends -/
def lastW : Nat → List Nat → Nat
  | a, [] => a
  | _, b :: l => lastW b l
theorem lastW_snoc (l : List Nat) : ∀ (a b : Nat), lastW a (l ++ [b]) = b := by
  induction l with
  | nil => intro a b; rfl
  | cons c l ih => intro a b; exact ih c b
theorem wayT_snoc (m : MapD) (l : List Nat) : ∀ (a b : Nat), wayT m a (l ++ [b]) = wayT m a l + nth (timL m b) (lastW a l) := by
  induction l with
  | nil => intro a b; simp [wayT, lastW]
  | cons c l ih => intro a b; simp only [List.cons_append, wayT, lastW, ih]; omega
theorem wayF_snoc (m : MapD) (l : List Nat) : ∀ (a b : Nat), wayF m a (l ++ [b]) = (wayF m a l && decide (nth (timL m b) (lastW a l) < NT)) := by
  induction l with
  | nil => intro a b; rw [Bool.eq_iff_iff]; simp [wayF, lastW]; exact ⟨fun h => decide_eq_true h, fun h => of_decide_eq_true h⟩
  | cons c l ih => intro a b; rw [Bool.eq_iff_iff]; simp only [List.cons_append, wayF, lastW, ih, Bool.and_eq_true, decide_eq_true_eq, and_assoc]; exact ⟨fun h => ⟨h.1, h.2.1, decide_eq_true h.2.2⟩, fun h => ⟨h.1, h.2.1, of_decide_eq_true h.2.2⟩⟩
theorem wayF_pre (m : MapD) (l r : List Nat) : ∀ (a : Nat), wayF m a l = false → wayF m a (l ++ r) = false := by
  induction l with
  | nil => intro a h; cases h
  | cons c l ih =>
    intro a h
    simp only [List.cons_append, wayF, Bool.and_eq_false_iff] at h ⊢
    rcases h with h | h
    · exact .inl h
    · exact .inr (ih c h)
theorem lastW_lt {n : Nat} : ∀ (l : List Nat) (a : Nat), a < n → (∀ b, b ∈ l → b < n) → lastW a l < n := by
  intro l
  induction l with
  | nil => intro a h _; exact h
  | cons c l ih => intro a _ h; exact ih c (h c (List.mem_cons_self ..)) (fun b hb => h b (List.mem_cons_of_mem _ hb))

theorem ctl_at {m : MapD} {xs : List Ctl} (h : ctlsB m xs = true) {k : Nat} (hk : k < xs.length) : mapB m = true ∧ ∃ q : Nat, (nth xs k).cell = (q : Int) ∧ q < m.cost.length ∧ 0 < nth m.cost q ∧ 31 ≤ (nth xs k).code ∧ (nth xs k).code ≤ 99 := by
  simp only [ctlsB, Bool.and_eq_true, upto_true, decide_eq_true_eq] at h
  have h1 := h.2 k hk
  simp only [okCtl, Bool.and_eq_true, inB_iff] at h1
  have h2 := h1.1.1.2
  simp only [openB, Bool.and_eq_true, decide_eq_true_eq] at h2
  obtain ⟨q, hq, e⟩ := cell_at h2.1
  refine ⟨h.1.1, q, e, hq, ?_, h1.1.1.1⟩
  have := h2.2
  rw [e] at this
  simpa using this
theorem ctls_map {m : MapD} {xs : List Ctl} (h : ctlsB m xs = true) : mapB m = true ∧ xs.length ≤ 10 := by
  simp only [ctlsB, Bool.and_eq_true, decide_eq_true_eq] at h
  exact ⟨h.1.1, h.1.2⟩
theorem of_idx {xs : List Ctl} {code : Int} (h : 0 ≤ ofI xs xs.length code) : ∃ k : Nat, k < xs.length ∧ ofI xs xs.length code = (k : Int) ∧ (nth xs k).code = code := by
  rcases idxU_cases (fun k => (nth xs k).code == code) xs.length with ⟨e0, _⟩ | ⟨k, hk, e0, hp, _⟩
  · have e0 : ofI xs xs.length code = -1 := e0
    omega
  · exact ⟨k, hk, e0, by simpa using hp⟩
/-- the cell of a code is a cell of the map -/
theorem cellC_at {m : MapD} {xs : List Ctl} (h : ctlsB m xs = true) {code : Int} (hc : 0 ≤ ofI xs xs.length code) : ∃ k : Nat, k < xs.length ∧ ofI xs xs.length code = (k : Int) ∧ (nth xs k).cell = (cellC xs code : Int) ∧ cellC xs code < m.cost.length ∧ 0 < nth m.cost (cellC xs code) := by
  obtain ⟨k, hk, e, _⟩ := of_idx hc
  obtain ⟨_, q, hq, hqn, hqc, _⟩ := ctl_at h hk
  have e2 : cellC xs code = q := by unfold cellC; rw [e, Int.toNat_natCast, hq]; omega
  rw [e2]
  exact ⟨k, hk, e, hq, hqn, hqc⟩
theorem ofB_at {xs : List Ctl} {cs : List Int} (h : ofB xs cs = true) {k : Nat} (hk : k < cs.length) : 0 ≤ ofI xs xs.length (nth cs k) := by
  simp only [ofB, upto_true] at h
  have := h k hk
  simp at this
  exact this
theorem tour_lt {m : MapD} {xs : List Ctl} {cs : List Int} (h : ctlsB m xs = true) (ho : ofB xs cs = true) {b : Nat} (hb : b ∈ cs.map (cellC xs)) : b < m.cost.length := by
  rw [List.mem_map] at hb
  obtain ⟨c, hc, rfl⟩ := hb
  obtain ⟨k, hk, e⟩ := List.mem_iff_getElem.1 hc
  have h1 := ofB_at ho hk
  have e2 : nth cs k = c := by simp [nth, hk, e]
  rw [e2] at h1
  obtain ⟨_, _, _, _, h2, _⟩ := cellC_at h h1
  exact h2

set_option maxHeartbeats 1000000 in
theorem impl_cellOf {m : MapD} {xs : List Ctl} {co : Option Addr} {cap : Nat} {code : Int} {w : World} (h : RowAt w co 2 xs.length (fun k => (nth xs k).c)) (hc : ctlsB m xs = true) (ho : 0 ≤ ofI xs xs.length code) :
    Calls Try.prog 102 #[.slice co xs.length cap, .int .i64 code] w fun e w' => e = .returned (.int .i64 (cellC xs code)) ∧ Ext w w' := by
  obtain ⟨k, hk, e, e2, hn, _⟩ := cellC_at hc ho
  have h10 := (ctls_map hc).2
  obtain ⟨b, off, rfl, hcell⟩ := h (by omega)
  have HI := Lib.hid (impl_controlOf (cap := cap) (x := code) h (by omega))
  rw [e] at HI
  have d1 := hcell k hk 1 (by decide)
  simp only [Ctl.c1] at d1
  rw [e2] at d1
  generalize cellC xs code = q at *
  have hk0 : (0 : Int) ≤ (k : Int) := by omega
  have hk1 : (k : Int) < (xs.length : Int) := by omega
  clear e e2 hcell h ho hc
  go_enter Try.func102, Try.ntmps102
  go_wp2_with fail
  refine HI.out.mono ?_; rintro e w1 ⟨rfl, hx1⟩
  have d1 := hx1.cells d1
  have HX := Lib.hid hx1
  clear hx1 HI
  go_wp2
  go_ret
  exact ⟨rfl, HX.out⟩

set_option maxHeartbeats 1000000 in
theorem spec_l8Cell {m : MapD} {xs : List Ctl} {co : Option Addr} {cap : Nat} {code : Int} {w : World} (h : RowAt w co 2 xs.length (fun k => (nth xs k).c)) (hc : ctlsB m xs = true) (ho : 0 ≤ ofI xs xs.length code) :
    Calls Try.prog 100 #[.slice co xs.length cap, .int .i64 code] w fun e w' => e = .returned (.int .i64 (cellC xs code)) ∧ Ext w w' := by
  obtain ⟨k, hk, e, e2, hn, _⟩ := cellC_at hc ho
  have h10 := (ctls_map hc).2
  obtain ⟨b, off, rfl, hcell⟩ := h (by omega)
  have HI := Lib.hid (spec_l6Find (cap := cap) (x := code) h (by omega))
  rw [e] at HI
  have d1 := hcell k hk 1 (by decide)
  simp only [Ctl.c1] at d1
  rw [e2] at d1
  generalize cellC xs code = q at *
  have hk0 : (0 : Int) ≤ (k : Int) := by omega
  have hk1 : (k : Int) < (xs.length : Int) := by omega
  clear e e2 hcell h ho hc
  go_enter Try.func100, Try.ntmps100
  go_wp2_with fail
  refine HI.out.mono ?_; rintro e w1 ⟨rfl, hx1⟩
  have d1 := hx1.cells d1
  have HX := Lib.hid hx1
  clear hx1 HI
  go_wp2
  go_ret
  exact ⟨rfl, HX.out⟩

set_option maxRecDepth 100000 in
set_option maxHeartbeats 2000000 in
theorem impl_tourTime {m : MapD} {ao bo : Option Addr} {ac bc : Nat} {xs : List Ctl} {co : Option Addr} {cap : Nat} {qo : Option Addr} {qc : Nat} {cs : List Int} {c0 : Nat} {w : World} (h : Site w m ao bo xs co cap) (hc : ctlsB m xs = true) (hq : RowAt w qo 1 cs.length (ic cs)) (hl : cs.length ≤ 20) (ho : ofB xs cs = true) (hc0 : c0 < m.cost.length) :
    Calls Try.prog 56 #[m.val ao ac bo bc, .slice co xs.length cap, .int .i64 c0, .slice qo cs.length qc] w fun e w' => e = .returned (.int .i64 (wayT m c0 (tourW xs c0 cs))) ∧ Ext w w' := by
  have hm := (ctls_map hc).1
  have h36 := (map_len hm).2.2.1
  have hX := (Ext.refl w).alloc (.cells #[.int .i64 m.wid, .int .i64 m.hei, .slice ao m.rise.length ac, .slice bo m.cost.length bc] 30)
  have p0 : (w.alloc (.cells #[.int .i64 m.wid, .int .i64 m.hei, .slice ao m.rise.length ac, .slice bo m.cost.length bc] 30)).cell? ⟨w.heap.size, 0, none⟩ = some (.int .i64 m.wid) := by go_simp
  have p1 : (w.alloc (.cells #[.int .i64 m.wid, .int .i64 m.hei, .slice ao m.rise.length ac, .slice bo m.cost.length bc] 30)).cell? ⟨w.heap.size, 1, none⟩ = some (.int .i64 m.hei) := by go_simp
  have p2 : (w.alloc (.cells #[.int .i64 m.wid, .int .i64 m.hei, .slice ao m.rise.length ac, .slice bo m.cost.length bc] 30)).cell? ⟨w.heap.size, 2, none⟩ = some (.slice ao m.rise.length ac) := by go_simp
  have p3 : (w.alloc (.cells #[.int .i64 m.wid, .int .i64 m.hei, .slice ao m.rise.length ac, .slice bo m.cost.length bc] 30)).cell? ⟨w.heap.size, 3, none⟩ = some (.slice bo m.cost.length bc) := by go_simp
  have HQ := Lib.hid (show _ ∧ _ ∧ _ ∧ _ from ⟨p0, p1, p2, p3⟩)
  have HX := Lib.hid hX
  have HLT := Lib.hid (fun y a b (hx : Ext w y) ha hb => impl_leastTime (w := y) (ac := ac) (bc := bc) (a := a) (b := b) (h.rise.ext hx) (h.cost.ext hx) hm ha hb)
  have HCO := Lib.hid (fun y code (hx : Ext w y) hoc => impl_cellOf (w := y) (cap := cap) (code := code) (h.ctls.ext hx) hc hoc)
  have HCB := Lib.hid (fun k (hk : k < cs.length) => show 0 ≤ ofI xs xs.length (nth cs k) ∧ cellC xs (nth cs k) < m.cost.length from ⟨ofB_at ho hk, (cellC_at hc (ofB_at ho hk)).choose_spec.2.2.2.1⟩)
  have hpre : ∀ k, k ≤ cs.length → lastW c0 ((cs.take k).map (cellC xs)) < m.cost.length ∧ 0 ≤ wayT m c0 ((cs.take k).map (cellC xs)) ∧ wayT m c0 ((cs.take k).map (cellC xs)) ≤ NT * 20 := fun k hk => by
    have hin : ∀ b, b ∈ (cs.take k).map (cellC xs) → b < m.cost.length := fun b hb => tour_lt hc ho (by
      rw [List.mem_map] at hb ⊢
      obtain ⟨c, hc, e⟩ := hb
      exact ⟨c, List.mem_of_mem_take hc, e⟩)
    have h1 := wayT_bd hm _ c0 hc0 hin
    refine ⟨lastW_lt _ _ hc0 hin, h1.1, ?_⟩
    have h2 := h1.2.1
    have h3 : ((cs.take k).map (cellC xs)).length ≤ 20 := by simp; omega
    have h4 : NT = 1073741824 := rfl
    rw [h4] at h2 ⊢
    omega
  have HPRE := Lib.hid hpre
  have HTB := Lib.hid (fun a b (ha : a < m.cost.length) (hb : b < m.cost.length) => show 0 ≤ nth (timL m b) a ∧ nth (timL m b) a ≤ NT from by
    have := (timL_ok hm hb).bd a (by rw [(timL_ok hm hb).len]; exact ha)
    exact ⟨this.1, this.2.2⟩)
  have HROW := Lib.hid hq
  have HNT := Lib.hid (show NT = 1073741824 from rfl)
  have HNX := Lib.hid (fun k (hk : k < cs.length) => show (cs.take (k + 1)).map (cellC xs) = (cs.take k).map (cellC xs) ++ [cellC xs (nth cs k)] from by rw [take_sn hk, List.map_append]; rfl)
  have HEND := Lib.hid (show tourW xs c0 cs = (cs.take cs.length).map (cellC xs) ++ [c0] from by rw [List.take_length]; rfl)
  unfold MapD.val at *
  clear h hc hq ho hpre hX p0 p1 p2 p3
  go_enter Try.func56, Try.ntmps56
  go_wp2
  generalize w.alloc (.cells #[.int .i64 m.wid, .int .i64 m.hei, .slice ao m.rise.length ac, .slice bo m.cost.length bc] 30) = wb at HQ HX ⊢
  go_loopw [9, 10, 17] (fun sm hr i wr => ∃ k : Nat, k ≤ cs.length ∧ i = .int .i64 k ∧ sm = .int .i64 (wayT m c0 ((cs.take k).map (cellC xs))) ∧ hr = .int .i64 (lastW c0 ((cs.take k).map (cellC xs))) ∧ Ext wb wr) (fun _ _ i _ => cs.length - (intOf i).toNat)
  case atStart => exact ⟨0, Nat.zero_le _, rfl, rfl, rfl, Ext.refl _⟩
  case round =>
    obtain ⟨k, hk, rfl, rfl, rfl, hx⟩ := hrel
    have hb := HPRE.out k hk
    have HXW := Lib.hid hx
    have hl0 := hb.1; have hw0 := hb.2.1; have hw1 := hb.2.2
    rw [HNT.out] at hw1
    by_cases hlt : k < cs.length
    · obtain ⟨b, off, e9, hcell⟩ := ints_at' (HROW.out.ext (HX.out.trans hx)) (by omega)
      subst e9
      have d0 := hcell k hlt
      obtain ⟨hof, hcl⟩ := HCB.out k hlt
      have hnx := HNX.out k hlt
      have HCC := Lib.hid (fun y hx2 => HCO.out y (nth cs k) (HX.out.trans (hx.trans hx2)) hof)
      have htb := HTB.out _ _ hl0 hcl
      have ht0 := htb.1; have ht1 := htb.2
      rw [HNT.out] at ht1
      have HLL := Lib.hid (fun y hx2 => HLT.out y _ _ (HX.out.trans (hx.trans hx2)) hl0 hcl)
      have HW1 : Hid (wayT m c0 ((cs.take (k + 1)).map (cellC xs)) = wayT m c0 ((cs.take k).map (cellC xs)) + nth (timL m (cellC xs (nth cs k))) (lastW c0 ((cs.take k).map (cellC xs)))) := Lib.hid (by rw [hnx, wayT_snoc])
      have HW2 : Hid (lastW c0 ((cs.take (k + 1)).map (cellC xs)) = cellC xs (nth cs k)) := Lib.hid (by rw [hnx, lastW_snoc])
      have hk0 : (0 : Int) ≤ (k : Int) := by omega
      have hk1 : (k : Int) < (cs.length : Int) := by omega
      have q0 := hx.cells HQ.out.1
      generalize lastW c0 ((cs.take k).map (cellC xs)) = la at *
      generalize wayT m c0 ((cs.take k).map (cellC xs)) = wa at *
      generalize cellC xs (nth cs k) = cl at *
      generalize nth (timL m cl) la = tt at *
      generalize nth cs k = code at *
      clear hcell hnx hof htb hx hb
      go_wp2_with fail
      refine (HCC.out _ (Ext.refl _)).mono ?_; rintro e w1 ⟨rfl, hx1⟩
      have p0 := (HXW.out.trans hx1).cells HQ.out.1
      have p1 := (HXW.out.trans hx1).cells HQ.out.2.1
      have p2 := (HXW.out.trans hx1).cells HQ.out.2.2.1
      have p3 := (HXW.out.trans hx1).cells HQ.out.2.2.2
      have pl := World.block_lt_of_cell? _ _ p3
      have HX1 := Lib.hid hx1
      clear hx1 d0 HCC q0
      go_wp2_with fail
      refine (HLL.out _ HX1.out).mono ?_; rintro e w2 ⟨rfl, hx2⟩
      have HX2 := Lib.hid (HXW.out.trans (HX1.out.trans hx2))
      clear hx2 HLL p0 p1 p2 p3
      go_wp2
      go_roundw
      case rel => exact ⟨k + 1, by omega, by go_num, by rw [HW1.out], by rw [HW2.out], HX2.out⟩
      case measure => simp [intOf] <;> omega
    · have hkn : k = cs.length := by omega
      have hnk : ¬ (k : Int) < (cs.length : Int) := by omega
      have HE := HEND
      rw [← hkn] at HE
      have htb := HTB.out _ _ hl0 hc0
      have ht0 := htb.1; have ht1 := htb.2
      rw [HNT.out] at ht1
      have HLL := Lib.hid (fun y hx2 => HLT.out y _ _ (HX.out.trans (hx.trans hx2)) hl0 hc0)
      have HW1 : Hid (wayT m c0 (tourW xs c0 cs) = wayT m c0 ((cs.take k).map (cellC xs)) + nth (timL m c0) (lastW c0 ((cs.take k).map (cellC xs)))) := Lib.hid (by rw [HE.out, wayT_snoc])
      have p0 := hx.cells HQ.out.1
      have p1 := hx.cells HQ.out.2.1
      have p2 := hx.cells HQ.out.2.2.1
      have p3 := hx.cells HQ.out.2.2.2
      have pl := World.block_lt_of_cell? _ _ p3
      generalize lastW c0 ((cs.take k).map (cellC xs)) = la at *
      generalize wayT m c0 ((cs.take k).map (cellC xs)) = wa at *
      generalize nth (timL m c0) la = tt at *
      clear hx hb htb
      go_wp2_with fail
      refine (HLL.out _ (Ext.refl _)).mono ?_; rintro e w2 ⟨rfl, hx2⟩
      have HX2 := Lib.hid (HX.out.trans (HXW.out.trans hx2))
      clear hx2 HLL p0 p1 p2 p3
      go_wp2
      go_ret
      exact ⟨ret_i (by rw [HW1.out]), HX2.out⟩

end Go.Proofs.Ytidcfohlhamgmaa
