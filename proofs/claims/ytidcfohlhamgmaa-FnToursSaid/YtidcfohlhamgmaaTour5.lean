/-
  Proved here: what the reference's l2Next, l2Step and l4To return.
  Conditions: the map is valid; the cells are cells of it.
-/
import Derived.Test.YtidcfohlhamgmaaTour4
import Derived.Test.YtidcfohlhamgmaaSco5
import Derived.Deep.RegionLaw
namespace Go.Proofs.Ytidcfohlhamgmaa
open Go.RowKit

set_option maxHeartbeats 1000000 in
theorem spec_l2Step {m : MapD} {ao bo : Option Addr} {ac bc : Nat} {a b : Nat} {w : World} (hr : RowAt w ao 1 m.rise.length (ic m.rise)) (ht : RowAt w bo 1 m.cost.length (ic m.cost)) (hm : mapB m = true) (ha : a < m.cost.length) (hb : b < m.cost.length) :
    Calls Try.prog 105 #[m.val ao ac bo bc, .int .i64 a, .int .i64 b] w fun e w' => e = .returned (.int .i64 (stI m a b)) ∧ Ext w w' := by
  have hl := map_len hm
  have ma := map_at hm ha
  have mb := map_at hm hb
  obtain ⟨rb, roff, rfl, rcell⟩ := ints_at' hr (by omega)
  obtain ⟨cb, coff, rfl, ccell⟩ := ints_at' ht (by omega)
  have hX := (Ext.refl w).alloc (.cells #[.int .i64 m.wid, .int .i64 m.hei, .slice (some ⟨rb, roff, none⟩) m.rise.length ac, .slice (some ⟨cb, coff, none⟩) m.cost.length bc] 30)
  have d0 := hX.cells (rcell a (by omega))
  have d1 := hX.cells (rcell b (by omega))
  have d2 := hX.cells (ccell b hb)
  have hst : stI m a b = nth m.cost b + 2 * max (nth m.rise b - nth m.rise a) 0 + max (-(nth m.rise b - nth m.rise a) - 2) 0 := rfl
  have hlr := hl.1
  have h36 := hl.2.2.1
  rw [hst]
  have ma1 := ma.2.1; have ma2 := ma.2.2; have mb1 := mb.2.1; have mb2 := mb.2.2; have mc1 := mb.1.1; have mc2 := mb.1.2
  have ha0 : (0 : Int) ≤ (a : Int) := by omega
  have ha1 : (a : Int) < (m.rise.length : Int) := by omega
  have hb0 : (0 : Int) ≤ (b : Int) := by omega
  have hb1 : (b : Int) < (m.rise.length : Int) := by omega
  have hb2 : (b : Int) < (m.cost.length : Int) := by omega
  have HX := Lib.hid hX
  unfold MapD.val
  generalize nth m.rise a = ra at *
  generalize nth m.rise b = rc at *
  generalize nth m.cost b = cc at *
  clear hst hl hlr ma mb rcell ccell hr ht hX hm ha hb
  have p3 : (w.alloc (.cells #[.int .i64 m.wid, .int .i64 m.hei, .slice (some ⟨rb, roff, none⟩) m.rise.length ac, .slice (some ⟨cb, coff, none⟩) m.cost.length bc] 30)).cell? ⟨w.heap.size, 3, none⟩ = some (.slice (some ⟨cb, coff, none⟩) m.cost.length bc) := by go_simp
  obtain ⟨u1, hu1⟩ : ∃ u1, u1 = max (rc - ra) 0 := ⟨_, rfl⟩
  obtain ⟨u2, hu2⟩ : ∃ u2, u2 = max (-(rc - ra) - 2) 0 := ⟨_, rfl⟩
  have HM1 := Lib.hid (fun y => spec_l1Most' (a := 0) (b := rc - ra) (w := y))
  have HM2 := Lib.hid (fun y => spec_l1Most' (a := 0) (b := -(rc - ra) - 2) (w := y))
  rw [show (if rc - ra < 0 then 0 else rc - ra) = u1 by rw [hu1]; split <;> omega] at HM1
  rw [show (if -(rc - ra) - 2 < 0 then 0 else -(rc - ra) - 2) = u2 by rw [hu2]; split <;> omega] at HM2
  have b1 : 0 ≤ u1 ∧ u1 ≤ 9 := by omega
  have b2 : 0 ≤ u2 ∧ u2 ≤ 9 := by omega
  have b10 := b1.1; have b11 := b1.2; have b20 := b2.1; have b21 := b2.2
  rw [← hu1, ← hu2]
  clear hu1 hu2 b1 b2
  go_enter Try.func105, Try.ntmps105
  go_wp2
  go_quiet (fail)
  have hxd := Ext.drewM (w.alloc (.cells #[.int .i64 m.wid, .int .i64 m.hei, .slice (some ⟨rb, roff, none⟩) m.rise.length ac, .slice (some ⟨cb, coff, none⟩) m.cost.length bc] 30)) nq
  have d2 := hxd.cells d2
  have p3 := hxd.cells p3
  have HXD := Lib.hid (HX.out.trans hxd)
  clear hxd HX
  go_upto_region 2 with fail
  generalize (w.alloc (.cells #[.int .i64 m.wid, .int .i64 m.hei, .slice (some ⟨rb, roff, none⟩) m.rise.length ac, .slice (some ⟨cb, coff, none⟩) m.cost.length bc] 30)).drewN nq = wd at d2 p3 HXD ⊢
  clear d0 d1
  have g2 := Grow.cells d2
  have g3 := Grow.cells p3
  go_wp2
  refine wp_region_ext (by kernel_rfl) (by kernel_rfl) ?_
  repeat (go_big_quiet_step ((first | (go_at_call 103; with_reducible exact Calls.ext_of_same (HM1.out _)) | (go_at_call 103; with_reducible exact Calls.ext_of_same (HM2.out _)))))
  refine wpQuiet_nil ?_
  rintro _ ⟨⟨w1, hx1⟩, rfl⟩
  clear g2 g3
  have HX1 := Lib.hid (HXD.out.trans hx1)
  clear hx1
  go_wp2
  go_ret
  exact ⟨rfl, HX1.out⟩

def candI (W H c : Nat) : List Int := (candN W H c).map Int.ofNat
theorem candI_eq {W H c : Nat} : candI W H c = (if 0 < c / W then [(c : Int) - W] else []) ++ ((if 0 < c % W then [(c : Int) - 1] else []) ++ ((if c % W + 1 < W then [(c : Int) + 1] else []) ++ (if c / W + 1 < H then [(c : Int) + W] else []))) := by
  unfold candI candN
  have hle : 0 < c / W → W ≤ c := fun h => by
    have := Nat.div_mul_le_self c W
    have h1 : 1 * W ≤ c / W * W := Nat.mul_le_mul_right _ h
    omega
  have hle2 : 0 < c % W → 1 ≤ c := fun h => by
    have := Nat.mod_le c W
    omega
  simp only [List.map_append]
  congr 1
  · split
    · rename_i h; have := hle h; simp; omega
    · rfl
  · congr 1
    · split
      · rename_i h; have := hle2 h; simp; omega
      · rfl
    · congr 1
      · split <;> simp
      · split <;> simp

theorem take_sn {L : List Int} {k : Nat} (hk : k < L.length) : L.take (k + 1) = L.take k ++ [nth L k] := by
  rw [List.take_add_one]
  simp [nth, hk]
/-- the open ones among the first k candidates -/
def opU (m : MapD) (L : List Int) (k : Nat) : List Int := (L.take k).filter (fun x => decide (0 < nth m.cost x.toNat))
theorem opU_yes {m : MapD} {L : List Int} {k : Nat} (hk : k < L.length) (h : 0 < nth m.cost (nth L k).toNat) : opU m L (k + 1) = opU m L k ++ [nth L k] := by
  unfold opU
  rw [take_sn hk, List.filter_append]
  congr 1
  simp [h]
theorem opU_no {m : MapD} {L : List Int} {k : Nat} (hk : k < L.length) (h : ¬ 0 < nth m.cost (nth L k).toNat) : opU m L (k + 1) = opU m L k := by
  unfold opU
  rw [take_sn hk, List.filter_append]
  simp [h]
theorem opU_end {m : MapD} {W H c : Nat} (hw : m.wid = W) (hn : m.cost.length = W * H) (h0 : 1 ≤ W) (hW : W ≤ 6) (hH : H ≤ 6) (hc : c < m.cost.length) : opU m (candI W H c) (candI W H c).length = nxI m c := by
  unfold opU
  rw [List.take_length, nxI_eq, nextL_cand hw hn h0 hW hH hc]
  unfold candI
  rw [List.filter_map]
  congr 1
theorem opU_len (m : MapD) (L : List Int) (k : Nat) : (opU m L k).length ≤ k := by
  unfold opU
  exact Nat.le_trans (List.length_filter_le _ _) (by simp; omega)
theorem candI_at {W H c k : Nat} (h0 : 1 ≤ W) (hW : W ≤ 6) (hH : H ≤ 6) (hc : c < W * H) (hk : k < (candI W H c).length) : ∃ q : Nat, nth (candI W H c) k = (q : Int) ∧ q < W * H := by
  have hk2 : k < (candN W H c).length := by unfold candI at hk; simpa using hk
  refine ⟨nth (candN W H c) k, by unfold candI; simp [nth, hk2], cand_lt h0 hW hH hc (by simp [nth, hk2])⟩
theorem candI_len (W H c : Nat) : (candI W H c).length ≤ 4 := by
  unfold candI candN
  simp only [List.length_map, List.length_append]
  split <;> split <;> split <;> split <;> simp

set_option maxRecDepth 100000 in
set_option maxHeartbeats 4000000 in
theorem spec_l2Next {m : MapD} {ao bo : Option Addr} {ac bc : Nat} {a : Nat} {w : World} (ht : RowAt w bo 1 m.cost.length (ic m.cost)) (hm : mapB m = true) (ha : a < m.cost.length) :
    Calls Try.prog 104 #[m.val ao ac bo bc, .int .i64 a] w fun e w' => ∃ go gc, e = .returned (.slice go (nxI m a).length gc) ∧ Ext w w' ∧ FreshAt w.heap.size w' go 1 (nxI m a).length (ic (nxI m a)) := by
  obtain ⟨i0, hi, hz0, hz1, hz2⟩ := info_parts infoInt
  obtain ⟨W, H, hw, hh, w1, w6, h1, h6, hn⟩ := map_dims hm
  have h36 := (map_len hm).2.2.1
  obtain ⟨cb, coff, rfl, ccell⟩ := ints_at' ht (by omega)
  have HEND := Lib.hid (opU_end hw hn w1 w6 h6 ha)
  have HAT := Lib.hid (fun k => @candI_at W H a k w1 w6 h6 (by omega))
  have HEQ := Lib.hid (candI_eq (W := W) (H := H) (c := a))
  have hL4 := candI_len W H a
  unfold MapD.val at *
  rw [hw, hh]
  have q1 : 0 ≤ (a : Int) % W := Int.emod_nonneg _ (by omega)
  have q2 : (a : Int) % W < W := Int.emod_lt_of_pos _ (by omega)
  have q5 : 0 ≤ (a : Int) / W := Int.ediv_nonneg (by omega) (by omega)
  have q6 : (a : Int) / W ≤ a := Int.ediv_le_self _ (by omega)
  have e1 : (a : Int) % W = ((a % W : Nat) : Int) := (Int.natCast_emod a W).symm
  have e2 : (a : Int) / W = ((a / W : Nat) : Int) := (Int.natCast_ediv a W).symm
  have hW0 : ¬ (W : Int) = 0 := by omega
  have hxb := (Ext.refl w).alloc (.cells #[.int .i64 W, .int .i64 H, .slice ao m.rise.length ac, .slice (some ⟨cb, coff, none⟩) m.cost.length bc] 30)
  have HC := Lib.hid (fun k (hk : k < m.cost.length) => hxb.cells (ccell k hk))
  have p0 : (w.alloc (.cells #[.int .i64 W, .int .i64 H, .slice ao m.rise.length ac, .slice (some ⟨cb, coff, none⟩) m.cost.length bc] 30)).cell? ⟨w.heap.size, 0, none⟩ = some (.int .i64 W) := by go_simp
  have p1 : (w.alloc (.cells #[.int .i64 W, .int .i64 H, .slice ao m.rise.length ac, .slice (some ⟨cb, coff, none⟩) m.cost.length bc] 30)).cell? ⟨w.heap.size, 1, none⟩ = some (.int .i64 H) := by go_simp
  have p3 : (w.alloc (.cells #[.int .i64 W, .int .i64 H, .slice ao m.rise.length ac, .slice (some ⟨cb, coff, none⟩) m.cost.length bc] 30)).cell? ⟨w.heap.size, 3, none⟩ = some (.slice (some ⟨cb, coff, none⟩) m.cost.length bc) := by go_simp
  have HQ := Lib.hid (show _ ∧ _ ∧ _ from ⟨p0, p1, p3⟩)
  have HXB := Lib.hid hxb
  have HI := Lib.hid hi; have HZ0 := Lib.hid hz0; have HZ1 := Lib.hid hz1; have HZ2 := Lib.hid hz2
  have HN := Lib.hid hn
  have HE1 := Lib.hid e1; have HE2 := Lib.hid e2
  clear p0 p1 p3 ht ccell hxb hw hh hn hi hz0 hz1 hz2 e1 e2 hm
  go_enter Try.func104, Try.ntmps104
  go_upto_region 1 with fail
  generalize hwb : w.alloc (.cells #[.int .i64 W, .int .i64 H, .slice ao m.rise.length ac, .slice (some ⟨cb, coff, none⟩) m.cost.length bc] 30) = wb at HQ HXB HC ⊢
  have HSZ : Hid (wb.heap.size = w.heap.size + 1) := Lib.hid (by rw [← hwb]; simp)
  clear hwb
  have p0 := HQ.out.1
  have HST := Lib.hid (Owns.start' (w := wb) (e := 3) (s := 1) (cc := icc) (Nat.le_refl _))
  go_upto_region 2 with fail
  have p0 := ((Ext.refl wb).alloc (.cells #[] 3)).cells HQ.out.1
  have HX2 := Lib.hid ((Ext.refl wb).alloc (.cells #[] 3))
  generalize wb.alloc (.cells #[] 3) = w2 at p0 HX2 HST ⊢
  go_wp2
  go_quiet (fail)
  go_upto_region 3 with fail
  have HX3 := Lib.hid (HX2.out.trans (Ext.drewM w2 nq))
  have HO3 := Lib.hid (HST.out.ext' (Ext.drewM w2 nq))
  generalize w2.drewN nq = w3 at HX3 HO3 ⊢
  have p0 := HX3.out.cells HQ.out.1
  have p1 := HX3.out.cells HQ.out.2.1
  obtain ⟨A1, hA1⟩ : ∃ A1, A1 = (if 0 < a / W then [(a : Int) - W] else []) := ⟨_, rfl⟩
  obtain ⟨A2, hA2⟩ : ∃ A2, A2 = (if 0 < a % W then [(a : Int) - 1] else []) := ⟨_, rfl⟩
  obtain ⟨A3, hA3⟩ : ∃ A3, A3 = (if a % W + 1 < W then [(a : Int) + 1] else []) := ⟨_, rfl⟩
  obtain ⟨A4, hA4⟩ : ∃ A4, A4 = (if a / W + 1 < H then [(a : Int) + W] else []) := ⟨_, rfl⟩
  have HCAND : Hid (candI W H a = [] ++ A1 ++ A2 ++ A3 ++ A4) := Lib.hid (by rw [HEQ.out, hA1, hA2, hA3, hA4]; simp)
  have he1 := HE1.out; have he2 := HE2.out
  have HA1 : Hid ((0 < (a : Int) / W → A1 = [(a : Int) - W]) ∧ (¬ 0 < (a : Int) / W → A1 = [])) := Lib.hid ⟨fun h => by rw [hA1, if_pos (by omega)], fun h => by rw [hA1, if_neg (by omega)]⟩
  have HA2 : Hid ((0 < (a : Int) % W → A2 = [(a : Int) - 1]) ∧ (¬ 0 < (a : Int) % W → A2 = [])) := Lib.hid ⟨fun h => by rw [hA2, if_pos (by omega)], fun h => by rw [hA2, if_neg (by omega)]⟩
  have HA3 : Hid (((a : Int) % W + 1 < W → A3 = [(a : Int) + 1]) ∧ (¬ (a : Int) % W + 1 < W → A3 = [])) := Lib.hid ⟨fun h => by rw [hA3, if_pos (by omega)], fun h => by rw [hA3, if_neg (by omega)]⟩
  have HA4 : Hid (((a : Int) / W + 1 < H → A4 = [(a : Int) + W]) ∧ (¬ (a : Int) / W + 1 < H → A4 = [])) := Lib.hid ⟨fun h => by rw [hA4, if_pos (by omega)], fun h => by rw [hA4, if_neg (by omega)]⟩
  have HA1L : Hid (A1.length ≤ 1) := Lib.hid (by rw [hA1]; split <;> simp)
  have HA2L : Hid (A2.length ≤ 1) := Lib.hid (by rw [hA2]; split <;> simp)
  have HA3L : Hid (A3.length ≤ 1) := Lib.hid (by rw [hA3]; split <;> simp)
  have HA4L : Hid (A4.length ≤ 1) := Lib.hid (by rw [hA4]; split <;> simp)
  clear hA1 hA2 hA3 hA4 he1 he2 HEQ
  have hul : ([] : List Int).length ≤ 0 := by simp
  obtain ⟨U0, hU0⟩ : ∃ U0 : List Int, U0 = [] := ⟨_, rfl⟩
  obtain ⟨go, hgo⟩ : ∃ go : Option Addr, go = some ⟨wb.heap.size, 0, none⟩ := ⟨_, rfl⟩
  obtain ⟨gc, hgc⟩ : ∃ gc : Nat, gc = 0 := ⟨_, rfl⟩
  have hO3 : Owns w3 wb.heap.size 3 1 icc (.slice go U0.length gc) U0 := by rw [hgo, hU0, hgc]; exact HO3.out
  have hsl : Value.slice (some ⟨wb.heap.size, 0, none⟩) 0 0 = .slice go U0.length gc := by rw [hgo, hU0, hgc]; rfl
  rw [hsl]
  rw [← hU0] at HCAND hul
  clear HO3 hsl hgo hgc hU0
  have HO3 := Lib.hid hO3
  clear hO3
  go_upto_if 20 with fail
  go_cut [5] (fun v wc => ∃ go gc, v = .slice go (U0 ++ A1).length gc ∧ Owns wc wb.heap.size 3 1 icc (.slice go (U0 ++ A1).length gc) (U0 ++ A1) ∧ Ext wb wc)
  case first =>
    by_cases hc : 0 < (a : Int) / W
    · have hA := HA1.out.1 hc
      have hrow := row_lit (w := w3) (cs := #[.int .i64 ((a : Int) - W)]) (T := 3) (s := 1) (cc := icc) (x := (a : Int) - W) (by intro j hj; obtain rfl : j = 0 := (by omega); rfl)
      have HROW := Lib.hid hrow
      have HAA := Lib.hid hA
      have hwz := HX3.out.size
      clear hrow hA
      go_wp2_with (at_builtin; refine wpList_append_bf rfl _ _ 22 rfl 3 i0 _ 1 8 Try.underlying22 HI.out HZ0.out HZ1.out HZ2.out rfl (by decide) icc icc_one wb.heap.size (by simp; omega) _ U0 [(a : Int) - W] (U0 ++ [(a : Int) - W]) (Lib.hid rfl) rfl (HO3.out.ext' ((Ext.refl _).alloc _)) ⟨w3.heap.size, 0, none⟩ 1 1 rfl rfl HROW.out (by simp; omega) (by simp; omega) ?_; intro go1 gc1 w9 ho9 hb9 _ _)
      have HO9 := Lib.hid ho9
      have HX9 := Lib.hid (Ext.below (HX3.out.alloc _) hb9 (Nat.le_refl _))
      clear ho9 hb9
      go_wp2_with fail
      go_meet
      rw [HAA.out]
      exact ⟨go1, gc1, by rw [List.length_append]; rfl, HO9.out, HX9.out⟩
    · have hA := HA1.out.2 hc
      have HAA := Lib.hid hA
      clear hA
      go_wp2_with fail
      go_meet
      rw [HAA.out, List.append_nil]
      exact ⟨go, gc, rfl, HO3.out, HX3.out⟩
  case rest =>
  obtain ⟨go', gc', rfl, hO, hX⟩ := hcut
  generalize wc = w4 at hO hX ⊢
  generalize hgo : go' = go at hO ⊢
  generalize hgc : gc' = gc at hO ⊢
  clear hgo hgc
  have p0 := hX.cells HQ.out.1
  have p1 := hX.cells HQ.out.2.1
  have HO4 := Lib.hid hO; have HX4 := Lib.hid hX
  have hUl : (U0 ++ A1).length ≤ 1 := by rw [List.length_append]; have := HA1L.out; omega
  generalize U0 ++ A1 = U1 at *
  have hul := hUl
  clear hO hX hUl
  go_upto_if 29 with fail
  go_cut [5] (fun v wc => ∃ go gc, v = .slice go (U1 ++ A2).length gc ∧ Owns wc wb.heap.size 3 1 icc (.slice go (U1 ++ A2).length gc) (U1 ++ A2) ∧ Ext wb wc)
  case first =>
    by_cases hc : 0 < (a : Int) % W
    · have hA := HA2.out.1 hc
      have hrow := row_lit (w := w4) (cs := #[.int .i64 ((a : Int) - 1)]) (T := 3) (s := 1) (cc := icc) (x := (a : Int) - 1) (by intro j hj; obtain rfl : j = 0 := (by omega); rfl)
      have HROW := Lib.hid hrow
      have HAA := Lib.hid hA
      have hwz := HX4.out.size
      clear hrow hA
      go_wp2_with (at_builtin; refine wpList_append_bf rfl _ _ 22 rfl 3 i0 _ 1 8 Try.underlying22 HI.out HZ0.out HZ1.out HZ2.out rfl (by decide) icc icc_one wb.heap.size (by simp; omega) _ U1 [(a : Int) - 1] (U1 ++ [(a : Int) - 1]) (Lib.hid rfl) rfl (HO4.out.ext' ((Ext.refl _).alloc _)) ⟨w4.heap.size, 0, none⟩ 1 1 rfl rfl HROW.out (by simp; omega) (by simp; omega) ?_; intro go1 gc1 w9 ho9 hb9 _ _)
      have HO9 := Lib.hid ho9
      have HX9 := Lib.hid (Ext.below (HX4.out.alloc _) hb9 (Nat.le_refl _))
      clear ho9 hb9
      go_wp2_with fail
      go_meet
      rw [HAA.out]
      exact ⟨go1, gc1, by rw [List.length_append]; rfl, HO9.out, HX9.out⟩
    · have hA := HA2.out.2 hc
      have HAA := Lib.hid hA
      clear hA
      go_wp2_with fail
      go_meet
      rw [HAA.out, List.append_nil]
      exact ⟨go, gc, rfl, HO4.out, HX4.out⟩
  case rest =>
  obtain ⟨go', gc', rfl, hO, hX⟩ := hcut
  generalize wc = w5 at hO hX ⊢
  generalize hgo : go' = go at hO ⊢
  generalize hgc : gc' = gc at hO ⊢
  clear hgo hgc
  have p0 := hX.cells HQ.out.1
  have p1 := hX.cells HQ.out.2.1
  have HO5 := Lib.hid hO; have HX5 := Lib.hid hX
  have hUl : (U1 ++ A2).length ≤ 2 := by rw [List.length_append]; have := HA2L.out; omega
  generalize U1 ++ A2 = U2 at *
  have hul := hUl
  clear hO hX hUl
  go_upto_if 39 with fail
  go_cut [5] (fun v wc => ∃ go gc, v = .slice go (U2 ++ A3).length gc ∧ Owns wc wb.heap.size 3 1 icc (.slice go (U2 ++ A3).length gc) (U2 ++ A3) ∧ Ext wb wc)
  case first =>
    by_cases hc : (a : Int) % W + 1 < W
    · have hA := HA3.out.1 hc
      have hrow := row_lit (w := w5) (cs := #[.int .i64 ((a : Int) + 1)]) (T := 3) (s := 1) (cc := icc) (x := (a : Int) + 1) (by intro j hj; obtain rfl : j = 0 := (by omega); rfl)
      have HROW := Lib.hid hrow
      have HAA := Lib.hid hA
      have hwz := HX5.out.size
      clear hrow hA
      go_wp2_with (at_builtin; refine wpList_append_bf rfl _ _ 22 rfl 3 i0 _ 1 8 Try.underlying22 HI.out HZ0.out HZ1.out HZ2.out rfl (by decide) icc icc_one wb.heap.size (by simp; omega) _ U2 [(a : Int) + 1] (U2 ++ [(a : Int) + 1]) (Lib.hid rfl) rfl (HO5.out.ext' ((Ext.refl _).alloc _)) ⟨w5.heap.size, 0, none⟩ 1 1 rfl rfl HROW.out (by simp; omega) (by simp; omega) ?_; intro go1 gc1 w9 ho9 hb9 _ _)
      have HO9 := Lib.hid ho9
      have HX9 := Lib.hid (Ext.below (HX5.out.alloc _) hb9 (Nat.le_refl _))
      clear ho9 hb9
      go_wp2_with fail
      go_meet
      rw [HAA.out]
      exact ⟨go1, gc1, by rw [List.length_append]; rfl, HO9.out, HX9.out⟩
    · have hA := HA3.out.2 hc
      have HAA := Lib.hid hA
      clear hA
      go_wp2_with fail
      go_meet
      rw [HAA.out, List.append_nil]
      exact ⟨go, gc, rfl, HO5.out, HX5.out⟩
  case rest =>
  obtain ⟨go', gc', rfl, hO, hX⟩ := hcut
  generalize wc = w6 at hO hX ⊢
  generalize hgo : go' = go at hO ⊢
  generalize hgc : gc' = gc at hO ⊢
  clear hgo hgc
  have p0 := hX.cells HQ.out.1
  have p1 := hX.cells HQ.out.2.1
  have HO6 := Lib.hid hO; have HX6 := Lib.hid hX
  have hUl : (U2 ++ A3).length ≤ 3 := by rw [List.length_append]; have := HA3L.out; omega
  generalize U2 ++ A3 = U3 at *
  have hul := hUl
  clear hO hX hUl
  go_upto_if 49 with fail
  go_cut [5] (fun v wc => ∃ go gc, v = .slice go (U3 ++ A4).length gc ∧ Owns wc wb.heap.size 3 1 icc (.slice go (U3 ++ A4).length gc) (U3 ++ A4) ∧ Ext wb wc)
  case first =>
    by_cases hc : (a : Int) / W + 1 < H
    · have hA := HA4.out.1 hc
      have hrow := row_lit (w := w6) (cs := #[.int .i64 ((a : Int) + W)]) (T := 3) (s := 1) (cc := icc) (x := (a : Int) + W) (by intro j hj; obtain rfl : j = 0 := (by omega); rfl)
      have HROW := Lib.hid hrow
      have HAA := Lib.hid hA
      have hwz := HX6.out.size
      clear hrow hA
      go_wp2_with (at_builtin; refine wpList_append_bf rfl _ _ 22 rfl 3 i0 _ 1 8 Try.underlying22 HI.out HZ0.out HZ1.out HZ2.out rfl (by decide) icc icc_one wb.heap.size (by simp; omega) _ U3 [(a : Int) + W] (U3 ++ [(a : Int) + W]) (Lib.hid rfl) rfl (HO6.out.ext' ((Ext.refl _).alloc _)) ⟨w6.heap.size, 0, none⟩ 1 1 rfl rfl HROW.out (by simp; omega) (by simp; omega) ?_; intro go1 gc1 w9 ho9 hb9 _ _)
      have HO9 := Lib.hid ho9
      have HX9 := Lib.hid (Ext.below (HX6.out.alloc _) hb9 (Nat.le_refl _))
      clear ho9 hb9
      go_wp2_with fail
      go_meet
      rw [HAA.out]
      exact ⟨go1, gc1, by rw [List.length_append]; rfl, HO9.out, HX9.out⟩
    · have hA := HA4.out.2 hc
      have HAA := Lib.hid hA
      clear hA
      go_wp2_with fail
      go_meet
      rw [HAA.out, List.append_nil]
      exact ⟨go, gc, rfl, HO6.out, HX6.out⟩
  case rest =>
  obtain ⟨go', gc', rfl, hO, hX⟩ := hcut
  generalize wc = w7 at hO hX ⊢
  generalize hgo : go' = go at hO ⊢
  generalize hgc : gc' = gc at hO ⊢
  clear hgo hgc
  have p0 := hX.cells HQ.out.1
  have p1 := hX.cells HQ.out.2.1
  have HO7 := Lib.hid hO; have HX7 := Lib.hid hX
  have hUl : (U3 ++ A4).length ≤ 4 := by rw [List.length_append]; have := HA4L.out; omega
  generalize U3 ++ A4 = U4 at *
  have hul := hUl
  clear hO hX hUl
  have HU4 : Hid (U4 = candI W H a) := Lib.hid HCAND.out.symm
  have hu4 : U4.length ≤ 4 := hul
  clear HA1 HA2 HA3 HA4 HA1L HA2L HA3L HA4L HCAND hul
  go_upto_region 12 with fail
  have HS7 := Lib.hid (Owns.start' (w := w7) (e := 3) (s := 1) (cc := icc) (Nat.le_refl _))
  have HX8 := Lib.hid (HX7.out.alloc (.cells #[] 3))
  have HO8 := Lib.hid (HO7.out.ext' ((Ext.refl w7).alloc (.cells #[] 3)))
  have HROW7 : Hid (RowAt w7 go 1 U4.length (ic U4)) := by
    obtain ⟨go2, gc2, e2, hF, _⟩ := HO7.out.fresh
    injection e2 with e2 e3 e4
    subst e2
    exact Lib.hid hF.row
  have HFIN : Hid (opU m U4 U4.length = nxI m a) := by rw [HU4.out]; exact HEND
  have HAT4 : Hid (∀ k, k < U4.length → ∃ q : Nat, nth U4 k = (q : Int) ∧ q < m.cost.length) := Lib.hid (fun k hk => by rw [HU4.out] at hk ⊢; rw [HN.out]; exact HAT.out k hk)
  clear HU4 HEND HAT HO7 HO8
  go_wp2
  go_loopw [8, 9] (fun v i wr => ∃ (k : Nat) (go2 : Option Addr) (gc2 : Nat), k ≤ U4.length ∧ i = .int .i64 k ∧ v = .slice go2 (opU m U4 k).length gc2 ∧ Owns wr w7.heap.size 3 1 icc (.slice go2 (opU m U4 k).length gc2) (opU m U4 k) ∧ Ext w7 wr) (fun _ i _ => U4.length - (intOf i).toNat)
  case atStart => exact ⟨0, _, _, by omega, rfl, rfl, HS7.out, (Ext.refl _).alloc _⟩
  case round =>
    clear HS7 HX8
    obtain ⟨k, go2, gc2, hk, rfl, rfl, hO, hx⟩ := hrel
    have HO := Lib.hid hO; have HX := Lib.hid hx
    have p3 := (HX7.out.trans hx).cells HQ.out.2.2
    have hul2 := opU_len m U4 k
    have hwz := hx.size
    clear hO p0 p1
    by_cases hlt : k < U4.length
    · obtain ⟨q, hq, hqn⟩ := HAT4.out k hlt
      obtain ⟨ub, uoff, e9, ucell⟩ := ints_at' (HROW7.out.ext hx) (by omega)
      subst e9
      have d0 := ucell k hlt
      have hyes := fun h => @opU_yes m U4 k hlt h
      have hno := fun h => @opU_no m U4 k hlt h
      rw [hq] at d0 hyes hno
      rw [Int.toNat_natCast] at hyes hno
      have HYES := Lib.hid hyes; have HNO := Lib.hid hno
      have d1 := (HX7.out.trans hx).cells (HC.out q hqn)
      have hk0 : (0 : Int) ≤ (k : Int) := by omega
      have hk1 : (k : Int) < (U4.length : Int) := by omega
      have hq0 : (0 : Int) ≤ (q : Int) := by omega
      have hq1 : (q : Int) < (m.cost.length : Int) := by omega
      generalize opU m U4 k = V at *
      clear ucell hyes hno hq hx
      by_cases hc : 0 < nth m.cost q
      · have HY := Lib.hid (HYES.out hc)
        generalize nth m.cost q = cq at *
        go_wp2
        go_quiet (fail)
        go_upto_region 16 with fail
        have HX3' := Lib.hid (HX.out.trans (Ext.drewM wr nq))
        have HO3' := Lib.hid (HO.out.ext' (Ext.drewM wr nq))
        have d0' := (Ext.drewM wr nq).cells d0
        have hwz2 := (Ext.drewM wr nq).size
        generalize wr.drewN nq = w8 at HX3' HO3' d0' hwz2 ⊢
        clear d0 d1 p3
        have hrow := row_lit (w := w8) (cs := #[.int .i64 (q : Int)]) (T := 3) (s := 1) (cc := icc) (x := (q : Int)) (by intro j hj; obtain rfl : j = 0 := (by omega); rfl)
        have HROW := Lib.hid hrow; clear hrow
        go_wp2_with (at_builtin; refine wpList_append_bf rfl _ _ 22 rfl 3 i0 _ 1 8 Try.underlying22 HI.out HZ0.out HZ1.out HZ2.out rfl (by decide) icc icc_one w7.heap.size (by simp; omega) _ V [(q : Int)] (V ++ [(q : Int)]) (Lib.hid rfl) rfl (HO3'.out.ext' ((Ext.refl _).alloc _)) ⟨w8.heap.size, 0, none⟩ 1 1 rfl rfl HROW.out (by simp; omega) (by simp; omega) ?_; intro go9 gc9 w9 ho9 hb9 _ _)
        have HO9 := Lib.hid ho9
        have HX9 := Lib.hid (Ext.below (HX3'.out.alloc _) hb9 (Nat.le_refl _))
        clear ho9 hb9 HROW
        go_wp2
        go_roundw
        case rel => exact ⟨k + 1, go9, gc9, by omega, by go_num, by rw [HY.out, List.length_append]; rfl, by rw [HY.out]; exact HO9.out, HX9.out⟩
        case measure => simp [intOf] <;> omega
      · have HY := Lib.hid (HNO.out hc)
        generalize nth m.cost q = cq at *
        go_wp2
        go_quiet (fail)
        go_wp2
        go_roundw
        case rel => exact ⟨k + 1, go2, gc2, by omega, by go_num, by rw [HY.out], by rw [HY.out]; exact HO.out.ext' (Ext.drewM wr _), HX.out.trans (Ext.drewM wr _)⟩
        case measure => simp [intOf] <;> omega
    · have hkn : k = U4.length := by omega
      have hnk : ¬ (k : Int) < (U4.length : Int) := by omega
      have HE : Hid (opU m U4 k = nxI m a) := by rw [hkn]; exact HFIN
      generalize opU m U4 k = V at *
      obtain ⟨go5, gc5, e5, hF, _⟩ := HO.out.fresh
      injection e5 with e5 e6 e7
      subst e5 e7
      clear e6 p3
      have HFF := Lib.hid (hF.mono (B1 := w.heap.size) (by have := HSZ.out; have := HX7.out.size; omega))
      have HXE := Lib.hid (HXB.out.trans (HX7.out.trans HX.out))
      clear hF hx
      go_wp2
      go_ret
      rw [← HE.out]
      first | exact ⟨go2, gc2, rfl, HXE.out, HFF.out⟩ | exact ⟨go2, ⟨gc2, rfl⟩, HXE.out, HFF.out⟩

end Go.Proofs.Ytidcfohlhamgmaa
