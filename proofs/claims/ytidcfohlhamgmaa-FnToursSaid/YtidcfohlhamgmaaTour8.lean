/-
  Proved here: what the reference's l17Time returns.
  Conditions: the map and the controls are valid; the codes are of controls.
-/
import Derived.Test.YtidcfohlhamgmaaTour7
namespace Go.Proofs.Ytidcfohlhamgmaa
open Go.RowKit

/-- a tour's time as the reference tells it -/
noncomputable def tmI (m : MapD) (xs : List Ctl) (c0 : Nat) (cs : List Int) : Int := if wayF m c0 (tourW xs c0 cs) then wayT m c0 (tourW xs c0 cs) else -1
theorem tourW_len (xs : List Ctl) (c0 : Nat) (cs : List Int) : (tourW xs c0 cs).length = cs.length + 1 := by simp [tourW]
theorem tourW_lt {xs : List Ctl} {c0 k : Nat} {cs : List Int} (hk : k < cs.length) : nth (tourW xs c0 cs) k = cellC xs (nth cs k) := by
  unfold tourW
  simp only [nth, List.getD]
  rw [List.getElem?_append_left (by simpa using hk), List.getElem?_map]
  simp [hk]
theorem tourW_at (xs : List Ctl) (c0 : Nat) (cs : List Int) : nth (tourW xs c0 cs) cs.length = c0 := by
  unfold tourW
  simp [nth]
theorem take_sN {L : List Nat} {k : Nat} (hk : k < L.length) : L.take (k + 1) = L.take k ++ [nth L k] := by
  rw [List.take_add_one]
  simp [nth, hk]

set_option maxRecDepth 100000 in
set_option maxHeartbeats 4000000 in
theorem spec_l17Time {m : MapD} {ao bo : Option Addr} {ac bc : Nat} {xs : List Ctl} {co : Option Addr} {cap : Nat} {qo : Option Addr} {qc : Nat} {cs : List Int} {c0 : Nat} {w : World} (h : Site w m ao bo xs co cap) (hc : ctlsB m xs = true) (hq : RowAt w qo 1 cs.length (ic cs)) (hl : cs.length ≤ 20) (ho : ofB xs cs = true) (hc0 : c0 < m.cost.length) :
    Calls Try.prog 53 #[m.val ao ac bo bc, .slice co xs.length cap, .int .i64 c0, .slice qo cs.length qc] w fun e w' => e = .returned (.int .i64 (tmI m xs c0 cs)) ∧ Ext w w' := by
  have hm := (ctls_map hc).1
  have h36 := (map_len hm).2.2.1
  have hX := (Ext.refl w).alloc (.cells #[.int .i64 m.wid, .int .i64 m.hei, .slice ao m.rise.length ac, .slice bo m.cost.length bc] 30)
  have p0 : (w.alloc (.cells #[.int .i64 m.wid, .int .i64 m.hei, .slice ao m.rise.length ac, .slice bo m.cost.length bc] 30)).cell? ⟨w.heap.size, 0, none⟩ = some (.int .i64 m.wid) := by go_simp
  have p1 : (w.alloc (.cells #[.int .i64 m.wid, .int .i64 m.hei, .slice ao m.rise.length ac, .slice bo m.cost.length bc] 30)).cell? ⟨w.heap.size, 1, none⟩ = some (.int .i64 m.hei) := by go_simp
  have p2 : (w.alloc (.cells #[.int .i64 m.wid, .int .i64 m.hei, .slice ao m.rise.length ac, .slice bo m.cost.length bc] 30)).cell? ⟨w.heap.size, 2, none⟩ = some (.slice ao m.rise.length ac) := by go_simp
  have p3 : (w.alloc (.cells #[.int .i64 m.wid, .int .i64 m.hei, .slice ao m.rise.length ac, .slice bo m.cost.length bc] 30)).cell? ⟨w.heap.size, 3, none⟩ = some (.slice bo m.cost.length bc) := by go_simp
  have HQ := Lib.hid (show _ ∧ _ ∧ _ ∧ _ from ⟨p0, p1, p2, p3⟩)
  have HX := Lib.hid hX
  have HTO := Lib.hid (fun y b (hx : Ext w y) hb => spec_l4To (w := y) (ac := ac) (bc := bc) (b := b) (h.rise.ext hx) (h.cost.ext hx) hm hb)
  have HTL := Lib.hid (fun b (hb : b < m.cost.length) => (timL_ok hm hb).len)
  have HCO := Lib.hid (fun y code (hx : Ext w y) hoc => spec_l8Cell (w := y) (cap := cap) (code := code) (h.ctls.ext hx) hc hoc)
  have HCB := Lib.hid (fun k (hk : k < cs.length) => show 0 ≤ ofI xs xs.length (nth cs k) ∧ cellC xs (nth cs k) < m.cost.length from ⟨ofB_at ho hk, (cellC_at hc (ofB_at ho hk)).choose_spec.2.2.2.1⟩)
  have hall : ∀ b, b ∈ tourW xs c0 cs → b < m.cost.length := fun b hb => by
    unfold tourW at hb
    rw [List.mem_append, List.mem_singleton] at hb
    rcases hb with hb | rfl
    · exact tour_lt hc ho hb
    · exact hc0
  have hpre : ∀ k, k ≤ cs.length + 1 → lastW c0 ((tourW xs c0 cs).take k) < m.cost.length ∧ 0 ≤ wayT m c0 ((tourW xs c0 cs).take k) ∧ wayT m c0 ((tourW xs c0 cs).take k) ≤ NT * 21 := fun k hk => by
    have hin : ∀ b, b ∈ (tourW xs c0 cs).take k → b < m.cost.length := fun b hb => hall b (List.mem_of_mem_take hb)
    have h1 := wayT_bd hm _ c0 hc0 hin
    refine ⟨lastW_lt _ _ hc0 hin, h1.1, ?_⟩
    have h2 := h1.2.1
    have h3 : ((tourW xs c0 cs).take k).length ≤ 21 := by rw [List.length_take, tourW_len]; omega
    have h4 : NT = 1073741824 := rfl
    rw [h4] at h2 ⊢
    omega
  have HPRE := Lib.hid hpre
  have HTB := Lib.hid (fun a b (ha : a < m.cost.length) (hb : b < m.cost.length) => show 0 ≤ nth (timL m b) a ∧ nth (timL m b) a ≤ NT from by
    have := (timL_ok hm hb).bd a (by rw [(timL_ok hm hb).len]; exact ha)
    exact ⟨this.1, this.2.2⟩)
  have HROW := Lib.hid hq
  have HNT := Lib.hid (show NT = 1073741824 from rfl)
  have HLT := Lib.hid (fun k (hk : k < cs.length) => tourW_lt (xs := xs) (c0 := c0) hk)
  have HAT := Lib.hid (tourW_at xs c0 cs)
  have HWL := Lib.hid (tourW_len xs c0 cs)
  have HFIN : Hid (tmI m xs c0 cs = if wayF m c0 (tourW xs c0 cs) then wayT m c0 (tourW xs c0 cs) else -1) := Lib.hid rfl
  unfold MapD.val at *
  generalize tmI m xs c0 cs = RES at *
  generalize tourW xs c0 cs = L at *
  clear h hc hq ho hpre hX p0 p1 p2 p3 hall
  go_enter Try.func53, Try.ntmps53
  go_wp2
  generalize w.alloc (.cells #[.int .i64 m.wid, .int .i64 m.hei, .slice ao m.rise.length ac, .slice bo m.cost.length bc] 30) = wb at HQ HX ⊢
  go_loopw [9, 10, 11] (fun sm hr i wr => ∃ k : Nat, k ≤ cs.length + 1 ∧ i = .int .i64 k ∧ sm = .int .i64 (wayT m c0 (L.take k)) ∧ hr = .int .i64 (lastW c0 (L.take k)) ∧ wayF m c0 (L.take k) = true ∧ Ext wb wr) (fun _ _ i _ => cs.length + 1 - (intOf i).toNat)
  case atStart => exact ⟨0, Nat.zero_le _, rfl, rfl, rfl, rfl, Ext.refl _⟩
  case round =>
    obtain ⟨k, hk, rfl, rfl, rfl, hf, hx⟩ := hrel
    have hb := HPRE.out k hk
    have HXW := Lib.hid hx; have HFK := Lib.hid hf
    have hl0 := hb.1; have hw0 := hb.2.1; have hw1 := hb.2.2
    rw [HNT.out] at hw1
    by_cases hle : k ≤ cs.length
    · have hsn : L.take (k + 1) = L.take k ++ [nth L k] := take_sN (by rw [HWL.out]; omega)
      by_cases hlt : k < cs.length
      · have hcb := HCB.out k hlt
        obtain ⟨hof, hcl⟩ := hcb
        have hBe := HLT.out k hlt
        rw [hBe] at hsn
        generalize hBg : cellC xs (nth cs k) = B at *
        obtain ⟨b, off, e9, hcell⟩ := ints_at' (HROW.out.ext (HX.out.trans hx)) (by omega)
        subst e9
        have d0 := hcell k hlt
        have HCC := Lib.hid (fun y hx2 => HCO.out y (nth cs k) (HX.out.trans (hx.trans hx2)) hof)
        rw [hBg] at HCC
        have hk0 : (0 : Int) ≤ (k : Int) := by omega
        have hk1 : (k : Int) < (cs.length : Int) := by omega
        have hk2 : (k : Int) ≤ (cs.length : Int) := by omega
        generalize nth cs k = code at *
        clear hcell hof hBe hBg

        have htb := HTB.out _ _ hl0 hcl
        have ht0 := htb.1; have ht1 := htb.2
        rw [HNT.out] at ht1
        have HTT := Lib.hid (fun y hx2 => HTO.out y B (HX.out.trans (hx.trans hx2)) hcl)
        have HTLB := Lib.hid (HTL.out B hcl)
        have HW1 : Hid (wayT m c0 (L.take (k + 1)) = wayT m c0 (L.take k) + nth (timL m B) (lastW c0 (L.take k))) := Lib.hid (by rw [hsn, wayT_snoc])
        have HW2 : Hid (lastW c0 (L.take (k + 1)) = B) := Lib.hid (by rw [hsn, lastW_snoc])
        have hW3 : wayF m c0 (L.take (k + 1)) = decide (nth (timL m B) (lastW c0 (L.take k)) < NT) := by rw [hsn, wayF_snoc, hf]; simp
        have HW3 := Lib.hid hW3
        have HBAD : Hid (¬ nth (timL m B) (lastW c0 (L.take k)) < NT → RES = -1) := Lib.hid (fun hn => by
          have h1 : wayF m c0 (L.take (k + 1)) = false := by rw [hW3]; exact decide_eq_false hn
          have h2 := wayF_pre m _ (L.drop (k + 1)) c0 h1
          rw [List.take_append_drop] at h2
          rw [HFIN.out, h2]; rfl)
        have hla : lastW c0 (L.take k) < (encL (timL m B)).length := by rw [encL_len, HTLB.out]; exact hl0
        have HEN := Lib.hid (encL_nth (o := timL m B) (k := lastW c0 (L.take k)) (by rw [HTLB.out]; exact hl0))
        have HENC := Lib.hid (show ∀ x : Int, enc1 x = if x < 1073741824 then x else -1 from fun x => rfl)

        go_wp2_with fail
        refine (HCC.out _ (Ext.refl _)).mono ?_; rintro e w1 ⟨rfl, hx1⟩
        have HXA := Lib.hid hx1
        clear d0 HCC

        have p0 := (HXW.out.trans hx1).cells HQ.out.1
        have p1 := (HXW.out.trans hx1).cells HQ.out.2.1
        have p2 := (HXW.out.trans hx1).cells HQ.out.2.2.1
        have p3 := (HXW.out.trans hx1).cells HQ.out.2.2.2
        have pl := World.block_lt_of_cell? _ _ p3

        clear hx1
        go_wp2_with fail

        clear hsn hf hx hb htb hW3
        refine (HTT.out _ HXA.out).mono ?_; rintro e w3 ⟨g, gc, rfl, hx3, hF⟩
        obtain ⟨lb, loff, e2, hcell⟩ := ints_at' (xs := encL (timL m B)) (by rw [encL_len, HTLB.out]; exact hF.row) (by omega)
        injection e2 with e2; injection e2 with e2 e3
        subst e2 e3
        have d1 := hcell (lastW c0 (L.take k)) hla
        rw [Nat.zero_add, HEN.out] at d1
        have HX3 := Lib.hid (HXA.out.trans hx3)
        clear hcell hF hx3 HTT hla
        have hla0 : (0 : Int) ≤ ((lastW c0 (L.take k) : Nat) : Int) := by omega
        have hla1 : ((lastW c0 (L.take k) : Nat) : Int) < (m.cost.length : Int) := by omega
        generalize nth (timL m B) (lastW c0 (L.take k)) = tt at *
        generalize lastW c0 (L.take k) = la at *
        generalize wayT m c0 (L.take k) = wa at *
        by_cases hfin : tt < 1073741824
        · rw [HENC.out tt, if_pos hfin] at d1
          have hnn : ¬ tt < 0 := by omega
          have HW4 : Hid (wayF m c0 (L.take (k + 1)) = true) := Lib.hid (by rw [HW3.out]; exact decide_eq_true hfin)
          go_wp2
          go_roundw
          case rel => exact ⟨k + 1, by omega, by go_num, by rw [HW1.out], by rw [HW2.out], HW4.out, HXW.out.trans HX3.out⟩
          case measure => simp [intOf] <;> omega
        · rw [HENC.out tt, if_neg hfin] at d1
          have HR1 := Lib.hid (HBAD.out (by have := HNT.out; omega))
          go_wp2
          go_ret
          exact ⟨ret_i HR1.out.symm, HX.out.trans (HXW.out.trans HX3.out)⟩
      · have hkn : k = cs.length := by omega
        have hBe : nth L k = c0 := by rw [hkn]; exact HAT.out
        rw [hBe] at hsn
        have hcl : c0 < m.cost.length := hc0
        have hk1 : ¬ (k : Int) < (cs.length : Int) := by omega
        have hk2 : (k : Int) ≤ (cs.length : Int) := by omega
        clear hBe hkn

        have htb := HTB.out _ _ hl0 hcl
        have ht0 := htb.1; have ht1 := htb.2
        rw [HNT.out] at ht1
        have HTT := Lib.hid (fun y hx2 => HTO.out y c0 (HX.out.trans (hx.trans hx2)) hcl)
        have HTLB := Lib.hid (HTL.out c0 hcl)
        have HW1 : Hid (wayT m c0 (L.take (k + 1)) = wayT m c0 (L.take k) + nth (timL m c0) (lastW c0 (L.take k))) := Lib.hid (by rw [hsn, wayT_snoc])
        have HW2 : Hid (lastW c0 (L.take (k + 1)) = c0) := Lib.hid (by rw [hsn, lastW_snoc])
        have hW3 : wayF m c0 (L.take (k + 1)) = decide (nth (timL m c0) (lastW c0 (L.take k)) < NT) := by rw [hsn, wayF_snoc, hf]; simp
        have HW3 := Lib.hid hW3
        have HBAD : Hid (¬ nth (timL m c0) (lastW c0 (L.take k)) < NT → RES = -1) := Lib.hid (fun hn => by
          have h1 : wayF m c0 (L.take (k + 1)) = false := by rw [hW3]; exact decide_eq_false hn
          have h2 := wayF_pre m _ (L.drop (k + 1)) c0 h1
          rw [List.take_append_drop] at h2
          rw [HFIN.out, h2]; rfl)
        have hla : lastW c0 (L.take k) < (encL (timL m c0)).length := by rw [encL_len, HTLB.out]; exact hl0
        have HEN := Lib.hid (encL_nth (o := timL m c0) (k := lastW c0 (L.take k)) (by rw [HTLB.out]; exact hl0))
        have HENC := Lib.hid (show ∀ x : Int, enc1 x = if x < 1073741824 then x else -1 from fun x => rfl)

        have HXA := Lib.hid (Ext.refl wr)

        have p0 := (HXW.out).cells HQ.out.1
        have p1 := (HXW.out).cells HQ.out.2.1
        have p2 := (HXW.out).cells HQ.out.2.2.1
        have p3 := (HXW.out).cells HQ.out.2.2.2
        have pl := World.block_lt_of_cell? _ _ p3

        go_wp2_with fail

        clear hsn hf hx hb htb hW3
        refine (HTT.out _ HXA.out).mono ?_; rintro e w3 ⟨g, gc, rfl, hx3, hF⟩
        obtain ⟨lb, loff, e2, hcell⟩ := ints_at' (xs := encL (timL m c0)) (by rw [encL_len, HTLB.out]; exact hF.row) (by omega)
        injection e2 with e2; injection e2 with e2 e3
        subst e2 e3
        have d1 := hcell (lastW c0 (L.take k)) hla
        rw [Nat.zero_add, HEN.out] at d1
        have HX3 := Lib.hid (HXA.out.trans hx3)
        clear hcell hF hx3 HTT hla
        have hla0 : (0 : Int) ≤ ((lastW c0 (L.take k) : Nat) : Int) := by omega
        have hla1 : ((lastW c0 (L.take k) : Nat) : Int) < (m.cost.length : Int) := by omega
        generalize nth (timL m c0) (lastW c0 (L.take k)) = tt at *
        generalize lastW c0 (L.take k) = la at *
        generalize wayT m c0 (L.take k) = wa at *
        by_cases hfin : tt < 1073741824
        · rw [HENC.out tt, if_pos hfin] at d1
          have hnn : ¬ tt < 0 := by omega
          have HW4 : Hid (wayF m c0 (L.take (k + 1)) = true) := Lib.hid (by rw [HW3.out]; exact decide_eq_true hfin)
          go_wp2
          go_roundw
          case rel => exact ⟨k + 1, by omega, by go_num, by rw [HW1.out], by rw [HW2.out], HW4.out, HXW.out.trans HX3.out⟩
          case measure => simp [intOf] <;> omega
        · rw [HENC.out tt, if_neg hfin] at d1
          have HR1 := Lib.hid (HBAD.out (by have := HNT.out; omega))
          go_wp2
          go_ret
          exact ⟨ret_i HR1.out.symm, HX.out.trans (HXW.out.trans HX3.out)⟩
    · have hkn : k = cs.length + 1 := by omega
      have hnk : ¬ (k : Int) ≤ (cs.length : Int) := by omega
      have hWL2 := HWL.out
      have HRES : Hid (RES = wayT m c0 (L.take k)) := by
        have e : L.take k = L := by rw [List.take_of_length_le (by omega)]
        rw [e] at hf ⊢
        rw [HFIN.out, if_pos hf]
        exact Lib.hid rfl
      generalize wayT m c0 (L.take k) = wa at *
      generalize lastW c0 (L.take k) = la at *
      clear hx hf hb hWL2
      go_wp2
      go_ret
      exact ⟨ret_i HRES.out.symm, HX.out.trans HXW.out⟩

end Go.Proofs.Ytidcfohlhamgmaa
