/-
  Proved here: what LateEntries, ClassSizes and their references return.
  Conditions: the number of entries fits an int.
-/
import Derived.Test.YtkejhhflpnfepaaEnt1
import Derived.Test.YtkejhhflpnfepaaPut
import Derived.Test.YtkejhhflpnfepaaCurL
import Derived.Test.YtkejhhflpnfepaaSearch
import Derived.Deep.DeepCutAuto
import Derived.Deep.CutBlock
namespace Go.Proofs.Ytkejhhflpnfepaa
open Go.RowKit

/-- what is handed back: a list of numbers, a bool -/
def ResJ (w : World) (L : List Int) (B : Bool) (e : Ending) (w' : World) : Prop := ∃ bo bc, e = .returned (.tuple #[.slice bo L.length bc, .bool B]) ∧ Ext w w' ∧ RowAt w' bo 1 L.length (ic L)
theorem ResJ.mk {w w' : World} {L : List Int} {B : Bool} {e : Ending} (bo : Option Addr) (bc : Nat) (h : e = .returned (.tuple #[.slice bo L.length bc, .bool B])) (h1 : Ext w w') (h2 : RowAt w' bo 1 L.length (ic L)) : ResJ w L B e w' := ⟨bo, bc, h, h1, h2⟩
theorem rowJ_nil {w : World} {ao : Option Addr} {s : Nat} {c : Nat → Nat → Value} : RowAt w ao s 0 c := fun h => absurd h (Nat.lt_irrefl 0)

set_option maxRecDepth 100000 in
set_option maxHeartbeats 1000000 in
theorem impl_LateEntries {ao : Option Addr} {cap : Nat} {xs : List Ent} {w : World} (h : RowAt w ao 5 xs.length (fun k => (nth xs k).c)) (hn : xs.length ≤ 9223372036854775807) :
    Calls Try.prog 17 #[.slice ao xs.length cap] w (ResJ w (lateL xs) (entsB xs)) := by
  obtain ⟨i0, hi, hz0, hz1, hz2⟩ := info_parts infoInt
  cases hv : entsB xs
  · have HL := Lib.hid (show lateL xs = [] from by unfold lateL; rw [hv]; rfl)
    have HV := Lib.hid hv; clear hv
    go_enter Try.func17, Try.ntmps17
    go_wp2_with fail
    refine (impl_AreEntries h hn).mono ?_; rw [HV.out]; rintro e w1 ⟨rfl, hx1⟩
    go_wp2
    go_ret2
    rw [HL.out]
    exact .mk none 0 rfl hx1 rowJ_nil
  · have HL := Lib.hid (show lateL xs = lateU xs xs.length from by unfold lateL; rw [hv]; rfl)
    have hl12 := entsB_len hv
    have HV := Lib.hid hv; clear hv
    go_enter Try.func17, Try.ntmps17
    go_wp2_with fail
    refine (impl_AreEntries h hn).mono ?_; rw [HV.out]; rintro e w1 ⟨rfl, hx1⟩
    have hst := Owns.start (α := Int) (e := 3) (s := 1) (cc := icc) hx1
    go_wp2
    go_loopw [4, 13] (fun out i wr => ∃ k : Nat, k ≤ xs.length ∧ i = .int .i64 k ∧ Ext w wr ∧ Owns wr w.heap.size 3 1 icc out (lateU xs k)) (fun _ i _ => xs.length - (intOf i).toNat)
    case atStart => exact ⟨0, by omega, rfl, hx1.alloc _, hst⟩
    case round =>
      clear hst hx1
      obtain ⟨k, hk, rfl, hx, hown⟩ := hrel
      have hlen := lateU_len xs k
      by_cases hlt : k < xs.length
      · obtain ⟨b, off, rfl, hcell⟩ := h (by omega)
        have d0 := hx.cells (hcell k hlt 0 (by decide))
        have d1 := hx.cells (hcell k hlt 1 (by decide))
        have d2 := hx.cells (hcell k hlt 2 (by decide))
        have d3 := hx.cells (hcell k hlt 3 (by decide))
        have d4 := hx.cells (hcell k hlt 4 (by decide))
        simp only [Ent.c0, Ent.c1, Ent.c2, Ent.c3, Ent.c4, Nat.add_zero] at d0 d1 d2 d3 d4
        clear hcell h
        by_cases hneg : 300 ≤ (nth xs k).day
        · have hnx : lateU xs (k + 1) = lateU xs k ++ [(nth xs k).runner] := by rw [lateU, if_pos hneg]
          have HN := Lib.hid hnx; clear hnx
          have hrow2 := fun x => row_lit (w := x) (cs := #[.int .i64 (nth xs k).runner]) (T := 3) (s := 1) (cc := icc) (x := (nth xs k).runner) (by intro j hj; obtain rfl : j = 0 := (by omega); rfl)
          go_wp2_with (at_builtin; refine wpList_append_where rfl _ _ 35 rfl w 3 i0 _ 1 8 Try.underlying35 hi hz0 hz1 hz2 rfl (by decide) icc icc_one _ (lateU xs k) [(nth xs k).runner] rfl (hown.kept (((Ext.refl _).alloc _).alloc _)) ⟨wr.heap.size + 1, 0, none⟩ 1 1 rfl rfl (by simpa using hrow2 (wr.alloc _)) (by simp; omega) (by simp; omega) ((hx.alloc _).alloc _) ?_; intro v1 w3 ho1 hx3 hg3 hv3)
          rw [← HN.out] at ho1
          clear hg3 hv3
          go_wp2
          go_roundw
          case rel => exact ⟨k + 1, by omega, by go_num, hx3, ho1⟩
          case measure => simp [intOf]; omega
        · have hnx : lateU xs (k + 1) = lateU xs k := by rw [lateU, if_neg hneg]
          have HN := Lib.hid hnx; clear hnx
          go_wp2
          go_roundw
          case rel => exact ⟨k + 1, by omega, by go_num, hx.alloc _, by rw [HN.out]; exact hown.kept ((Ext.refl _).alloc _)⟩
          case measure => simp [intOf]; omega
      · obtain rfl : k = xs.length := by omega
        obtain ⟨go', gc', rfl, hFo, _, _, _⟩ := hown.fresh
        have HR := Lib.hid hFo.row
        clear hFo hown
        go_wp2
        go_ret2
        rw [HL.out]
        exact .mk _ _ rfl hx HR.out

set_option maxRecDepth 100000 in
set_option maxHeartbeats 1000000 in
theorem spec_LateEntries {ao : Option Addr} {cap : Nat} {xs : List Ent} {w : World} (h : RowAt w ao 5 xs.length (fun k => (nth xs k).c)) (hn : xs.length ≤ 9223372036854775807) :
    Calls Try.prog 18 #[.slice ao xs.length cap] w (ResJ w (lateL xs) (entsB xs)) := by
  obtain ⟨i0, hi, hz0, hz1, hz2⟩ := info_parts infoInt
  have HXA := Lib.hid ((Ext.refl w).alloc (.cells #[] 3))
  have HST := Lib.hid (Owns.start (α := Int) (e := 3) (s := 1) (cc := icc) (Ext.refl w))
  cases hv : entsB xs
  · have HL := Lib.hid (show lateL xs = [] from by unfold lateL; rw [hv]; rfl)
    have HV := Lib.hid hv; clear hv
    go_enter Try.func18, Try.ntmps18
    go_wp2_with fail
    refine (spec_l11Good (h.ext HXA.out) hn).mono ?_; rw [HV.out]; rintro e w1 ⟨rfl, hx1⟩
    have HX1 := Lib.hid (HXA.out.trans hx1)
    clear hx1
    go_wp2
    go_ret2
    rw [HL.out]
    exact .mk _ 0 rfl HX1.out rowJ_nil
  · have HL := Lib.hid (show lateL xs = lateU xs xs.length from by unfold lateL; rw [hv]; rfl)
    have hl12 := entsB_len hv
    have HV := Lib.hid hv; clear hv
    go_enter Try.func18, Try.ntmps18
    go_wp2_with fail
    refine (spec_l11Good (h.ext HXA.out) hn).mono ?_; rw [HV.out]; rintro e w1 ⟨rfl, hx1⟩
    have hx0 := HXA.out.trans hx1
    have hst := HST.out.kept hx1
    clear hx1
    go_wp2
    go_loopw [4, 5] (fun out i wr => ∃ k : Nat, k ≤ xs.length ∧ i = .int .i64 k ∧ Ext w wr ∧ Owns wr w.heap.size 3 1 icc out (lateU xs k)) (fun _ i _ => xs.length - (intOf i).toNat)
    case atStart => exact ⟨0, by omega, rfl, hx0, hst⟩
    case round =>
      clear hst hx0
      obtain ⟨k, hk, rfl, hx, hown⟩ := hrel
      have hlen := lateU_len xs k
      by_cases hlt : k < xs.length
      · obtain ⟨b, off, rfl, hcell⟩ := h (by omega)
        have d0 := hx.cells (hcell k hlt 0 (by decide))
        have d2 := hx.cells (hcell k hlt 2 (by decide))
        simp only [Ent.c0, Ent.c2, Nat.add_zero] at d0 d2
        clear hcell h
        by_cases hneg : 300 ≤ (nth xs k).day
        · have hnx : lateU xs (k + 1) = lateU xs k ++ [(nth xs k).runner] := by rw [lateU, if_pos hneg]
          have HN := Lib.hid hnx; clear hnx
          have hrow2 := fun x => row_lit (w := x) (cs := #[.int .i64 (nth xs k).runner]) (T := 3) (s := 1) (cc := icc) (x := (nth xs k).runner) (by intro j hj; obtain rfl : j = 0 := (by omega); rfl)
          go_wp2_with (at_builtin; refine wpList_append_where rfl _ _ 35 rfl w 3 i0 _ 1 8 Try.underlying35 hi hz0 hz1 hz2 rfl (by decide) icc icc_one _ (lateU xs k) [(nth xs k).runner] rfl (hown.kept ((Ext.refl _).alloc _)) ⟨wr.heap.size, 0, none⟩ 1 1 rfl rfl (hrow2 _) (by simp; omega) (by simp; omega) (hx.alloc _) ?_; intro v1 w3 ho1 hx3 hg3 hv3)
          rw [← HN.out] at ho1
          clear hg3 hv3
          go_wp2
          go_roundw
          case rel => exact ⟨k + 1, by omega, by go_num, hx3, ho1⟩
          case measure => simp [intOf]; omega
        · have hnx : lateU xs (k + 1) = lateU xs k := by rw [lateU, if_neg hneg]
          have HN := Lib.hid hnx; clear hnx
          go_wp2
          go_roundw
          case rel => exact ⟨k + 1, by omega, by go_num, hx, by rw [HN.out]; exact hown⟩
          case measure => simp [intOf]; omega
      · obtain rfl : k = xs.length := by omega
        obtain ⟨go', gc', rfl, hFo, _, _, _⟩ := hown.fresh
        have HR := Lib.hid hFo.row
        clear hFo hown
        go_wp2
        go_ret2
        rw [HL.out]
        exact .mk _ _ rfl hx HR.out

/-- two slices of the call's own, apart from one another -/
structure Two (a w : World) (e : TypeId) (v1 : Value) (xs : List Int) (v2 : Value) (ys : List Int) : Prop where
  ext : Ext a w
  o1 : Owns w a.heap.size e 1 icc v1 xs
  o2 : Owns w a.heap.size e 1 icc v2 ys
  ne : ∀ k, v1.ownBlock = some k → v2.ownBlock ≠ some k
theorem Two.kept {a w w' : World} {e : TypeId} {v1 v2 : Value} {xs ys : List Int} (h : Two a w e v1 xs v2 ys) (hx : Ext w w') : Two a w' e v1 xs v2 ys := ⟨h.ext.trans hx, h.o1.kept hx, h.o2.kept hx, h.ne⟩
theorem Two.start {a w : World} {e : TypeId} (hx : Ext a w) : Two a ((w.alloc (.cells #[] e)).alloc (.cells #[] e)) e (.slice (some ⟨w.heap.size, 0, none⟩) 0 0) [] (.slice (some ⟨w.heap.size + 1, 0, none⟩) 0 0) [] := by
  refine ⟨(hx.alloc _).alloc _, (Owns.start hx).kept ((Ext.refl _).alloc _), ?_, fun k h1 h2 => ?_⟩
  · have := Owns.start (α := Int) (e := e) (s := 1) (cc := icc) (hx.alloc (.cells #[] e))
    simpa using this
  · simp only [Value.ownBlock, Option.some.injEq] at h1 h2
    omega
theorem Owns.besides {α : Type} {w w' : World} {base : Nat} {e : TypeId} {s : Nat} {cc : α → Nat → Value} {v : Value} {xs : List α} {row : Option Nat} (h : Owns w base e s cc v xs) (hg : w.grownBy w' row) (hr : ∀ k, row = some k → v.ownBlock ≠ some k) : Owns w' base e s cc v xs := by
  have h0 : w.ownsRow base e s v xs.length (fl s cc xs) := h
  refine h0.kept hg ?_
  cases e : v.ownBlock with
  | none => exact .inl rfl
  | some k => exact .inr (fun e2 => hr k e2.symm e)
theorem Two.push1 {a w w' : World} {e : TypeId} {v1 v2 v' : Value} {xs ys zs : List Int} (h : Two a w e v1 xs v2 ys) (ho : Owns w' a.heap.size e 1 icc v' zs) (hx : Ext a w') (hg : w.grownBy w' v1.ownBlock) (hv : v'.ownBlock = v1.ownBlock ∨ v'.ownBlock = some w.heap.size) : Two a w' e v' zs v2 ys := by
  refine ⟨hx, ho, h.o2.besides hg (fun k hk => h.ne k hk), fun k hk h2 => ?_⟩
  rcases hv with hv | hv
  · exact h.ne k (hv ▸ hk) h2
  · rw [hv] at hk
    injection hk with hk
    have h0 : w.ownsRow a.heap.size e 1 v2 ys.length (fl 1 icc ys) := h.o2
    have := (h0.lt k h2).2
    omega
theorem Two.swap {a w : World} {e : TypeId} {v1 v2 : Value} {xs ys : List Int} (h : Two a w e v1 xs v2 ys) : Two a w e v2 ys v1 xs := ⟨h.ext, h.o2, h.o1, fun k h1 h2 => h.ne k h2 h1⟩

/-- what is handed back: two lists of numbers, a bool -/
def ResC (w : World) (L M : List Int) (B : Bool) (e : Ending) (w' : World) : Prop := ∃ bo bc co cc, e = .returned (.tuple #[.slice bo L.length bc, .slice co M.length cc, .bool B]) ∧ Ext w w' ∧ RowAt w' bo 1 L.length (ic L) ∧ RowAt w' co 1 M.length (ic M)
theorem ResC.mk {w w' : World} {L M : List Int} {B : Bool} {e : Ending} (bo : Option Addr) (bc : Nat) (co : Option Addr) (cc : Nat) (h : e = .returned (.tuple #[.slice bo L.length bc, .slice co M.length cc, .bool B])) (h1 : Ext w w') (h2 : RowAt w' bo 1 L.length (ic L)) (h3 : RowAt w' co 1 M.length (ic M)) : ResC w L M B e w' := ⟨bo, bc, co, cc, h, h1, h2, h3⟩
theorem szU_len (xs : List Ent) (n : Nat) : (szU xs n).length = (clsU xs n).length := by rw [szU_map, List.length_map]

set_option maxRecDepth 100000 in
set_option maxHeartbeats 2000000 in
theorem impl_ClassSizes {ao : Option Addr} {cap : Nat} {xs : List Ent} {w : World} (h : RowAt w ao 5 xs.length (fun k => (nth xs k).c)) (hn : xs.length ≤ 9223372036854775807) :
    Calls Try.prog 12 #[.slice ao xs.length cap] w (ResC w (clsL xs) (sizL xs) (entsB xs)) := by
  obtain ⟨i0, hi, hz0, hz1, hz2⟩ := info_parts infoInt
  cases hv : entsB xs
  · have HL := Lib.hid (show clsL xs = [] from by unfold clsL; rw [hv]; rfl)
    have HM := Lib.hid (show sizL xs = [] from by unfold sizL; rw [hv]; rfl)
    have HV := Lib.hid hv; clear hv
    go_enter Try.func12, Try.ntmps12
    go_wp2_with fail
    refine (impl_AreEntries h hn).mono ?_; rw [HV.out]; rintro e w1 ⟨rfl, hx1⟩
    go_wp2
    go_ret3
    rw [HL.out, HM.out]
    exact .mk none 0 none 0 rfl hx1 rowJ_nil rowJ_nil
  · have HL := Lib.hid (show clsL xs = clsU xs 99 from by unfold clsL; rw [hv]; rfl)
    have HM := Lib.hid (show sizL xs = szU xs 99 from by unfold sizL; rw [hv]; rfl)
    have hl12 := entsB_len hv
    have HV := Lib.hid hv; clear hv
    go_enter Try.func12, Try.ntmps12
    go_wp2_with fail
    refine (impl_AreEntries h hn).mono ?_; rw [HV.out]; rintro e w1 ⟨rfl, hx1⟩
    have HST := Lib.hid (Two.start (e := 3) hx1)
    clear hx1
    go_wp2
    go_loopw [5, 6, 7] (fun v1 v2 i wr => ∃ k : Nat, k ≤ 99 ∧ i = .int .i64 ((k : Int) + 1) ∧ Two w wr 3 v1 (clsU xs k) v2 (szU xs k)) (fun _ _ i _ => 100 - (intOf i).toNat)
    case atStart => exact ⟨0, by omega, rfl, HST.out⟩
    case round =>
      clear HST
      obtain ⟨k, hk, rfl, hT⟩ := hrel
      have HT := Lib.hid hT
      have hlen := clsU_len xs k
      have hlen2 := szU_len xs k
      have HLN := Lib.hid hlen2
      by_cases hlt : k < 99
      · have hc9 : ((k : Int) + 1) ≤ 99 := by omega
        have hc0 : (0 : Int) ≤ (k : Int) := by omega
        obtain ⟨w7, hw7⟩ : ∃ w7, w7 = wr := ⟨_, rfl⟩
        rw [← hw7] at HT
        have hx7 : Ext w7 wr := by rw [hw7]; exact Ext.refl _
        clear hT hw7
        go_wp2
        go_loopw [8, 22] (fun c i wz => ∃ j : Nat, j ≤ xs.length ∧ i = .int .i64 j ∧ c = .int .i64 (cntC xs ((k : Int) + 1) j) ∧ Ext w7 wz) (fun _ i _ => xs.length - (intOf i).toNat)
        case atStart => exact ⟨0, by omega, rfl, rfl, hx7⟩
        case round =>
          clear hx7
          obtain ⟨j, hj, rfl, rfl, hy⟩ := hrel
          have hcl := cntC_le xs ((k : Int) + 1) j
          by_cases hjl : j < xs.length
          · obtain ⟨b, off, rfl, hcell⟩ := h (by omega)
            have d0 := hy.cells (HT.out.ext.cells (hcell j hjl 0 (by decide)))
            have d1 := hy.cells (HT.out.ext.cells (hcell j hjl 1 (by decide)))
            have d2 := hy.cells (HT.out.ext.cells (hcell j hjl 2 (by decide)))
            have d3 := hy.cells (HT.out.ext.cells (hcell j hjl 3 (by decide)))
            have d4 := hy.cells (HT.out.ext.cells (hcell j hjl 4 (by decide)))
            simp only [Ent.c0, Ent.c1, Ent.c2, Ent.c3, Ent.c4, Nat.add_zero] at d0 d1 d2 d3 d4
            have HY := Lib.hid hy
            have HCN := Lib.hid (show cntC xs ((k : Int) + 1) (j + 1) = cntC xs ((k : Int) + 1) j + if (nth xs j).cls = (k : Int) + 1 then 1 else 0 from rfl)
            clear hcell hy
            by_cases hcj : (nth xs j).cls = (k : Int) + 1
            · have HCJ := Lib.hid hcj
              have hcb : ((nth xs j).cls == (k : Int) + 1) = true := by simpa using hcj
              clear hcj
              generalize (nth xs j).cls = q at d1 HCJ HCN hcb
              generalize cntC xs ((k : Int) + 1) j = p at HCN hcl
              go_wp2
              go_roundw
              case rel => exact ⟨j + 1, by omega, by go_num, by rw [HCN.out, if_pos HCJ.out]; go_num, HY.out.alloc _⟩
              case measure => simp [intOf]; omega
            · have HCJ := Lib.hid hcj
              have hcb : ((nth xs j).cls == (k : Int) + 1) = false := by simpa using hcj
              clear hcj
              generalize (nth xs j).cls = q at d1 HCJ HCN hcb
              generalize cntC xs ((k : Int) + 1) j = p at HCN hcl
              go_wp2
              go_roundw
              case rel => exact ⟨j + 1, by omega, by go_num, by rw [HCN.out, if_neg HCJ.out]; go_num, HY.out.alloc _⟩
              case measure => simp [intOf]; omega
          · obtain rfl : j = xs.length := by omega
            have HT2 := Lib.hid (HT.out.kept hy)
            have HCU := Lib.hid (show clsU xs (k + 1) = if 0 < cntC xs ((k : Int) + 1) xs.length then clsU xs k ++ [(k : Int) + 1] else clsU xs k from rfl)
            have HSU := Lib.hid (show szU xs (k + 1) = if 0 < cntC xs ((k : Int) + 1) xs.length then szU xs k ++ [(cntC xs ((k : Int) + 1) xs.length : Int)] else szU xs k from rfl)
            clear hy
            generalize cntC xs ((k : Int) + 1) xs.length = p at HCU HSU hcl
            by_cases hp : 0 < p
            · have HC1 := Lib.hid (show clsU xs (k + 1) = clsU xs k ++ [(k : Int) + 1] from by rw [HCU.out, if_pos hp])
              have HS1 := Lib.hid (show szU xs (k + 1) = szU xs k ++ [(p : Int)] from by rw [HSU.out, if_pos hp])
              have hrow1 := fun x => row_lit (w := x) (cs := #[.int .i64 ((k : Int) + 1)]) (T := 3) (s := 1) (cc := icc) (x := (k : Int) + 1) (by intro j hj; obtain rfl : j = 0 := (by omega); rfl)
              have hrow2 := fun x => row_lit (w := x) (cs := #[.int .i64 (p : Int)]) (T := 3) (s := 1) (cc := icc) (x := (p : Int)) (by intro j hj; obtain rfl : j = 0 := (by omega); rfl)
              have HT3 := Lib.hid (HT2.out.kept ((Ext.refl wr).alloc (.cells #[.int .i64 ((k : Int) + 1)] 3)))
              have HRW := Lib.hid hrow2
              have hlen3 : (szU xs k).length ≤ 99 := by omega
              clear hrow2 HT2 HCU HSU
              go_wp2_with (first
                | (at_builtin; refine wpList_append_where (o := ⟨some 38, _, _, _, _, _⟩) rfl _ _ 35 rfl w 3 i0 _ 1 8 Try.underlying35 hi hz0 hz1 hz2 rfl (by decide) icc icc_one _ (clsU xs k) [(k : Int) + 1] rfl HT3.out.o1 ⟨wr.heap.size, 0, none⟩ 1 1 rfl rfl (hrow1 _) (by simp; omega) (by simp; omega) HT3.out.ext ?_; intro v3 w3 ho3 hx3 hg3 hv3; have HT4 := Lib.hid (HT3.out.push1 ho3 hx3 hg3 hv3); have HT5 := Lib.hid (HT4.out.kept ((Ext.refl w3).alloc (.cells #[.int .i64 (p : Int)] 3))); clear ho3 hx3 hg3 hv3 hrow1)
                | (at_builtin; refine wpList_append_where (o := ⟨some 42, _, _, _, _, _⟩) rfl _ _ 35 rfl w 3 i0 _ 1 8 Try.underlying35 hi hz0 hz1 hz2 rfl (by decide) icc icc_one _ (szU xs k) [(p : Int)] rfl HT5.out.o2 ⟨w3.heap.size, 0, none⟩ 1 1 rfl rfl (HRW.out _) (by simp; omega) (by simp; omega) HT5.out.ext ?_; intro v4 w4 ho4 hx4 hg4 hv4; have HT6 := Lib.hid (HT5.out.swap.push1 ho4 hx4 hg4 hv4).swap; clear ho4 hx4 hg4 hv4))
              go_roundw
              case rel => exact ⟨k + 1, by omega, by go_num, by rw [HC1.out, HS1.out]; exact HT6.out⟩
              case measure => simp [intOf]; omega
            · have HC1 := Lib.hid (show clsU xs (k + 1) = clsU xs k from by rw [HCU.out, if_neg hp])
              have HS1 := Lib.hid (show szU xs (k + 1) = szU xs k from by rw [HSU.out, if_neg hp])
              obtain rfl : p = 0 := by omega
              go_wp2
              go_roundw
              case rel => exact ⟨k + 1, by omega, by go_num, by rw [HC1.out, HS1.out]; exact HT2.out⟩
              case measure => simp [intOf]; omega
      · obtain rfl : k = 99 := by omega
        obtain ⟨go1, gc1, rfl, hF1, _, _, _⟩ := hT.o1.fresh
        obtain ⟨go2, gc2, rfl, hF2, _, _, _⟩ := hT.o2.fresh
        have HR1 := Lib.hid hF1.row
        have HR2 := Lib.hid hF2.row
        have HX := Lib.hid hT.ext
        clear hF1 hF2 hT hlen hlen2
        go_wp2
        go_ret3
        rw [HL.out, HM.out]
        exact .mk _ _ _ _ rfl HX.out HR1.out HR2.out

/-- the sizes of the first k classes of a list -/
def szP (xs : List Ent) (L : List Int) (k : Nat) : List Int := (L.take k).map fun c => (cntC xs c xs.length : Int)
theorem szP_len {xs : List Ent} {L : List Int} {k : Nat} (hk : k ≤ L.length) : (szP xs L k).length = k := by unfold szP; rw [List.length_map, List.length_take, Nat.min_eq_left hk]
theorem szP_succ {xs : List Ent} {L : List Int} {k : Nat} (hk : k < L.length) : szP xs L (k + 1) = szP xs L k ++ [(cntC xs (nth L k) xs.length : Int)] := by
  unfold szP
  rw [List.take_succ_eq_append_getElem hk, List.map_append]
  simp [nth, List.getD, List.getElem?_eq_getElem hk]
theorem szP_all (xs : List Ent) (h : entsB xs = true) : szP xs (putU xs xs.length) (putU xs xs.length).length = sizL xs := by
  unfold szP sizL
  rw [if_pos h, List.take_length, putU_cls h, szU_map]

set_option maxRecDepth 100000 in
set_option maxHeartbeats 2000000 in
theorem spec_ClassSizes {ao : Option Addr} {cap : Nat} {xs : List Ent} {w : World} (h : RowAt w ao 5 xs.length (fun k => (nth xs k).c)) (hn : xs.length ≤ 9223372036854775807) :
    Calls Try.prog 13 #[.slice ao xs.length cap] w (ResC w (clsL xs) (sizL xs) (entsB xs)) := by
  obtain ⟨i0, hi, hz0, hz1, hz2⟩ := info_parts infoInt
  have HXA := Lib.hid (((Ext.refl w).alloc (.cells #[] 3)).alloc (.cells #[] 3))
  have HTW := Lib.hid (Two.start (e := 3) (Ext.refl w))
  have HNC := Lib.hid (show ∀ j, ((w.alloc (.cells #[] 3)).alloc (.cells #[] 3)).cell? ⟨w.heap.size + 1, j, none⟩ = none from fun j => by simp)
  cases hv : entsB xs
  · have HL := Lib.hid (show clsL xs = [] from by unfold clsL; rw [hv]; rfl)
    have HM := Lib.hid (show sizL xs = [] from by unfold sizL; rw [hv]; rfl)
    have HV := Lib.hid hv; clear hv
    go_enter Try.func13, Try.ntmps13
    go_wp2_with fail
    refine (spec_l11Good (h.ext HXA.out) hn).mono ?_; rw [HV.out]; rintro e w1 ⟨rfl, hx1⟩
    have HX1 := Lib.hid (HXA.out.trans hx1)
    clear hx1
    go_wp2
    go_ret3
    rw [HL.out, HM.out]
    exact .mk _ 0 _ 0 rfl HX1.out rowJ_nil rowJ_nil
  · have HL := Lib.hid (show clsL xs = putU xs xs.length from by unfold clsL; rw [hv, putU_cls hv]; rfl)
    have HM := Lib.hid (szP_all xs hv)
    have hl12 := entsB_len hv
    have HV := Lib.hid hv; clear hv
    go_enter Try.func13, Try.ntmps13
    go_wp2_with fail
    refine (spec_l11Good (h.ext HXA.out) hn).mono ?_; rw [HV.out]; rintro e w1 ⟨rfl, hx1⟩
    have hx0 := HXA.out.trans hx1
    have ho0 := HTW.out.o2.kept hx1
    have hc0 : ∀ j, w1.cell? ⟨w.heap.size + 1, j, none⟩ = none := fun j => (hx1.cellr _ j (by simp)).trans (HNC.out j)
    clear hx1 HNC HTW HXA
    go_wp2
    go_loopw [5, 7] (fun sl i wr => ∃ (k b off bc : Nat), k ≤ xs.length ∧ i = .int .i64 k ∧ sl = .slice (some ⟨b, off, none⟩) (putU xs k).length bc ∧ Ext w wr ∧ RowAt wr (some ⟨b, off, none⟩) 1 (putU xs k).length (ic (putU xs k)) ∧ ((putU xs k).length ≤ bc ∧ bc ≤ 9223372036854775807) ∧ Owns wr w.heap.size 3 1 icc (.slice (some ⟨w.heap.size + 1, 0, none⟩) 0 0) [] ∧ ∀ j, wr.cell? ⟨w.heap.size + 1, j, none⟩ = none) (fun _ i _ => xs.length - (intOf i).toNat)
    case atStart => exact ⟨0, w.heap.size, 0, 0, by omega, rfl, rfl, hx0, rowJ_nil, ⟨by simp [putU], by omega⟩, ho0, hc0⟩
    case round =>
      clear hx0 ho0 hc0
      obtain ⟨k, b, off, bc, hk, rfl, rfl, hx, hrow, hbc, ho, hnc⟩ := hrel
      have HX := Lib.hid hx; have HROW := Lib.hid hrow; have HO := Lib.hid ho; have HNC := Lib.hid hnc
      have hlen := putU_len xs k
      clear hrow ho hnc
      by_cases hlt : k < xs.length
      · obtain ⟨ab, aoff, rfl, hcell⟩ := h (by omega)
        have d1 := hx.cells (hcell k hlt 1 (by decide))
        simp only [Ent.c1] at d1
        have HPU := Lib.hid (show putU xs (k + 1) = if hasI (putU xs k) (putU xs k).length (nth xs k).cls then putU xs k else putL (putU xs k) (nth xs k).cls from rfl)
        have HHAS := Lib.hid (fun v => spec_l1Has (cap := bc) (v := v) HROW.out (by omega))
        have HPUT := Lib.hid (fun y (hy : Ext wr y) n => spec_l1Put (n := n) (HROW.out.ext hy) (by omega) hbc)
        have HBD := Lib.hid hbc
        clear hcell hx hbc
        generalize (nth xs k).cls = q at d1 HPU
        generalize putU xs k = P at HROW HPU HHAS HPUT HBD hlen
        cases hq : hasI P P.length q
        · have HQ := Lib.hid hq
          have HP1 := Lib.hid (show putU xs (k + 1) = putL P q from by rw [HPU.out, hq]; rfl)
          clear hq HPU
          go_wp2_with fail
          refine (HHAS.out q).mono ?_; rw [HQ.out]; rintro e w5 ⟨rfl, hx5⟩
          have HX5 := Lib.hid hx5
          have d5 := hx5.cells d1
          clear HHAS hx5 d1
          go_wp2_with fail
          refine (HPUT.out _ HX5.out q).mono ?_; rintro e w2 ⟨b', off', bc', rfl, hx2', hr2, hbc2⟩
          have hx2 := HX5.out.trans hx2'
          clear hx2'
          rw [← HP1.out] at hr2 hbc2 ⊢
          have HX2 := Lib.hid (HX.out.trans hx2); have HR2 := Lib.hid hr2; have HBC2 := Lib.hid hbc2; have HO2 := Lib.hid (HO.out.kept hx2)
          have HN2 := Lib.hid (show ∀ j, w2.cell? ⟨w.heap.size + 1, j, none⟩ = none from fun j => by
            have h0 : World.ownsRow _ w.heap.size 3 1 (.slice (some ⟨w.heap.size + 1, 0, none⟩) 0 0) 0 (fl 1 icc []) := HO.out
            exact (hx2.cellr _ j (h0.lt _ rfl).2).trans (HNC.out j))
          clear hx2 hr2 hbc2
          go_wp2
          go_roundw
          case rel => exact ⟨k + 1, b', off', bc', by omega, by go_num, rfl, HX2.out, HR2.out, HBC2.out, HO2.out, HN2.out⟩
          case measure => simp [intOf]; omega
        · have HQ := Lib.hid hq
          have HP1 := Lib.hid (show putU xs (k + 1) = P from by rw [HPU.out, hq]; rfl)
          clear hq HPU
          go_wp2_with fail
          refine (HHAS.out q).mono ?_; rw [HQ.out]; rintro e w2 ⟨rfl, hx2⟩
          have HX2 := Lib.hid (HX.out.trans hx2); have HR2 := Lib.hid (HROW.out.ext hx2); have HO2 := Lib.hid (HO.out.kept hx2)
          have HN2 := Lib.hid (show ∀ j, w2.cell? ⟨w.heap.size + 1, j, none⟩ = none from fun j => by
            have h0 : World.ownsRow _ w.heap.size 3 1 (.slice (some ⟨w.heap.size + 1, 0, none⟩) 0 0) 0 (fl 1 icc []) := HO.out
            exact (hx2.cellr _ j (h0.lt _ rfl).2).trans (HNC.out j))
          clear hx2
          go_wp2
          go_roundw
          case rel => exact ⟨k + 1, b, off, bc, by omega, by go_num, by rw [HP1.out], HX2.out, by rw [HP1.out]; exact HR2.out, by rw [HP1.out]; exact HBD.out, HO2.out, HN2.out⟩
          case measure => simp [intOf]; omega
      · obtain rfl : k = xs.length := by omega
        have hwlt : w.heap.size + 1 < wr.heap.size := by
          have h0 : World.ownsRow _ w.heap.size 3 1 (.slice (some ⟨w.heap.size + 1, 0, none⟩) 0 0) 0 (fl 1 icc []) := HO.out
          exact (h0.lt _ rfl).2
        have hap : 0 < (putU xs xs.length).length → Apart wr (some ⟨b, off, none⟩) (.slice (some ⟨w.heap.size + 1, 0, none⟩) 0 0) := fun hp a e => by
          injection e with e
          subst e
          obtain ⟨b', off', e, hc⟩ := HROW.out hp
          injection e with e; injection e with e1 e2; subst e1 e2
          have h1 := hc 0 hp 0 (by decide)
          refine ⟨World.block_lt_of_cell? _ _ h1, fun e => ?_⟩
          simp only [Value.ownBlock, Option.some.injEq] at e
          subst e
          rw [HNC.out] at h1
          cases h1
        have HAP := Lib.hid hap
        clear hap hwlt hx HNC hbc
        generalize putU xs xs.length = L at HL HM HROW HAP hlen
        have HM0 := Lib.hid (show szP xs L 0 = [] from rfl)
        go_wp2
        go_loopw [6, 8] (fun v i wz => ∃ k : Nat, k ≤ L.length ∧ i = .int .i64 k ∧ Ext w wz ∧ Owns wz w.heap.size 3 1 icc v (szP xs L k) ∧ RowAt wz (some ⟨b, off, none⟩) 1 L.length (ic L) ∧ (0 < L.length → Apart wz (some ⟨b, off, none⟩) v)) (fun _ i _ => L.length - (intOf i).toNat)
        case atStart => exact ⟨0, by omega, rfl, HX.out, by rw [HM0.out]; exact HO.out, HROW.out, HAP.out⟩
        case round =>
          clear HX HO HROW HAP
          obtain ⟨k, hk, rfl, hx, ho, hrow, hap⟩ := hrel
          have hsl := szP_len (xs := xs) hk
          by_cases hkl : k < L.length
          · obtain ⟨b', off', e, hc⟩ := hrow (by omega)
            injection e with e; injection e with e1 e2; subst e1 e2
            have p0 := hc k hkl 0 (by decide)
            simp only [ic, Nat.mul_one, Nat.add_zero] at p0
            have HS := Lib.hid (szP_succ (xs := xs) hkl)
            have HX := Lib.hid hx; have HO := Lib.hid ho; have HROW := Lib.hid hrow; have HAP := Lib.hid (hap (by omega))
            obtain ⟨w7, hw7⟩ : ∃ w7, w7 = wr := ⟨_, rfl⟩
            rw [← hw7] at HX HO HROW HAP p0
            have hx7 : Ext w7 wr := by rw [hw7]; exact Ext.refl _
            clear hw7 hc hrow hap ho hx
            generalize nth L k = q at p0 HS
            have hk0 : (0 : Int) ≤ (k : Int) := by omega
            have hk1 : (k : Int) < (L.length : Int) := by omega
            go_wp2
            go_loopw [9, 10] (fun c i wz => ∃ j : Nat, j ≤ xs.length ∧ i = .int .i64 j ∧ c = .int .i64 (cntC xs q j) ∧ Ext w7 wz) (fun _ i _ => xs.length - (intOf i).toNat)
            case atStart => exact ⟨0, by omega, rfl, rfl, hx7⟩
            case round =>
              clear hx7
              obtain ⟨j, hj, rfl, rfl, hy⟩ := hrel
              have hcl := cntC_le xs q j
              by_cases hjl : j < xs.length
              · obtain ⟨ab, aoff, rfl, hcell⟩ := h (by omega)
                have d1 := hy.cells (HX.out.cells (hcell j hjl 1 (by decide)))
                simp only [Ent.c1] at d1
                have p1 := hy.cells p0
                have hj0 : (0 : Int) ≤ (j : Int) := by omega
                have hj1 : (j : Int) < (xs.length : Int) := by omega
                have HY := Lib.hid hy
                have HCN := Lib.hid (show cntC xs q (j + 1) = cntC xs q j + if (nth xs j).cls = q then 1 else 0 from rfl)
                clear hcell hy
                generalize (nth xs j).cls = u at d1 HCN
                generalize cntC xs q j = p at HCN hcl
                by_cases hcj : u = q
                · have HCJ := Lib.hid hcj
                  have hcb : (u == q) = true := by simpa using hcj
                  clear hcj
                  go_wp2
                  go_quiet (fail)
                  go_wp2
                  go_roundw
                  case rel => exact ⟨j + 1, by omega, by go_num, by rw [HCN.out, if_pos HCJ.out]; go_num, HY.out.trans (Ext.drewQ _ _)⟩
                  case measure => simp [intOf] <;> omega
                · have HCJ := Lib.hid hcj
                  have hcb : (u == q) = false := by simpa using hcj
                  clear hcj
                  go_wp2
                  go_quiet (fail)
                  go_wp2
                  go_roundw
                  case rel => exact ⟨j + 1, by omega, by go_num, by rw [HCN.out, if_neg HCJ.out]; go_num, HY.out.trans (Ext.drewQ _ _)⟩
                  case measure => simp [intOf] <;> omega
              · obtain rfl : j = xs.length := by omega
                have hrow2 := fun x => row_lit (w := x) (cs := #[.int .i64 (cntC xs q xs.length : Int)]) (T := 3) (s := 1) (cc := icc) (x := (cntC xs q xs.length : Int)) (by intro j hj; obtain rfl : j = 0 := (by omega); rfl)
                have hx2 := HX.out.trans hy
                have ho2 := HO.out.kept hy
                have hap2 := HAP.out.ext hy
                have hr2 := HROW.out.ext hy
                clear hy
                go_wp2_with (at_builtin; refine wpList_append_where rfl _ _ 35 rfl w 3 i0 _ 1 8 Try.underlying35 hi hz0 hz1 hz2 rfl (by decide) icc icc_one _ (szP xs L k) [(cntC xs q xs.length : Int)] rfl (ho2.kept ((Ext.refl _).alloc _)) ⟨wr.heap.size, 0, none⟩ 1 1 rfl rfl (hrow2 _) (by simp; omega) (by simp; omega) (hx2.alloc _) ?_; intro v3 w3 ho3 hx3 hg3 hv3)
                rw [← HS.out] at ho3
                have hap3 := (hap2.ext ((Ext.refl _).alloc _)).append hg3 hv3
                have hrF3 := (hap2.ext ((Ext.refl _).alloc _)).row (by decide) (hr2.ext ((Ext.refl _).alloc _)) hg3
                clear hg3 hv3
                go_wp2
                go_roundw
                case rel => exact ⟨k + 1, by omega, by go_num, hx3, ho3, hrF3, fun _ => hap3⟩
                case measure => simp [intOf]; omega
          · obtain rfl : k = L.length := by omega
            obtain ⟨go2, gc2, rfl, hF2, _, _, _⟩ := ho.fresh
            have HR1 := Lib.hid hrow
            have HR2 := Lib.hid hF2.row
            have HX := Lib.hid hx
            clear hF2 ho hrow hx hap
            go_wp2
            go_ret3
            rw [HL.out, ← HM.out]
            exact .mk _ _ _ _ rfl HX.out HR1.out HR2.out

end Go.Proofs.Ytkejhhflpnfepaa
