/-
  Proved here: a text's parts: what strings.Split, strings.Cut and the reference's l1Split return at one byte.
  Conditions: the text has at most 1048576 bytes; the library's variable of the longest search holds an int (Split, Cut).
-/
import Derived.Test.YtckgjpaccgpdpaaGreatDoorRead
import Derived.Test.YtckgjpaccgpdpaaGreatDoorForm
import Derived.Shelf.Strings.Split
import Derived.Shelf.Strings.Cut
namespace Go.Proofs.YtckgjpaccgpdpaaGreatDoor
open Go.ChangeShapes Go.WideShapes Go.ChangeAt Go.RowKit

def splB (c : UInt8) (s : ByteArray) : List ByteArray := (spl c s.data.toList).map bsOf
theorem map_bsOf (l : List ByteArray) : (l.map fun s => s.data.toList).map bsOf = l := by
  induction l with
  | nil => rfl
  | cons a l ih => simp only [List.map_cons, bsOf_data, ih]
theorem splB_len (c : UInt8) (s : ByteArray) : (splB c s).length = s.data.toList.count c + 1 := by
  unfold splB
  rw [List.length_map, spl_len c _ _ (Nat.le_refl _)]
theorem splB_bd (c : UInt8) (s : ByteArray) : 1 ≤ (splB c s).length ∧ (splB c s).length ≤ s.size + 1 := by
  rw [splB_len, size_data]
  have := List.count_le_length (a := c) (l := s.data.toList)
  omega
theorem splB_kit (c : UInt8) (s : ByteArray) : Lib.splitB (ByteArray.mk #[c]) 0 (Lib.countB s (ByteArray.mk #[c])) s = splB c s := by
  have h1 := Lib.splitB_data (ByteArray.mk #[c]) 0 (Lib.countB s (ByteArray.mk #[c])) s
  have h2 : Lib.countB s (ByteArray.mk #[c]) = s.data.toList.count c := Lib.count_one c s.data.toList
  rw [show (ByteArray.mk #[c]).data.toList = [c] from rfl, splitK_spl c _ _ h2.symm] at h1
  rw [← map_bsOf (Lib.splitB _ _ _ _), h1]
  rfl
theorem countB_kit (c : UInt8) (s : ByteArray) : Lib.countB s (ByteArray.mk #[c]) + 1 = (splB c s).length := by
  rw [splB_len]
  have h2 : Lib.countB s (ByteArray.mk #[c]) = s.data.toList.count c := Lib.count_one c s.data.toList
  rw [h2]

/-- the library's variable of the longest search holds an int -/
def MaxL (w : World) : Prop := ∃ m, w.cell? ⟨0, 0, none⟩ = some (.int .i64 m)
theorem MaxL.ext {w w' : World} (h : MaxL w) (hx : Ext w w') : MaxL w' := by
  obtain ⟨m, h⟩ := h
  exact ⟨m, hx.cells h⟩
theorem infoStW : (Tryz.prog.info? 9).map (fun i => (i.zero, i.size, i.bytes)) = some (some (.string ByteArray.empty), 1, 16) := by kernel_rfl

theorem std_Split {s : ByteArray} {c : UInt8} (hs : s.size ≤ 1048576) {w : World} (hm : MaxL w) :
    Calls Tryz.prog 41 #[.string s, .string (ByteArray.mk #[c])] w fun e w' => e = .returned (.slice (some ⟨w.heap.size, 0, none⟩) (splB c s).length (splB c s).length) ∧ w' = w.alloc (.cells ((splB c s).map Value.string).toArray 9) := by
  obtain ⟨m, hm⟩ := hm
  have h := Any.strings_Split lays146 infoStW s (ByteArray.mk #[c]) m w (by omega) hm (show 1 ≤ 1 from Nat.le_refl _)
  rw [countB_kit, splB_kit] at h
  exact h
theorem ext_drewN (w : World) (n : Nat) : Ext w (w.drewN n) := ⟨rfl, rfl, rfl, Nat.le_refl _, fun _ _ => rfl⟩
theorem std_Cut {s : ByteArray} {c : UInt8} (hs : s.size ≤ 1048576) {w : World} (hm : MaxL w) :
    Calls Tryz.prog 43 #[.string s, .string (ByteArray.mk #[c])] w fun e w' => e = .returned (.tuple #[.string (bsOf (Lib.cut s.data.toList [c]).1), .string (bsOf (Lib.cut s.data.toList [c]).2.1), .bool (Lib.cut s.data.toList [c]).2.2]) ∧ Ext w w' := by
  obtain ⟨m, hm⟩ := hm
  exact (Any.strings_Cut lays145 s (ByteArray.mk #[c]) m w (by omega) hm).mono fun _ _ ⟨he, n, hw⟩ => ⟨he, by rw [hw]; exact ext_drewN w n⟩

/-- the loop of l1Split: where the part begins, and the parts so far -/
def spF (c : UInt8) (s : ByteArray) : Nat → Nat
  | 0 => 0
  | k + 1 => if byt s k = c then k + 1 else spF c s k
def spD (c : UInt8) (s : ByteArray) : Nat → List ByteArray
  | 0 => []
  | k + 1 => if byt s k = c then spD c s k ++ [s.extract (spF c s k) k] else spD c s k
theorem spF_le (c : UInt8) (s : ByteArray) : ∀ k, spF c s k ≤ k
  | 0 => Nat.le_refl _
  | k + 1 => by unfold spF; split; exact Nat.le_refl _; have := spF_le c s k; omega
theorem spD_len (c : UInt8) (s : ByteArray) : ∀ k, (spD c s k).length ≤ k
  | 0 => Nat.le_refl _
  | k + 1 => by unfold spD; have := spD_len c s k; split <;> (try rw [List.length_append]) <;> simp <;> omega
theorem byt_drop {s : ByteArray} {k : Nat} (hk : k < s.size) : s.data.toList.drop k = byt s k :: s.data.toList.drop (k + 1) := by
  have h2 : k < s.data.toList.length := by rw [← size_data]; exact hk
  rw [List.drop_eq_getElem_cons h2]
  unfold byt
  rw [List.getD, List.getElem?_eq_getElem h2]
  rfl
theorem spl_part (c : UInt8) (s : ByteArray) : ∀ k, k ≤ s.size →
    spl c s.data.toList = (spD c s k).map (fun x => x.data.toList) ++ spl c (s.data.toList.drop (spF c s k)) ∧ c ∉ (s.data.toList.drop (spF c s k)).take (k - spF c s k) := by
  intro k
  induction k with
  | zero => intro _; simp [spD, spF]
  | succ k ih =>
    intro hk
    obtain ⟨h1, h2⟩ := ih (by omega)
    have hle := spF_le c s k
    have hL : s.data.toList.drop (spF c s k) = (s.data.toList.drop (spF c s k)).take (k - spF c s k) ++ byt s k :: s.data.toList.drop (k + 1) := by
      conv => lhs; rw [← List.take_append_drop (k - spF c s k) (s.data.toList.drop (spF c s k))]
      rw [List.drop_drop, show spF c s k + (k - spF c s k) = k by omega]
      rw [show s.data.toList.drop k = byt s k :: s.data.toList.drop (k + 1) from byt_drop (by omega)]
    by_cases hb : byt s k = c
    · have e1 : spF c s (k + 1) = k + 1 := by rw [spF, if_pos hb]
      have e2 : spD c s (k + 1) = spD c s k ++ [s.extract (spF c s k) k] := by rw [spD, if_pos hb]
      rw [e1, e2]
      refine ⟨?_, by simp⟩
      rw [h1, hL, hb, spl_cut h2, List.map_append, List.map_cons, List.map_nil, List.append_assoc]
      simp only [Lib.extract_data, List.cons_append, List.nil_append]
    · have e1 : spF c s (k + 1) = spF c s k := by rw [spF, if_neg hb]
      have e2 : spD c s (k + 1) = spD c s k := by rw [spD, if_neg hb]
      rw [e1, e2]
      refine ⟨h1, ?_⟩
      have e3 : (s.data.toList.drop (spF c s k)).take (k + 1 - spF c s k) = (s.data.toList.drop (spF c s k)).take (k - spF c s k) ++ [byt s k] := by
        have hd : (s.data.toList.drop (spF c s k)).drop (k - spF c s k) = byt s k :: s.data.toList.drop (k + 1) := by
          rw [List.drop_drop, show spF c s k + (k - spF c s k) = k by omega, byt_drop (by omega)]
        rw [show k + 1 - spF c s k = (k - spF c s k) + 1 by omega, List.take_add, hd]
        rfl
      rw [e3]
      simp only [List.mem_append, List.mem_singleton, not_or]
      exact ⟨h2, fun e => hb e.symm⟩
theorem spD_fin (c : UInt8) (s : ByteArray) : splB c s = spD c s s.size ++ [s.extract (spF c s s.size) s.size] := by
  obtain ⟨h1, h2⟩ := spl_part c s s.size (Nat.le_refl _)
  have hle := spF_le c s s.size
  have e : (s.data.toList.drop (spF c s s.size)).take (s.size - spF c s s.size) = s.data.toList.drop (spF c s s.size) := List.take_of_length_le (by rw [List.length_drop, ← size_data]; exact Nat.le_refl _)
  rw [e] at h2
  unfold splB
  rw [h1, spl_free h2, List.map_append, map_bsOf]
  simp only [List.map_cons, List.map_nil, ← Lib.extract_to_end, bsOf_data]

def stw (s : ByteArray) (_ : Nat) : Value := .string s
theorem stw_one : ∀ (x : ByteArray) (j : Nat), j < 1 → (stw x j).oneCell' = true := fun _ _ _ => rfl
theorem own_gW {α : Type} {w : World} {base : Nat} {e : TypeId} {s : Nat} {cc : α → Nat → Value} {v : Value} {xs : List α} (h : Owns w base e s cc v xs) (hl : 0 < xs.length) : ∃ g cap, v = .slice (some ⟨g, 0, none⟩) xs.length cap := by
  have h0 : w.ownsRow base e s v xs.length (fl s cc xs) := h
  rcases h0.2 with ⟨_, h1⟩ | ⟨g, cap, cur, he, _⟩
  · omega
  · exact ⟨g, cap, he⟩

set_option maxRecDepth 100000 in
set_option maxHeartbeats 2000000 in
theorem spec_l1Split {s : ByteArray} {c : UInt8} {ci : Int} (hc : (c.toNat : Int) = ci) (hs : s.size ≤ 1048576) {w : World} :
    Calls Tryz.prog 47 #[.string s, .int .u8 ci] w fun e w' => ∃ g gc, e = .returned (.slice (some ⟨g, 0, none⟩) (splB c s).length gc) ∧ Ext w w' ∧ RowAt w' (some ⟨g, 0, none⟩) 1 (splB c s).length (fun k => stw (nth (splB c s) k)) := by
  obtain ⟨i0, hi, hz0, hz1, hz2⟩ := info_parts infoStW
  have HST := Lib.hid (Owns.start (α := ByteArray) (e := 9) (s := 1) (cc := stw) (Ext.refl w))
  have HFIN := Lib.hid (spD_fin c s)
  go_enter Tryz.func47, Tryz.ntmps47
  go_wp2
  go_loopw [5, 6, 7] (fun out f i wr => ∃ k g gc : Nat, k ≤ s.size ∧ i = .int .i64 k ∧ f = .int .i64 (spF c s k : Nat) ∧ out = .slice (some ⟨g, 0, none⟩) (spD c s k).length gc ∧ Ext w wr ∧ Owns wr w.heap.size 9 1 stw (.slice (some ⟨g, 0, none⟩) (spD c s k).length gc) (spD c s k)) (fun _ _ i _ => s.size - (intOf i).toNat)
  case atStart => exact ⟨0, w.heap.size, 0, by omega, rfl, rfl, rfl, (Ext.refl _).alloc _, HST.out⟩
  case round =>
    obtain ⟨k, g, gc, hk, rfl, rfl, rfl, hx, hown⟩ := hrel
    have hfl := spF_le c s k
    have hdl := spD_len c s k
    by_cases hlt : k < s.size
    · have hq := byt_eq hlt
      by_cases hb : byt s k = c
      · have hbb : ((s[k].toNat : Int) == ci) = true := by rw [hq, hb, hc]; simp
        have HF1 := Lib.hid (show spF c s (k + 1) = k + 1 by rw [spF, if_pos hb])
        have HD1 := Lib.hid (show spD c s (k + 1) = spD c s k ++ [s.extract (spF c s k) k] by rw [spD, if_pos hb])
        clear hq hb HST HFIN
        generalize spF c s k = f at *
        obtain ⟨D, hD⟩ : ∃ D, D = spD c s k := ⟨_, rfl⟩
        rw [← hD] at hown hdl HD1 ⊢
        obtain ⟨M, hM⟩ : ∃ M, M = D.length := ⟨_, rfl⟩
        rw [← hM] at hown hdl ⊢
        have HLN := Lib.hid hM.symm
        have c1 : (f : Int) ≤ (k : Int) := by omega
        have c2 : (k : Int) ≤ (s.size : Int) := by omega
        have hrow2 := fun x => row_lit (w := x) (cs := #[.string (s.extract f k)]) (T := 9) (s := 1) (cc := stw) (x := s.extract f k) (by intro j hj; obtain rfl : j = 0 := (by omega); rfl)
        clear hD hM
        go_wp2_with (at_builtin; refine wpList_append_where rfl _ _ 58 rfl w 9 i0 _ 1 16 Tryz.underlying58 hi hz0 hz1 hz2 rfl (by decide) stw stw_one _ D [s.extract f k] rfl (hown.kept ((Ext.refl _).alloc _)) ⟨wr.heap.size, 0, none⟩ 1 1 rfl rfl (hrow2 _) (by rw [HLN.out]; simp; omega) (by rw [HLN.out]; simp; omega) (hx.alloc _) ?_; intro v1 w3 ho1 hx3 hg3 hv3)
        obtain ⟨g', gc', rfl⟩ := own_gW ho1 (by simp)
        rw [← HD1.out] at ho1 ⊢
        have HO1 := Lib.hid ho1; have HX3 := Lib.hid hx3
        clear hg3 hv3 ho1 hx3 hrow2 hown hx
        go_wp2
        go_roundw
        case rel => exact ⟨k + 1, g', gc', by omega, by go_num, by rw [HF1.out]; go_num, rfl, HX3.out, HO1.out⟩
        case measure => simp [intOf]; omega
      · have hbb : ((s[k].toNat : Int) == ci) = false := by
          rw [hq, beq_eq_false_iff_ne, ← hc]
          intro e
          exact hb (UInt8.toNat_inj.1 (by omega))
        have HF1 := Lib.hid (show spF c s (k + 1) = spF c s k by rw [spF, if_neg hb])
        have HD1 := Lib.hid (show spD c s (k + 1) = spD c s k by rw [spD, if_neg hb])
        clear hq hb HST HFIN
        go_wp2
        go_roundw
        case rel => exact ⟨k + 1, g, gc, by omega, by go_num, by rw [HF1.out], by rw [HD1.out], hx, by rw [HD1.out]; exact hown⟩
        case measure => simp [intOf]; omega
    · obtain rfl : k = s.size := by omega
      generalize spF c s s.size = f at *
      obtain ⟨D, hD⟩ : ∃ D, D = spD c s s.size := ⟨_, rfl⟩
      rw [← hD] at hown hdl HFIN ⊢
      obtain ⟨M, hM⟩ : ∃ M, M = D.length := ⟨_, rfl⟩
      rw [← hM] at hown hdl ⊢
      have HLN := Lib.hid hM.symm
      have c1 : (f : Int) ≤ (s.size : Int) := by omega
      have hrow2 := fun x => row_lit (w := x) (cs := #[.string (s.extract f s.size)]) (T := 9) (s := 1) (cc := stw) (x := s.extract f s.size) (by intro j hj; obtain rfl : j = 0 := (by omega); rfl)
      clear hD hM HST
      go_wp2_with (at_builtin; refine wpList_append_where rfl _ _ 58 rfl w 9 i0 _ 1 16 Tryz.underlying58 hi hz0 hz1 hz2 rfl (by decide) stw stw_one _ D [s.extract f s.size] rfl (hown.kept ((Ext.refl _).alloc _)) ⟨wr.heap.size, 0, none⟩ 1 1 rfl rfl (hrow2 _) (by rw [HLN.out]; simp; omega) (by rw [HLN.out]; simp; omega) (hx.alloc _) ?_; intro v1 w3 ho1 hx3 hg3 hv3)
      obtain ⟨g', gc', rfl⟩ := own_gW ho1 (by simp)
      rw [← HFIN.out] at ho1 ⊢
      have HO1 := Lib.hid ho1; have HX3 := Lib.hid hx3
      clear hg3 hv3 ho1 hx3 hrow2 hown hx
      go_wp2
      go_ret
      obtain ⟨ag, cg, eg, hFg, _, _, _⟩ := HO1.out.fresh
      injection eg with e1 e2 e3
      subst e1
      exact ⟨g', gc', rfl, HX3.out, hFg.row⟩

end Go.Proofs.YtckgjpaccgpdpaaGreatDoor
