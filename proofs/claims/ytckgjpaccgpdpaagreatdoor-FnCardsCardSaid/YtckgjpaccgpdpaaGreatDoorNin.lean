/-
  Proved here: what numbersIn returns: the numbers that some words are, or that not all are.
  Conditions: the words' lengths are ints; the table and the error's variable as for ParseInt.
-/
import Derived.Test.YtckgjpaccgpdpaaGreatDoorSplW
import Derived.Test.YtckgjpaccgpdpaaGreatDoorInts
namespace Go.Proofs.YtckgjpaccgpdpaaGreatDoor
open Go.ChangeShapes Go.WideShapes Go.ChangeAt Go.RowKit

def okW (W : List ByteArray) (P : List Nat) (j : Nat) : Bool := decide (nth P j < W.length) && (numOf (nth W (nth P j)).data.toList).isSome
/-- all places hold numbers -/
def nbB (W : List ByteArray) (P : List Nat) : Bool := upto (okW W P) P.length
def nbV (W : List ByteArray) (p : Nat) : Int := (numOf (nth W p).data.toList).getD 0
def nbL (W : List ByteArray) (P : List Nat) : List Int := P.map (nbV W)
theorem nbL_succ {W : List ByteArray} {P : List Nat} {k : Nat} (h : k < P.length) : nbL W (P.take (k + 1)) = nbL W (P.take k) ++ [nbV W (nth P k)] := by
  have e : nth P k = P[k] := by simp [nth, List.getD, List.getElem?_eq_getElem h]
  unfold nbL
  rw [List.take_add_one, List.getElem?_eq_getElem h, List.map_append, e]
  rfl
theorem nbL_len (W : List ByteArray) (P : List Nat) : (nbL W P).length = P.length := by simp [nbL]
def nrL (W : List ByteArray) (P : List Nat) : List Int := if nbB W P then nbL W P else []
theorem nrL_yes {W : List ByteArray} {P : List Nat} (h : nbB W P = true) : nrL W P = nbL W P := by unfold nrL; rw [if_pos h]
theorem nrL_no {W : List ByteArray} {P : List Nat} (h : nbB W P = false) : nrL W P = [] := by unfold nrL; rw [h]; rfl
def pcc (P : List Nat) (k : Nat) (_ : Nat) : Value := .int .i64 (nth P k : Nat)

set_option maxRecDepth 100000 in
set_option maxHeartbeats 4000000 in
theorem impl_numbersIn {wo po : Option Addr} {wcap pcap : Nat} {W : List ByteArray} {P : List Nat} {w : World} (h : RowAt w wo 1 W.length (fun k => stw (nth W k))) (hW : ∀ k, (nth W k).size ≤ 9223372036854775807) (hl : W.length ≤ 9223372036854775807)
    (hP : RowAt w po 1 P.length (pcc P)) (hpl : P.length ≤ 1000) (hpb : ∀ k, k < P.length → nth P k ≤ 1000) (hp : Pow w) (hv : ErrS w) :
    Calls Tryz.prog 42 #[.slice wo W.length wcap, .slice po P.length pcap] w fun e w' => ∃ go gc, e = .returned (.tuple #[.slice go (nrL W P).length gc, .bool (nbB W P)]) ∧ Ext w w' ∧ RowAt w' go 1 (nrL W P).length (ic (nrL W P)) := by
  obtain ⟨i0, hi, hz0, hz1, hz2⟩ := info_parts infoInt
  have HST := Lib.hid (Owns.start (α := Int) (e := 3) (s := 1) (cc := icc) (Ext.refl w))
  have HPI := Lib.hid (fun y (hy : Ext w y) k => impl_ParseInt (s := nth W k) (w := y) (hW k) (hp.ext hy) (hv.ext hy))
  have HR := Lib.hid h; have HRP := Lib.hid hP; have HPB := Lib.hid hpb
  have HYES := Lib.hid (fun (h : upto (okW W P) P.length = true) => (show nbB W P = true from h))
  have HNO := Lib.hid (fun k (hk : k < P.length) (h : okW W P k = false) => (show nbB W P = false from upto_false hk h))
  clear h hP hp hv hW hpb
  go_enter Tryz.func42, Tryz.ntmps42
  go_wp2
  go_loopw [6, 14] (fun out i wr => ∃ k g gc : Nat, k ≤ P.length ∧ i = .int .i64 k ∧ out = .slice (some ⟨g, 0, none⟩) k gc ∧ Ext w wr ∧ Owns wr w.heap.size 3 1 icc (.slice (some ⟨g, 0, none⟩) k gc) (nbL W (P.take k)) ∧ upto (okW W P) k = true) (fun _ i _ => P.length - (intOf i).toNat)
  case atStart => exact ⟨0, w.heap.size, 0, by omega, rfl, rfl, (Ext.refl _).alloc _, HST.out, rfl⟩
  case round =>
    obtain ⟨k, g, gc, hk, rfl, rfl, hx, hown, hu⟩ := hrel
    have HU := Lib.hid hu
    clear hu HST
    by_cases hlt : k < P.length
    · obtain ⟨pb, poff, rfl, hpc⟩ := (HRP.out.ext hx) (by omega)
      have p0 := hpc k hlt 0 (by decide)
      have hb := HPB.out k hlt
      simp only [pcc, Nat.add_zero, Nat.mul_one] at p0
      have hkn : (k : Int) < (P.length : Int) := by omega
      clear hpc HRP
      by_cases hin : nth P k < W.length
      · have hg : ¬ (W.length : Int) ≤ ((nth P k : Nat) : Int) := by omega
        obtain ⟨sb, soff, rfl, hsc⟩ := (HR.out.ext hx) (by omega)
        have s0 := hsc _ hin 0 (by decide)
        simp only [stw, Nat.add_zero, Nat.mul_one] at s0
        have HPK := Lib.hid (HPI.out _ hx (nth P k))
        clear hsc HR HPI
        cases hn : numOf (nth W (nth P k)).data.toList with
        | none =>
          have HN := Lib.hid (HNO.out k hlt (by unfold okW; rw [hn]; simp))
          rw [pinV_none hn] at HPK
          clear hn HNO HYES hown HU
          generalize nth P k = p at *
          go_wp2_with fail
          refine HPK.out.mono ?_; rintro e w1 ⟨rfl, hx1⟩
          go_wp2
          go_ret2
          refine ⟨none, 0, by rw [nrL_no HN.out, HN.out]; rfl, hx.trans hx1, ?_⟩
          rw [nrL_no HN.out]
          intro hh; simp at hh
        | some v =>
          have HOK := Lib.hid (show okW W P k = true by unfold okW; rw [hn]; simp [hin])
          have HNX := Lib.hid (nbL_succ (W := W) hlt)
          have HVV := Lib.hid (show nbV W (nth P k) = v by unfold nbV; rw [hn]; rfl)
          rw [pinV_some hn] at HPK
          have hlen : (nbL W (P.take k)).length = k := by rw [nbL_len, List.length_take]; omega
          rw [HVV.out] at HNX
          clear hn HNO HYES HVV
          generalize nth P k = p at *
          obtain ⟨X, hX⟩ : ∃ X, X = nbL W (P.take k) := ⟨_, rfl⟩
          rw [← hX] at hown hlen HNX
          have HLN := Lib.hid hlen
          clear hX hlen
          go_wp2_with fail
          refine HPK.out.mono ?_; rintro e w1 ⟨rfl, hx1⟩
          have hown1 := hown.kept hx1
          have HX1 := Lib.hid (hx.trans hx1)
          have hrow2 := fun x => row_lit (w := x) (cs := #[.int .i64 v]) (T := 3) (s := 1) (cc := icc) (x := v) (by intro j hj; obtain rfl : j = 0 := (by omega); rfl)
          clear hown hx1 hx s0 p0 HPK
          go_wp2_with (at_builtin; refine wpList_append_where rfl _ _ 27 rfl w 3 i0 _ 1 8 Tryz.underlying27 hi hz0 hz1 hz2 rfl (by decide) icc icc_one _ X [v] rfl (hown1.kept ((Ext.refl _).alloc _)) ⟨w1.heap.size, 0, none⟩ 1 1 rfl rfl (hrow2 _) (by rw [HLN.out]; simp; omega) (by rw [HLN.out]; simp; omega) (HX1.out.alloc _) ?_; intro v1 w3 ho1 hx3 hg3 hv3)
          obtain ⟨g', gc', rfl⟩ := own_gW ho1 (by simp)
          have hl1 : (X ++ [v]).length = k + 1 := by rw [List.length_append, HLN.out]; rfl
          rw [hl1] at ho1 ⊢
          rw [← HNX.out] at ho1
          have HO1 := Lib.hid ho1; have HX3 := Lib.hid hx3
          clear hg3 hv3 ho1 hx3 hl1 hrow2 hown1 HX1
          go_wp2
          go_roundw
          case rel => exact ⟨k + 1, g', gc', by omega, by go_num, rfl, HX3.out, HO1.out, upto_succ HU.out HOK.out⟩
          case measure => simp [intOf]; omega
      · have hg : (W.length : Int) ≤ ((nth P k : Nat) : Int) := by omega
        have HN := Lib.hid (HNO.out k hlt (by unfold okW; simp [hin]))
        clear HNO HYES hown HU hin HPI HR
        generalize nth P k = p at *
        go_wp2
        go_ret2
        refine ⟨none, 0, by rw [nrL_no HN.out, HN.out]; rfl, hx, ?_⟩
        rw [nrL_no HN.out]
        intro hh; simp at hh
    · obtain rfl : k = P.length := by omega
      have HY := Lib.hid (HYES.out HU.out)
      rw [List.take_length] at hown
      have hln := nbL_len W P
      have HLN := Lib.hid hln
      have HO := Lib.hid hown; have HX := Lib.hid hx
      clear hown hx HPI HNO HYES HR HRP HPB hln
      go_wp2
      go_ret2
      obtain ⟨ag, cg, eg, hFg, _, _, _⟩ := HO.out.fresh
      injection eg with e1 e2 e3
      subst e1
      rw [nrL_yes HY.out, HY.out]
      simp only [HLN.out]
      have hr := hFg.row
      rw [HLN.out] at hr
      exact ⟨_, gc, rfl, HX.out, hr⟩

end Go.Proofs.YtckgjpaccgpdpaaGreatDoor
