/-
  Proved here: what the reference's l1Read returns: the number that a text is, as its own numeral, or none.
  Conditions: none beyond the string's length.
-/
import Derived.Test.YtckgjpaccgpdpaaGreatDoorPin
import Derived.Deep.DrawnRows
import Derived.Deep.DeepCutAuto
import Derived.Deep.CutBlock
namespace Go.Proofs.YtckgjpaccgpdpaaGreatDoor
open Go.ChangeShapes Go.WideShapes Go.ChangeAt Go.RowKit

/-- byte k of a text -/
def byt (s : ByteArray) (k : Nat) : UInt8 := s.data.toList.getD k 0
theorem byt_eq {s : ByteArray} {k : Nat} (h : k < s.size) : s[k] = byt s k := by
  unfold byt
  have h2 : k < s.data.toList.length := by simpa using h
  rw [List.getD, List.getElem?_eq_getElem h2]
  simp [ByteArray.getElem_eq_getElem_data]
/-- a text of a negative number -/
def negS (s : ByteArray) : Bool := decide (1 < s.size) && (((byt s 0).toNat : Int) == 45)
/-- its digits -/
def magS (s : ByteArray) : ByteArray := if negS s then s.extract 1 s.size else s
theorem magS_yes {s : ByteArray} (h : negS s = true) : magS s = s.extract 1 s.size := by unfold magS; rw [if_pos h]
theorem magS_no {s : ByteArray} (h : negS s = false) : magS s = s := by unfold magS; rw [h]; rfl
theorem num_mag {s : ByteArray} {m : Int} (h : numOf s.data.toList = some m) : (magS s).data.toList = Lib.decDigits m.natAbs ∧ (negS s = true ↔ m < 0) := by
  obtain ⟨hb, he⟩ := numOf_iff.1 h
  obtain ⟨d, r, ed, hd1, hd2⟩ := digits_cons m.natAbs
  by_cases hm : m < 0
  · have e : s.data.toList = 45 :: Lib.decDigits m.natAbs := by rw [← he]; unfold Lib.itoa; rw [if_pos hm]
    have hn : negS s = true := by
      unfold negS byt
      rw [size_data, e, ed]
      simp
    refine ⟨?_, by simp [hn, hm]⟩
    rw [magS_yes hn, Lib.extract_to_end, e]; rfl
  · have e : s.data.toList = Lib.decDigits m.natAbs := by
      rw [← he]; unfold Lib.itoa; rw [if_neg hm]
      congr 1; omega
    have hn : negS s = false := by
      unfold negS byt
      rw [e, ed]
      simp only [List.getD_cons_zero]
      have : ¬ ((d.toNat : Int) = 45) := by omega
      simp [this]
    refine ⟨by rw [magS_no hn, e], by simp [hn, hm]⟩
theorem mag_len {s : ByteArray} {m : Int} (h : numOf s.data.toList = some m) : 1 ≤ (magS s).size ∧ (magS s).size ≤ 6 := by
  obtain ⟨h1, _⟩ := num_mag h
  have hb := numOf_bd h
  rw [size_data, h1, Lib.decDigits_length]
  exact ⟨Lib.nDigits_pos _, nDigits_le (k := 5) (by have e : 10 ^ (5 + 1) = 1000000 := rfl; rw [e]; omega)⟩
theorem mag_dig {s : ByteArray} {m : Int} (h : numOf s.data.toList = some m) {k : Nat} (hk : k < (magS s).size) : 48 ≤ (byt (magS s) k).toNat ∧ (byt (magS s) k).toNat ≤ 57 := by
  obtain ⟨h1, _⟩ := num_mag h
  refine digits_all m.natAbs _ ?_
  rw [← h1]
  unfold byt
  have h2 : k < (magS s).data.toList.length := by rw [← size_data]; exact hk
  rw [List.getD, List.getElem?_eq_getElem h2]
  exact List.getElem_mem _
theorem mag_val {s : ByteArray} {m : Int} (h : numOf s.data.toList = some m) {n : Nat} (hn : Lib.decFrom 0 (magS s).data.toList = some n) : n = m.natAbs := by
  rw [(num_mag h).1] at hn
  have := dec_of_digits m.natAbs 0 []
  rw [List.append_nil] at this
  rw [this] at hn
  simp [Lib.decFrom] at hn
  exact hn.symm
/-- the digits' value, with its sign -/
def sgnV (s : ByteArray) (n : Nat) : Int := if negS s then -(n : Int) else (n : Int)
theorem num_of_val {s : ByteArray} {n : Nat} (hn : Lib.decFrom 0 (magS s).data.toList = some n) (hl : (magS s).size ≤ 6) :
    n < 1000000 ∧ numOf s.data.toList = if Lib.itoa (sgnV s n) = s.data.toList then some (sgnV s n) else none := by
  have h6 : n < 1000000 := by
    have a := Lib.decFrom_lt _ _ _ hn
    have b : 10 ^ (magS s).data.toList.length ≤ 10 ^ 6 := Nat.pow_le_pow_right (by decide) (by rw [← size_data]; exact hl)
    have e : 10 ^ 6 = 1000000 := rfl
    omega
  refine ⟨h6, ?_⟩
  split
  · rename_i h
    refine numOf_iff.2 ⟨?_, h⟩
    unfold sgnV; split <;> omega
  · rename_i h
    cases e : numOf s.data.toList with
    | none => rfl
    | some m =>
      exfalso
      apply h
      have hv := mag_val e hn
      have hg := (num_mag e).2
      have he := (numOf_iff.1 e).2
      rw [← he]
      congr 1
      unfold sgnV
      subst hv
      by_cases hm : m < 0
      · rw [if_pos (hg.2 hm)]; omega
      · rw [if_neg (fun h => hm (hg.1 h))]; omega
theorem dig_val {b : UInt8} (h : 48 ≤ b.toNat ∧ b.toNat ≤ 57) : Lib.digitVal b = some (b.toNat - 48) := by unfold Lib.digitVal; rw [if_pos h]
theorem mag_step {t : ByteArray} {k n : Nat} (h : Lib.decFrom 0 (t.data.toList.take k) = some n) (hk : k < t.size) (hd : 48 ≤ (byt t k).toNat ∧ (byt t k).toNat ≤ 57) :
    Lib.decFrom 0 (t.data.toList.take (k + 1)) = some (n * 10 + ((byt t k).toNat - 48)) := by
  refine Lib.decFrom_take _ k 0 n (byt t k) _ h ?_ (dig_val hd)
  unfold byt
  have h2 : k < t.data.toList.length := by rw [← size_data]; exact hk
  rw [List.getD, List.getElem?_eq_getElem h2]
  rfl
theorem mag_bd {t : ByteArray} {k n : Nat} (h : Lib.decFrom 0 (t.data.toList.take k) = some n) (hl : t.size ≤ 6) : n < 1000000 := by
  have a := Lib.decFrom_lt _ _ _ h
  have b : 10 ^ (t.data.toList.take k).length ≤ 10 ^ 6 := Nat.pow_le_pow_right (by decide) (by rw [List.length_take, ← size_data]; omega)
  have e : 10 ^ 6 = 1000000 := rfl
  omega

set_option maxRecDepth 100000 in
set_option maxHeartbeats 4000000 in
theorem spec_l1Read {s : ByteArray} (hs : s.size ≤ 9223372036854775807) {w : World} :
    Calls Tryz.prog 48 #[.string s] w fun e w' => e = .returned (pinV s) ∧ Ext w w' := by
  have HM := Lib.hid (fun m (h : numOf s.data.toList = some m) => mag_len h)
  have HD := Lib.hid (fun m (h : numOf s.data.toList = some m) k (hk : k < (magS s).size) => mag_dig h hk)
  have HV := Lib.hid (fun n hn hl => num_of_val (s := s) (n := n) hn hl)
  have HNE := Lib.hid (fun (h : ∀ m, numOf s.data.toList ≠ some m) => pinV_none (s := s) (by cases e : numOf s.data.toList with | none => rfl | some m => exact absurd e (h m)))
  have HSM := Lib.hid (fun n => (show sgnV s n = if negS s then -(n : Int) else (n : Int) from rfl))
  have HPS := Lib.hid (fun n (h : numOf s.data.toList = some n) => pinV_some h)
  have HPN := Lib.hid (fun (h : numOf s.data.toList = none) => pinV_none h)
  have hts : (magS s).size ≤ s.size := by
    unfold magS; split
    · rw [size_data, Lib.extract_to_end, List.length_drop, ← size_data]; omega
    · exact Nat.le_refl _
  have hlt : (magS s).size < s.size ↔ negS s = true := by
    unfold magS
    split
    · rename_i h
      rw [size_data, Lib.extract_to_end, List.length_drop, ← size_data]
      have : 1 < s.size := by unfold negS at h; simp at h; exact h.1
      exact ⟨fun _ => h, fun _ => by omega⟩
    · rename_i h
      exact ⟨fun h2 => absurd h2 (Nat.lt_irrefl _), fun h2 => absurd h2 h⟩
  have HLT := Lib.hid hlt
  clear hlt
  go_enter Tryz.func48, Tryz.ntmps48
  go_upto_region 2 with fail
  go_cut [15] (fun v wc => v = .bool (negS s) ∧ wc = w)
  case first =>
    by_cases h1 : 1 < s.size
    · have c1 : (1 : Int) < (s.size : Int) := by omega
      have h0 : 0 < s.size := by omega
      have hq := byt_eq h0
      cases hb : (((byt s 0).toNat : Int) == 45)
      · have hn : negS s = false := by unfold negS; rw [hb]; simp
        have HN := Lib.hid hn
        rw [← hq] at hb
        clear hn hq h1
        go_wp2_with fail
        go_meet
        exact ⟨by rw [HN.out], rfl⟩
      · have hn : negS s = true := by unfold negS; rw [hb]; simp [h1]
        have HN := Lib.hid hn
        rw [← hq] at hb
        clear hn hq h1
        go_wp2_with fail
        go_meet
        exact ⟨by rw [HN.out], rfl⟩
    · have c1 : ¬ (1 : Int) < (s.size : Int) := by omega
      have hn : negS s = false := by unfold negS; simp [h1]
      have HN := Lib.hid hn
      clear hn h1
      go_wp2_with fail
      go_meet
      exact ⟨by rw [HN.out], rfl⟩
  case rest =>
  obtain ⟨rfl, rfl⟩ := hcut
  go_upto_if 15 with fail
  go_cut [4] (fun v wx => v = .string (magS s) ∧ wx = wc)
  case first =>
    cases hn : negS s
    · have HN := Lib.hid (magS_no hn)
      clear hn
      go_wp2_with fail
      go_meet
      exact ⟨by rw [HN.out], rfl⟩
    · have HN := Lib.hid (magS_yes hn)
      have h1 : (1 : Int) ≤ (s.size : Int) := by unfold negS at hn; simp at hn; omega
      clear hn
      go_wp2_with fail
      go_meet
      exact ⟨by rw [HN.out], rfl⟩
  case rest =>
  obtain ⟨rfl, rfl⟩ := hcut
  obtain ⟨T, hT⟩ : ∃ T, T = magS s := ⟨_, rfl⟩
  rw [← hT] at HM HV hts HLT ⊢
  simp only [← hT] at HD
  clear hT
  by_cases hl : 1 ≤ T.size ∧ T.size ≤ 6
  · have hin : inB (T.size : Int) 1 6 = true := by rw [inB_iff]; omega
    have hl6 := hl.2
    clear hl HM
    go_wp2_with (go_at_call 56; refine (spec_l1In).mono ?_; rintro e w1 ⟨rfl, rfl⟩)
    go_loop [5, 6] (fun n i => ∃ k m : Nat, k ≤ T.size ∧ i = .int .i64 k ∧ n = .int .i64 m ∧ Lib.decFrom 0 (T.data.toList.take k) = some m) (fun _ i => T.size - (intOf i).toNat)
    case atStart => exact ⟨0, 0, Nat.zero_le _, rfl, rfl, by simp [Lib.decFrom]⟩
    case round =>
      obtain ⟨k, m, hk, rfl, rfl, hm⟩ := hrel
      have HMV := Lib.hid hm
      have hmb := mag_bd hm hl6
      clear hm
      by_cases hlt : k < T.size
      · have hq := byt_eq hlt
        by_cases hd : 48 ≤ (byt T k).toNat ∧ (byt T k).toNat ≤ 57
        · have HST := Lib.hid (mag_step HMV.out hlt hd)
          rw [← hq] at hd HST
          have h1 : ¬ (T[k].toNat : Int) < 48 := by omega
          have h2 : ¬ (57 : Int) < (T[k].toNat : Int) := by omega
          have e1 : IntKind.i64.wrap (10 * (m : Int)) = 10 * (m : Int) := IntWalk.i64_in _ (by omega)
          have e2 : IntKind.u8.wrap ((T[k].toNat : Int) - 48) = (T[k].toNat : Int) - 48 := IntWalk.u8_in _ (by omega)
          have e3 : IntKind.i64.wrap ((T[k].toNat : Int) - 48) = (T[k].toNat : Int) - 48 := IntWalk.i64_in _ (by omega)
          have e4 : IntKind.i64.wrap (10 * (m : Int) + ((T[k].toNat : Int) - 48)) = 10 * (m : Int) + ((T[k].toNat : Int) - 48) := IntWalk.i64_in _ (by omega)
          have HE := Lib.hid (show 10 * (m : Int) + ((T[k].toNat : Int) - 48) = ((m * 10 + (T[k].toNat - 48) : Nat) : Int) by omega)
          clear hd hq hmb HD
          go_wp2
          go_round
          case rel => exact ⟨k + 1, m * 10 + (T[k].toNat - 48), by omega, by go_num, by rw [HE.out], HST.out⟩
          case measure => simp [intOf]; omega
        · have HN := Lib.hid (HNE.out (fun n hn => hd (HD.out n hn k hlt)))
          rw [← hq] at hd
          rcases (show T[k].toNat < 48 ∨ 57 < T[k].toNat by omega) with h1 | h1
          · have c1 : (T[k].toNat : Int) < 48 := by omega
            clear hd hq hmb HD h1
            go_wp2
            go_ret2
            exact ⟨by rw [HN.out]; rfl, Ext.refl _⟩
          · have c1 : ¬ (T[k].toNat : Int) < 48 := by omega
            have c2 : (57 : Int) < (T[k].toNat : Int) := by omega
            clear hd hq hmb HD h1
            go_wp2
            go_ret2
            exact ⟨by rw [HN.out]; rfl, Ext.refl _⟩
      · obtain rfl : k = T.size := by omega
        have hm2 := HMV.out
        rw [List.take_of_length_le (by rw [← size_data]; exact Nat.le_refl _)] at hm2
        obtain ⟨_, hv⟩ := HV.out m hm2 hl6
        have hsg := HSM.out m
        have hN : negS s = true ∨ negS s = false := by cases negS s <;> simp
        have HVAL : Hid (pinV s = if Lib.itoa (sgnV s m) = s.data.toList then .tuple #[.int .i64 (sgnV s m), .bool true] else .tuple #[.int .i64 0, .bool false]) := Lib.hid (by
          split
          · rename_i h; exact HPS.out _ (by rw [hv, if_pos h])
          · rename_i h; exact HPN.out (by rw [hv, if_neg h]))
        have hbd2 : -999999 ≤ sgnV s m ∧ sgnV s m ≤ 999999 := by rw [hsg]; split <;> omega
        have HL := Lib.hid (fun y => spec_l1Num (n := sgnV s m) (w := y) (by omega) (by omega))
        clear hm2 hv HV HSM HPS HPN HD HNE HMV
        rcases hN with hN | hN
        · have c1 : (T.size : Int) < (s.size : Int) := by have := HLT.out.2 hN; omega
          rw [hN] at hsg
          simp only [if_true] at hsg
          have e1 : IntKind.i64.wrap (-(m : Int)) = -(m : Int) := IntWalk.i64_in _ (by omega)
          rw [hsg] at HL HVAL
          clear hbd2 HLT hN hsg
          by_cases he : Lib.itoa (-(m : Int)) = s.data.toList
          · have hc : ((bsOf (Lib.itoa (-(m : Int)))).toList == s.toList) = true := eqS_iff.2 (by rw [he, bsOf_data])
            rw [if_pos he] at HVAL
            clear he
            go_wp2_with fail
            refine (HL.out _).mono ?_; rintro e w1 ⟨rfl, hx1⟩
            go_wp2
            go_ret2
            exact ⟨by rw [HVAL.out]; rfl, hx1⟩
          · have hc : ((bsOf (Lib.itoa (-(m : Int)))).toList == s.toList) = false := eqS_no (fun e => he (by rw [← e, data_bsOf]))
            rw [if_neg he] at HVAL
            clear he
            go_wp2_with fail
            refine (HL.out _).mono ?_; rintro e w1 ⟨rfl, hx1⟩
            go_wp2
            go_ret2
            exact ⟨by rw [HVAL.out]; rfl, hx1⟩
        · have c1 : ¬ (T.size : Int) < (s.size : Int) := fun h => by
            have := HLT.out.1 (by omega)
            rw [hN] at this; cases this
          rw [hN] at hsg
          simp only [Bool.false_eq_true, if_false] at hsg
          rw [hsg] at HL HVAL
          clear hbd2 HLT hN hsg
          generalize (m : Int) = V at *
          by_cases he : Lib.itoa V = s.data.toList
          · have hc : ((bsOf (Lib.itoa V)).toList == s.toList) = true := eqS_iff.2 (by rw [he, bsOf_data])
            rw [if_pos he] at HVAL
            clear he
            go_wp2_with fail
            refine (HL.out _).mono ?_; rintro e w1 ⟨rfl, hx1⟩
            go_wp2
            go_ret2
            exact ⟨by rw [HVAL.out]; rfl, hx1⟩
          · have hc : ((bsOf (Lib.itoa V)).toList == s.toList) = false := eqS_no (fun e => he (by rw [← e, data_bsOf]))
            rw [if_neg he] at HVAL
            clear he
            go_wp2_with fail
            refine (HL.out _).mono ?_; rintro e w1 ⟨rfl, hx1⟩
            go_wp2
            go_ret2
            exact ⟨by rw [HVAL.out]; rfl, hx1⟩
  · have hin : inB (T.size : Int) 1 6 = false := by rw [inB_no]; omega
    have HN := Lib.hid (HNE.out (fun n hn => hl (HM.out n hn)))
    clear hl HM HD HV HSM HPS HPN HLT
    go_wp2_with (go_at_call 56; refine (spec_l1In).mono ?_; rintro e w1 ⟨rfl, rfl⟩)
    go_ret2
    exact ⟨by rw [HN.out]; rfl, Ext.refl _⟩

end Go.Proofs.YtckgjpaccgpdpaaGreatDoor
