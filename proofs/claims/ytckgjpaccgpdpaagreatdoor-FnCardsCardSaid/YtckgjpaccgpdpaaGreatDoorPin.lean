/-
  Proved here: what Atoi, ParseInt and the reference's l1Read return: the number that a text is, as its own numeral, or none.
  Conditions: the table holds the powers of ten, the variable of the error of syntax an error (Atoi, ParseInt).
-/
import Derived.Test.YtckgjpaccgpdpaaGreatDoorNum
import Derived.IntWalk
import Derived.Lib.Strings
namespace Go.Proofs.YtckgjpaccgpdpaaGreatDoor
open Go.ChangeShapes Go.WideShapes Go.ChangeAt Go.RowKit

theorem eqS_iff {a b : ByteArray} : (a.toList == b.toList) = true ↔ a = b := by
  rw [beq_iff_eq, Lib.toList_data, Lib.toList_data]
  exact ⟨fun h => WideShapes.bytes_inj h, fun h => by rw [h]⟩
theorem eqS_no {a b : ByteArray} (h : a ≠ b) : (a.toList == b.toList) = false := by
  cases e : (a.toList == b.toList)
  · rfl
  · exact absurd (eqS_iff.1 e) h
/-- the variable of the error of syntax holds an error -/
def ErrS (w : World) : Prop := ∃ tp p, w.var? Tryz.prog "strconv.ErrSyntax" = some #[.iface tp p]
theorem ErrS.ext {w w' : World} (h : ErrS w) (hx : Ext w w') : ErrS w' := by
  obtain ⟨tp, p, h⟩ := h
  exact ⟨tp, p, var_ext h hx⟩

theorem std_Atoi_ok {s : ByteArray} {n : Int} (hl : s.size ≤ 18) (h : Lib.atoi s.data.toList = some n) {w : World} :
    Calls Tryz.prog 71 #[.string s] w fun e w' => e = .returned (.tuple #[.int .i64 n, .nilIface]) ∧ Ext w w' :=
  (Any.strconv_Atoi lays172 s n hl h w).mono fun _ _ ⟨he, t, hw⟩ => ⟨he, by rw [hw]; exact Lib.bytesWorld_below _ _ _⟩
theorem std_Atoi_err {s : ByteArray} (hl : s.size ≤ 18) (h : Lib.atoi s.data.toList = none) {w : World} (hv : ErrS w) :
    Calls Tryz.prog 71 #[.string s] w fun e w' => ∃ t N, e = .returned (.tuple #[.int .i64 0, .iface t (.pointer (some ⟨N, 0, none⟩))]) ∧ Ext w w' := by
  obtain ⟨tp, p, hv⟩ := hv
  exact (Any.strconv_Atoi_err_var laysC172 s hl h tp p w hv).mono fun _ _ ⟨N, he, _, _, hb⟩ => ⟨_, N, he, hb⟩

def pinV (s : ByteArray) : Value := .tuple #[.int .i64 ((numOf s.data.toList).getD 0), .bool (numOf s.data.toList).isSome]
theorem pinV_none {s : ByteArray} (h : numOf s.data.toList = none) : pinV s = .tuple #[.int .i64 0, .bool false] := by unfold pinV; rw [h]; rfl
theorem pinV_some {s : ByteArray} {n : Int} (h : numOf s.data.toList = some n) : pinV s = .tuple #[.int .i64 n, .bool true] := by unfold pinV; rw [h]; rfl
theorem size_data (s : ByteArray) : s.size = s.data.toList.length := Lib.size_eq s
theorem numOf_long {s : ByteArray} (h : 7 < s.size) : numOf s.data.toList = none := numOf_none fun n h1 h2 e => by
  have := (itoa_len h1 h2).1
  rw [e, ← size_data] at this
  omega
theorem numOf_bd {l : List UInt8} {n : Int} (h : numOf l = some n) : -999999 ≤ n ∧ n ≤ 999999 := (numOf_iff.1 h).1

set_option maxHeartbeats 2000000 in
theorem impl_ParseInt {s : ByteArray} (hs : s.size ≤ 9223372036854775807) {w : World} (hp : Pow w) (hv : ErrS w) :
    Calls Tryz.prog 62 #[.string s] w fun e w' => e = .returned (pinV s) ∧ Ext w w' := by
  by_cases h7 : 7 < s.size
  · have c1 : (7 : Int) < (s.size : Int) := by omega
    rw [pinV_none (numOf_long h7)]
    clear h7 hp hv
    go_enter Tryz.func62, Tryz.ntmps62
    go_wp2
    go_ret2
    exact ⟨rfl, Ext.refl _⟩
  · have c1 : ¬ (7 : Int) < (s.size : Int) := by omega
    cases ha : Lib.atoi s.data.toList with
    | none =>
      have hE := std_Atoi_err (by omega) ha hv
      rw [pinV_none (by unfold numOf; rw [ha])]
      have HE := Lib.hid hE
      clear h7 hp hv ha hE
      go_enter Tryz.func62, Tryz.ntmps62
      go_wp2_with fail
      refine HE.out.mono ?_; rintro e w1 ⟨t, N, rfl, hx1⟩
      go_wp2
      go_ret2
      exact ⟨rfl, hx1⟩
    | some n =>
      have hbd := Lib.atoi_bound ha (by rw [← size_data]; omega)
      have HE := Lib.hid (std_Atoi_ok (w := w) (by omega) ha)
      have HI := Lib.hid (fun y (hy : Ext w y) => std_Itoa (n := n) (by omega) (by omega) (hp.ext hy))
      by_cases hb : inB n (-999999) 999999 = true
      · by_cases he : Lib.itoa n = s.data.toList
        · have hn : numOf s.data.toList = some n := numOf_iff.2 ⟨by rw [inB_iff] at hb; exact hb, he⟩
          rw [pinV_some hn]
          have hc : ((bsOf (Lib.itoa n)).toList == s.toList) = true := eqS_iff.2 (by rw [he, bsOf_data])
          clear h7 hp hv ha he hn hbd
          go_enter Tryz.func62, Tryz.ntmps62
          go_wp2_with fail
          refine HE.out.mono ?_; rintro e w1 ⟨rfl, hx1⟩
          have HX1 := Lib.hid hx1
          clear hx1
          go_wp2_with (first | (go_at_call 31; refine (impl_inside).mono ?_; rintro e w1 ⟨rfl, rfl⟩) | (go_at_call 60; (with_reducible refine (HI.out _ HX1.out).mono ?_); rintro e w2 ⟨rfl, hx2⟩))
          go_ret2
          exact ⟨rfl, HX1.out.trans hx2⟩
        · have hn : numOf s.data.toList = none := by unfold numOf; rw [ha]; simp [he]
          rw [pinV_none hn]
          have hc : ((bsOf (Lib.itoa n)).toList == s.toList) = false := eqS_no (fun e => he (by rw [← e, data_bsOf]))
          clear h7 hp hv ha he hn hbd
          go_enter Tryz.func62, Tryz.ntmps62
          go_wp2_with fail
          refine HE.out.mono ?_; rintro e w1 ⟨rfl, hx1⟩
          have HX1 := Lib.hid hx1
          clear hx1
          go_wp2_with (first | (go_at_call 31; refine (impl_inside).mono ?_; rintro e w1 ⟨rfl, rfl⟩) | (go_at_call 60; (with_reducible refine (HI.out _ HX1.out).mono ?_); rintro e w2 ⟨rfl, hx2⟩))
          go_ret2
          exact ⟨rfl, HX1.out.trans hx2⟩
      · have hbf : inB n (-999999) 999999 = false := by simpa using hb
        have hn : numOf s.data.toList = none := by
          unfold numOf; rw [ha]
          have : ¬ (-999999 ≤ n ∧ n ≤ 999999) := fun h => hb (inB_iff.2 h)
          simp [this]
        rw [pinV_none hn]
        clear h7 hp hv ha hn hbd HI hb
        go_enter Tryz.func62, Tryz.ntmps62
        go_wp2_with fail
        refine HE.out.mono ?_; rintro e w1 ⟨rfl, hx1⟩
        go_wp2_with (go_at_call 31; refine (impl_inside).mono ?_; rintro e w1 ⟨rfl, rfl⟩)
        go_ret2
        exact ⟨rfl, hx1⟩

end Go.Proofs.YtckgjpaccgpdpaaGreatDoor
