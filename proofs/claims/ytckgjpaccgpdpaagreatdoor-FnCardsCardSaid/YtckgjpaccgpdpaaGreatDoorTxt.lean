/-
  Proved here: what cardText, CardText and their references l12Text, CardText return: a valid card's text.
  Conditions: the card is valid (cardText, l12Text); the table holds the powers of ten (cardText, CardText).
-/
import Derived.Test.YtckgjpaccgpdpaaGreatDoorNum
import Derived.IntWalk
import Derived.Deep.DrawnRows
import Derived.Deep.DeepCutAuto
import Derived.Deep.CutBlock
namespace Go.Proofs.YtckgjpaccgpdpaaGreatDoor
open Go.ChangeShapes Go.WideShapes Go.ChangeAt Go.RowKit

/-- what a valid card's numbers are -/
structure CardBd (c : CardD) : Prop where
  num : 1 ≤ c.number ∧ c.number ≤ 9999
  st : 0 ≤ c.start ∧ c.start ≤ 36000
  fin : c.finish = -1 ∨ 0 ≤ c.finish ∧ c.finish ≤ 36000
  len : c.ps.length ≤ 12
  ps : ∀ k, k < c.ps.length → (31 ≤ (nth c.ps k).code ∧ (nth c.ps k).code ≤ 99) ∧ (0 ≤ (nth c.ps k).time ∧ (nth c.ps k).time ≤ 36000)
theorem card_bd {c : CardD} (h : cardB c = true) : CardBd c := by
  simp only [cardB, headB, Bool.and_eq_true, decide_eq_true_eq, inB_iff] at h
  obtain ⟨⟨⟨⟨h1, h2⟩, h3⟩, h4⟩, h5⟩ := h
  refine ⟨h1, h2, ?_, h4, fun k hk => ?_⟩
  · by_cases hf : c.finish = -1
    · exact .inl hf
    · have e : (c.finish != -1) = true := by simpa using hf
      rw [e] at h3
      simp only [Bool.true_and, Bool.not_not, inB_iff] at h3
      exact .inr ⟨by omega, h3.2⟩
  · have := upto_true.1 h5 k hk
    simp only [okPunch, Bool.and_eq_true, inB_iff] at this
    exact ⟨this.1.1.1, this.1.1.2⟩
theorem itoa_lenk {k : Nat} {n : Int} (h : 0 ≤ n) (h2 : n < 10 ^ (k + 1)) : (Lib.itoa n).length ≤ k + 1 := by
  unfold Lib.itoa
  rw [if_neg (by omega), Lib.decDigits_length]
  refine nDigits_le ?_
  have e : ((10 ^ (k + 1) : Nat) : Int) = 10 ^ (k + 1) := by simp
  omega
theorem pT_len {p : Pch} (h1 : 31 ≤ p.code ∧ p.code ≤ 99) (h2 : 0 ≤ p.time ∧ p.time ≤ 36000) : (pT p).length ≤ 8 := by
  have a := itoa_lenk (k := 1) (n := p.code) (by omega) (by have e : (10 : Int) ^ (1 + 1) = 100 := rfl; omega)
  have b := itoa_lenk (k := 4) (n := p.time) (by omega) (by have e : (10 : Int) ^ (4 + 1) = 100000 := rfl; omega)
  unfold pT
  simp only [List.length_append, List.length_cons]
  omega
theorem CardBd.psLen {c : CardD} (h : CardBd c) : ∀ k, k ≤ c.ps.length → (psT (c.ps.take k)).length ≤ 9 * k := by
  intro k
  induction k with
  | zero => intro _; simp [psT]
  | succ k ih =>
    intro hk
    have h1 := ih (by omega)
    have h2 := h.ps k (by omega)
    have h3 := pT_len h2.1 h2.2
    rw [psT_succ (by omega)]
    simp only [List.length_append, List.length_cons]
    omega
theorem CardBd.headLen {c : CardD} (h : CardBd c) : (headT c).length ≤ 29 ∧ (Lib.itoa c.number).length ≤ 4 ∧ (Lib.itoa c.start).length ≤ 5 ∧ (finT c).length ≤ 5 := by
  have h1 := h.num; have h2 := h.st
  have a := itoa_lenk (k := 3) (n := c.number) (by omega) (by have e : (10 : Int) ^ (3 + 1) = 10000 := rfl; omega)
  have b := itoa_lenk (k := 4) (n := c.start) (by omega) (by have e : (10 : Int) ^ (4 + 1) = 100000 := rfl; omega)
  have d : (finT c).length ≤ 5 := by
    unfold finT
    split
    · simp [noneW]
    · rename_i hf
      rcases h.fin with hf2 | hf2
      · exact absurd hf2 hf
      · exact itoa_lenk (k := 4) (n := c.finish) (by omega) (by have e : (10 : Int) ^ (4 + 1) = 100000 := rfl; omega)
  refine ⟨?_, a, b, d⟩
  unfold headT
  simp only [List.length_append, List.length_cons, startW, finishW, List.length_nil]
  omega
theorem CardBd.textLen {c : CardD} (h : CardBd c) : (cardT c).length ≤ 137 := by
  have a := h.psLen c.ps.length (Nat.le_refl _)
  have b := h.headLen.1
  have d := h.len
  rw [List.take_length] at a
  unfold cardT
  rw [List.length_append]
  omega
def st7 : List UInt8 := [32, 115, 116, 97, 114, 116, 32]
def fi8 : List UInt8 := [32, 102, 105, 110, 105, 115, 104, 32]
theorem headT_eq (c : CardD) : headT c = (((Lib.itoa c.number ++ st7) ++ Lib.itoa c.start) ++ fi8) ++ finT c := by
  simp [headT, st7, fi8, startW, finishW]
/-- the texts of a head, step by step -/
theorem CardBd.adds {c : CardD} (h : CardBd c) : ∃ T1 T2 T3 : ByteArray,
    (∀ y : World, (Op.stringOp .add (bsOf (Lib.itoa c.number)) (ByteArray.mk #[32, 115, 116, 97, 114, 116, 32])).run Tryz.prog y = .ok (.string T1) y) ∧
    (∀ y : World, (Op.stringOp .add T1 (bsOf (Lib.itoa c.start))).run Tryz.prog y = .ok (.string T2) y) ∧
    (∀ y : World, (Op.stringOp .add T2 (ByteArray.mk #[32, 102, 105, 110, 105, 115, 104, 32])).run Tryz.prog y = .ok (.string T3) y) ∧
    ∀ y : World, (Op.stringOp .add T3 (bsOf (finT c))).run Tryz.prog y = .ok (.string (bsOf (headT c))) y := by
  obtain ⟨h1, h2, h3, h4⟩ := h.headLen
  have l7 : st7.length = 7 := rfl
  have l8 : fi8.length = 8 := rfl
  refine ⟨bsOf (Lib.itoa c.number ++ st7), bsOf ((Lib.itoa c.number ++ st7) ++ Lib.itoa c.start), bsOf (((Lib.itoa c.number ++ st7) ++ Lib.itoa c.start) ++ fi8), fun y => ?_, fun y => ?_, fun y => ?_, fun y => ?_⟩
  · exact add_bs (b := st7) rfl rfl (by omega) y
  · exact add_bs rfl rfl (by rw [List.length_append]; omega) y
  · exact add_bs (b := fi8) rfl rfl (by rw [List.length_append, List.length_append]; omega) y
  · rw [headT_eq]; exact add_bs rfl rfl (by rw [List.length_append, List.length_append, List.length_append]; omega) y
/-- the texts of a punch, step by step -/
theorem CardBd.addp {c : CardD} (h : CardBd c) {k : Nat} (hk : k < c.ps.length) : ∃ T1 T2 T3 : ByteArray,
    (∀ y : World, (Op.stringOp .add (ByteArray.mk #[32]) (bsOf (Lib.itoa (nth c.ps k).code))).run Tryz.prog y = .ok (.string T1) y) ∧
    (∀ y : World, (Op.stringOp .add T1 (ByteArray.mk #[64])).run Tryz.prog y = .ok (.string T2) y) ∧
    (∀ y : World, (Op.stringOp .add T2 (bsOf (Lib.itoa (nth c.ps k).time))).run Tryz.prog y = .ok (.string T3) y) ∧
    ∀ y : World, (Op.stringOp .add (bsOf (headT c ++ psT (c.ps.take k))) T3).run Tryz.prog y = .ok (.string (bsOf (headT c ++ psT (c.ps.take (k + 1))))) y := by
  have h1 := h.headLen.1
  have h2 := h.psLen k (by omega)
  have h3 := h.len
  have h4 := h.ps k hk
  have h5 := pT_len h4.1 h4.2
  have h6 : (Lib.itoa (nth c.ps k).code).length + 1 + (Lib.itoa (nth c.ps k).time).length ≤ 8 := by
    unfold pT at h5
    simp only [List.length_append, List.length_cons] at h5
    omega
  have l1 : [(32 : UInt8)].length = 1 := rfl
  have l2 : [(64 : UInt8)].length = 1 := rfl
  refine ⟨bsOf ([32] ++ Lib.itoa (nth c.ps k).code), bsOf (([32] ++ Lib.itoa (nth c.ps k).code) ++ [64]), bsOf ((([32] ++ Lib.itoa (nth c.ps k).code) ++ [64]) ++ Lib.itoa (nth c.ps k).time), fun y => ?_, fun y => ?_, fun y => ?_, fun y => ?_⟩
  · exact add_bs (a := [32]) rfl rfl (by omega) y
  · exact add_bs (b := [64]) rfl rfl (by rw [List.length_append]; omega) y
  · exact add_bs rfl rfl (by rw [List.length_append, List.length_append]; omega) y
  · rw [psT_succ hk, show headT c ++ (psT (c.ps.take k) ++ 32 :: pT (nth c.ps k)) = (headT c ++ psT (c.ps.take k)) ++ ((([32] ++ Lib.itoa (nth c.ps k).code) ++ [64]) ++ Lib.itoa (nth c.ps k).time) by simp [pT]]
    exact add_bs rfl rfl (by simp only [List.length_append]; omega) y

/-- the texts of a punch behind a text, step by step -/
theorem CardBd.adds2 {c : CardD} (h : CardBd c) {k : Nat} (hk : k < c.ps.length) : ∃ T1 T2 T3 T4 : ByteArray,
    (∀ y : World, (Op.stringOp .add (bsOf (headT c ++ psT (c.ps.take k))) (ByteArray.mk #[32])).run Tryz.prog y = .ok (.string T1) y) ∧
    (∀ y : World, (Op.stringOp .add T1 (bsOf (Lib.itoa (nth c.ps k).code))).run Tryz.prog y = .ok (.string T2) y) ∧
    (∀ y : World, (Op.stringOp .add T2 (ByteArray.mk #[64])).run Tryz.prog y = .ok (.string T3) y) ∧
    (∀ y : World, (Op.stringOp .add T3 (bsOf (Lib.itoa (nth c.ps k).time))).run Tryz.prog y = .ok (.string T4) y) ∧
    T4 = bsOf (headT c ++ psT (c.ps.take (k + 1))) := by
  have h1 := h.headLen.1
  have h2 := h.psLen k (by omega)
  have h3 := h.len
  have h4 := h.ps k hk
  have h5 := pT_len h4.1 h4.2
  have h6 : (Lib.itoa (nth c.ps k).code).length + 1 + (Lib.itoa (nth c.ps k).time).length ≤ 8 := by
    unfold pT at h5
    simp only [List.length_append, List.length_cons] at h5
    omega
  have l1 : [(32 : UInt8)].length = 1 := rfl
  have l2 : [(64 : UInt8)].length = 1 := rfl
  refine ⟨bsOf ((headT c ++ psT (c.ps.take k)) ++ [32]), bsOf (((headT c ++ psT (c.ps.take k)) ++ [32]) ++ Lib.itoa (nth c.ps k).code), bsOf ((((headT c ++ psT (c.ps.take k)) ++ [32]) ++ Lib.itoa (nth c.ps k).code) ++ [64]),
    bsOf (((((headT c ++ psT (c.ps.take k)) ++ [32]) ++ Lib.itoa (nth c.ps k).code) ++ [64]) ++ Lib.itoa (nth c.ps k).time), fun y => ?_, fun y => ?_, fun y => ?_, fun y => ?_, ?_⟩
  · exact add_bs (b := [32]) rfl rfl (by simp only [List.length_append]; omega) y
  · exact add_bs rfl rfl (by simp only [List.length_append]; omega) y
  · exact add_bs (b := [64]) rfl rfl (by simp only [List.length_append]; omega) y
  · exact add_bs rfl rfl (by simp only [List.length_append]; omega) y
  · rw [psT_succ hk]; simp [pT]

set_option maxRecDepth 100000 in
set_option maxHeartbeats 4000000 in
theorem impl_cardText {c : CardD} {ao : Option Addr} {cap : Nat} {w : World} (h : RowAt w ao 2 c.ps.length (fun k => (nth c.ps k).c)) (hb : cardB c = true) (hp : Pow w) :
    Calls Tryz.prog 40 #[c.val ao cap] w fun e w' => e = .returned (.string (bsOf (cardT c))) ∧ Ext w w' := by
  have hbd := card_bd hb
  have HBD := Lib.hid hbd
  have hl := hbd.len
  have hI := fun y (hy : Ext w y) (n : Int) (h0 : -1 ≤ n) (h1 : n ≤ 36000) => std_Itoa (n := n) (w := y) (by omega) (by omega) (hp.ext hy)
  have HIN := Lib.hid (fun y (hy : Ext w y) => hI y hy c.number (by have := hbd.num; omega) (by have := hbd.num; omega))
  have HIS := Lib.hid (fun y (hy : Ext w y) => hI y hy c.start (by have := hbd.st; omega) (by have := hbd.st; omega))
  have HIF := Lib.hid (fun y (hy : Ext w y) => hI y hy c.finish (by rcases hbd.fin with h | h <;> omega) (by rcases hbd.fin with h | h <;> omega))
  have HIC := Lib.hid (fun k (hk : k < c.ps.length) y (hy : Ext w y) => hI y hy (nth c.ps k).code (by have := hbd.ps k hk; omega) (by have := hbd.ps k hk; omega))
  have HIT := Lib.hid (fun k (hk : k < c.ps.length) y (hy : Ext w y) => hI y hy (nth c.ps k).time (by have := hbd.ps k hk; omega) (by have := hbd.ps k hk; omega))
  obtain ⟨T1, T2, T3, s1, s2, s3, s4⟩ := hbd.adds
  have HAP := Lib.hid (fun k (hk : k < c.ps.length) => hbd.addp hk)
  have HLE := Lib.hid (show headT c = headT c ++ psT (c.ps.take 0) by simp [psT])
  have HH := Lib.hid h
  clear hI h hb hp hbd
  unfold CardD.val
  have hx0 := (Ext.refl w).alloc (.cells #[.int .i64 c.number, .int .i64 c.start, .int .i64 c.finish, .slice ao c.ps.length cap] 26)
  have b0 : (w.alloc (.cells #[.int .i64 c.number, .int .i64 c.start, .int .i64 c.finish, .slice ao c.ps.length cap] 26)).cell? ⟨w.heap.size, 0, none⟩ = some (.int .i64 c.number) := by go_simp
  have b1 : (w.alloc (.cells #[.int .i64 c.number, .int .i64 c.start, .int .i64 c.finish, .slice ao c.ps.length cap] 26)).cell? ⟨w.heap.size, 1, none⟩ = some (.int .i64 c.start) := by go_simp
  have b3 : (w.alloc (.cells #[.int .i64 c.number, .int .i64 c.start, .int .i64 c.finish, .slice ao c.ps.length cap] 26)).cell? ⟨w.heap.size, 3, none⟩ = some (.slice ao c.ps.length cap) := by go_simp
  have HX0 := Lib.hid hx0
  have hF := HIF.out _ hx0
  have HIF := Lib.hid hF
  clear hF hx0
  go_enter Tryz.func40, Tryz.ntmps40
  go_upto_if 9 with fail
  go_cut [3] (fun v wc => v = .string (bsOf (finT c)) ∧ Ext (w.alloc (.cells #[.int .i64 c.number, .int .i64 c.start, .int .i64 c.finish, .slice ao c.ps.length cap] 26)) wc)
  case first =>
    by_cases hf : c.finish = -1
    · have hff : (c.finish != -1) = false := by simpa using hf
      have HFIN := Lib.hid (show finT c = noneW by unfold finT; rw [if_pos hf])
      clear hf
      go_wp2_with fail
      go_meet
      exact ⟨by rw [HFIN.out]; rfl, Ext.refl _⟩
    · have hff : (c.finish != -1) = true := by simpa using hf
      have HFIN := Lib.hid (show finT c = Lib.itoa c.finish by unfold finT; rw [if_neg hf])
      clear hf
      go_wp2_with fail
      refine HIF.out.mono ?_; rintro e w1 ⟨rfl, hx1⟩
      go_wp2_with fail
      go_meet
      exact ⟨by rw [HFIN.out], hx1⟩
  case rest =>
    obtain ⟨rfl, hcut⟩ := hcut
    replace b0 := hcut.cells b0; replace b1 := hcut.cells b1; replace b3 := hcut.cells b3
    have HXC := Lib.hid (HX0.out.trans hcut)
    clear hcut HX0 HIF
    generalize wc = w2 at *
    have g0 := Grow.cells b0; have g1 := Grow.cells b1; have g3 := Grow.cells b3
    go_wp2_with fail
    refine wp_region_ext (by kernel_rfl) (by kernel_rfl) ?_
    repeat (go_big_quiet_step ((first | (go_at_call 60; with_reducible exact Calls.ext_of (HIN.out _ (HXC.out.trans (Grow.h _)))) | (go_at_call 60; with_reducible exact Calls.ext_of (HIS.out _ (HXC.out.trans (Grow.h _)))))))
    refine wpQuiet_nil ?_
    rintro _ ⟨⟨w1, hx1⟩, rfl⟩
    clear g0 g1 g3
    replace b3 := hx1.cells b3
    have HX1 := Lib.hid (HXC.out.trans hx1)
    rename World => w3
    clear hx1 b0 b1 HXC HIN HIS s1 s2 s3 s4
    go_wp2_with fail
    go_loopw [4, 27] (fun t i wr => ∃ k : Nat, k ≤ c.ps.length ∧ i = .int .i64 k ∧ t = .string (bsOf (headT c ++ psT (c.ps.take k))) ∧ Ext w3 wr) (fun _ i _ => c.ps.length - (intOf i).toNat)
    case atStart => exact ⟨0, Nat.zero_le _, rfl, by rw [← HLE.out], Ext.refl _⟩
    case round =>
      obtain ⟨k, hk, rfl, rfl, hx⟩ := hrel
      have HX := Lib.hid hx
      by_cases hlt : k < c.ps.length
      · have hkn : (k : Int) < (c.ps.length : Int) := by omega
        obtain ⟨pb, poff, rfl, hpc⟩ := (HH.out.ext (HX1.out.trans hx)) (by omega)
        have d0 := hpc k hlt 0 (by decide); have d1 := hpc k hlt 1 (by decide)
        simp only [Pch.c0, Pch.c1, Nat.add_zero] at d0 d1
        obtain ⟨U1, U2, U3, u1, u2, u3, u4⟩ := HAP.out k hlt
        have HK1 := Lib.hid (HIC.out k hlt)
        have HK2 := Lib.hid (HIT.out k hlt)
        have hxA := (Ext.refl wr).alloc (.cells #[.int .i64 (nth c.ps k).code, .int .i64 (nth c.ps k).time] 35)
        have k0 : (wr.alloc (.cells #[.int .i64 (nth c.ps k).code, .int .i64 (nth c.ps k).time] 35)).cell? ⟨wr.heap.size, 0, none⟩ = some (.int .i64 (nth c.ps k).code) := by go_simp
        have k1 : (wr.alloc (.cells #[.int .i64 (nth c.ps k).code, .int .i64 (nth c.ps k).time] 35)).cell? ⟨wr.heap.size, 1, none⟩ = some (.int .i64 (nth c.ps k).time) := by go_simp
        have HXA := Lib.hid (HX1.out.trans (HX.out.trans hxA))
        have HXB := Lib.hid (HX.out.trans hxA)
        obtain ⟨TN, hTN⟩ : ∃ TN, TN = bsOf (headT c ++ psT (c.ps.take (k + 1))) := ⟨_, rfl⟩
        rw [← hTN] at u4
        have HTK := Lib.hid hTN
        clear hTN hpc hx hxA HH
        generalize (nth c.ps k).code = cd at *
        generalize (nth c.ps k).time = tm at *
        generalize bsOf (headT c ++ psT (c.ps.take k)) = TT at *
        go_upto_region 8 with fail
        generalize wr.alloc (.cells #[.int .i64 cd, .int .i64 tm] 35) = w5 at *
        have g0 := Grow.cells k0; have g1 := Grow.cells k1
        go_wp2_with fail
        refine wp_region_ext (by kernel_rfl) (by kernel_rfl) ?_
        repeat (go_big_quiet_step ((first | (go_at_call 60; with_reducible exact Calls.ext_of (HK1.out _ (HXA.out.trans (Grow.h _)))) | (go_at_call 60; with_reducible exact Calls.ext_of (HK2.out _ (HXA.out.trans (Grow.h _)))))))
        refine wpQuiet_nil ?_
        rintro _ ⟨⟨w1, hx1⟩, rfl⟩
        clear g0 g1
        go_wp2_with fail
        go_roundw
        case rel => exact ⟨k + 1, by omega, by go_num, by rw [HTK.out], HXB.out.trans hx1⟩
        case measure => simp [intOf] <;> omega
      · have hkn : ¬ (k : Int) < (c.ps.length : Int) := by omega
        obtain rfl : k = c.ps.length := by omega
        clear hx
        go_wp2_with fail
        go_ret
        exact ⟨rfl, HX1.out.trans HX.out⟩

theorem impl_CardText {c : CardD} {ao : Option Addr} {cap : Nat} {w : World} (h : RowAt w ao 2 c.ps.length (fun k => (nth c.ps k).c)) (hn : c.ps.length ≤ 9223372036854775807) (hp : Pow w) :
    Calls Tryz.prog 18 #[c.val ao cap] w fun e w' => e = .returned (.tuple #[.string (if cardB c then bsOf (cardT c) else ByteArray.empty), .bool (cardB c)]) ∧ Ext w w' := by
  have hx0 := (Ext.refl w).alloc (.cells #[.int .i64 c.number, .int .i64 c.start, .int .i64 c.finish, .slice ao c.ps.length cap] 26)
  have HI := Lib.hid (impl_IsCard (c := c) (cap := cap) (h.ext hx0) hn)
  have HX0 := Lib.hid hx0
  cases hb : cardB c
  · rw [hb] at HI
    unfold CardD.val at HI ⊢
    clear hx0 h hp
    go_enter Tryz.func18, Tryz.ntmps18
    go_wp2_with fail
    refine HI.out.mono ?_; rintro e w1 ⟨rfl, hx1⟩
    go_wp2
    go_ret2
    exact ⟨rfl, HX0.out.trans hx1⟩
  · have HT := Lib.hid (fun y (hy : Ext w y) => impl_cardText (c := c) (cap := cap) (h.ext hy) hb (hp.ext hy))
    rw [hb] at HI
    unfold CardD.val at HI HT ⊢
    have b0 : (w.alloc (.cells #[.int .i64 c.number, .int .i64 c.start, .int .i64 c.finish, .slice ao c.ps.length cap] 26)).cell? ⟨w.heap.size, 0, none⟩ = some (.int .i64 c.number) := by go_simp
    have b1 : (w.alloc (.cells #[.int .i64 c.number, .int .i64 c.start, .int .i64 c.finish, .slice ao c.ps.length cap] 26)).cell? ⟨w.heap.size, 1, none⟩ = some (.int .i64 c.start) := by go_simp
    have b2 : (w.alloc (.cells #[.int .i64 c.number, .int .i64 c.start, .int .i64 c.finish, .slice ao c.ps.length cap] 26)).cell? ⟨w.heap.size, 2, none⟩ = some (.int .i64 c.finish) := by go_simp
    have b3 : (w.alloc (.cells #[.int .i64 c.number, .int .i64 c.start, .int .i64 c.finish, .slice ao c.ps.length cap] 26)).cell? ⟨w.heap.size, 3, none⟩ = some (.slice ao c.ps.length cap) := by go_simp
    clear hx0 h hp hb
    go_enter Tryz.func18, Tryz.ntmps18
    go_wp2_with fail
    refine HI.out.mono ?_; rintro e w1 ⟨rfl, hx1⟩
    replace b0 := hx1.cells b0; replace b1 := hx1.cells b1; replace b2 := hx1.cells b2; replace b3 := hx1.cells b3
    have HX1 := Lib.hid (HX0.out.trans hx1)
    clear hx1 HI HX0
    go_wp2_with fail
    refine (HT.out _ HX1.out).mono ?_; rintro e w2 ⟨rfl, hx2⟩
    go_wp2
    go_ret2
    exact ⟨rfl, HX1.out.trans hx2⟩

set_option maxRecDepth 100000 in
set_option maxHeartbeats 4000000 in
theorem spec_l12Text {c : CardD} {ao : Option Addr} {cap : Nat} {w : World} (h : RowAt w ao 2 c.ps.length (fun k => (nth c.ps k).c)) (hb : cardB c = true) :
    Calls Tryz.prog 44 #[c.val ao cap] w fun e w' => e = .returned (.string (bsOf (cardT c))) ∧ Ext w w' := by
  have hbd := card_bd hb
  have hl := hbd.len
  have hI := fun y (n : Int) (h0 : -1 ≤ n) (h1 : n ≤ 36000) => spec_l1Num (n := n) (w := y) (by omega) (by omega)
  have HIN := Lib.hid (fun y => hI y c.number (by have := hbd.num; omega) (by have := hbd.num; omega))
  have HIS := Lib.hid (fun y => hI y c.start (by have := hbd.st; omega) (by have := hbd.st; omega))
  have HIF := Lib.hid (fun y => hI y c.finish (by rcases hbd.fin with h | h <;> omega) (by rcases hbd.fin with h | h <;> omega))
  have HIC := Lib.hid (fun k (hk : k < c.ps.length) y => hI y (nth c.ps k).code (by have := hbd.ps k hk; omega) (by have := hbd.ps k hk; omega))
  have HIT := Lib.hid (fun k (hk : k < c.ps.length) y => hI y (nth c.ps k).time (by have := hbd.ps k hk; omega) (by have := hbd.ps k hk; omega))
  obtain ⟨T1, T2, T3, s1, s2, s3, s4⟩ := hbd.adds
  have HAP := Lib.hid (fun k (hk : k < c.ps.length) => hbd.adds2 hk)
  have HLE := Lib.hid (show headT c = headT c ++ psT (c.ps.take 0) by simp [psT])
  have HH := Lib.hid h
  clear hI h hb hbd
  unfold CardD.val
  have hx0 := (Ext.refl w).alloc (.cells #[.int .i64 c.number, .int .i64 c.start, .int .i64 c.finish, .slice ao c.ps.length cap] 26)
  obtain ⟨wb, hwb⟩ : ∃ wb, wb = w.alloc (.cells #[.int .i64 c.number, .int .i64 c.start, .int .i64 c.finish, .slice ao c.ps.length cap] 26) := ⟨_, rfl⟩
  have b0 : (w.alloc (.cells #[.int .i64 c.number, .int .i64 c.start, .int .i64 c.finish, .slice ao c.ps.length cap] 26)).cell? ⟨w.heap.size, 0, none⟩ = some (.int .i64 c.number) := by go_simp
  have b1 : (w.alloc (.cells #[.int .i64 c.number, .int .i64 c.start, .int .i64 c.finish, .slice ao c.ps.length cap] 26)).cell? ⟨w.heap.size, 1, none⟩ = some (.int .i64 c.start) := by go_simp
  have b2 : (w.alloc (.cells #[.int .i64 c.number, .int .i64 c.start, .int .i64 c.finish, .slice ao c.ps.length cap] 26)).cell? ⟨w.heap.size, 2, none⟩ = some (.int .i64 c.finish) := by go_simp
  have b3 : (w.alloc (.cells #[.int .i64 c.number, .int .i64 c.start, .int .i64 c.finish, .slice ao c.ps.length cap] 26)).cell? ⟨w.heap.size, 3, none⟩ = some (.slice ao c.ps.length cap) := by go_simp
  have HX0 := Lib.hid hx0
  clear hx0
  go_enter Tryz.func44, Tryz.ntmps44
  go_upto_region 1 with fail
  rw [← hwb] at b0 b1 b2 b3 HX0 ⊢
  clear hwb
  have g0 := Grow.cells b0; have g1 := Grow.cells b1
  go_wp2_with fail
  refine wp_region_ext (by kernel_rfl) (by kernel_rfl) ?_
  repeat (go_big_quiet_step ((first | (go_at_call 64; with_reducible exact Calls.ext_of (HIN.out _)) | (go_at_call 64; with_reducible exact Calls.ext_of (HIS.out _)))))
  refine wpQuiet_nil ?_
  rintro _ ⟨⟨w1, hx1⟩, rfl⟩
  clear g0 g1
  replace b2 := hx1.cells b2; replace b3 := hx1.cells b3
  have HX1 := Lib.hid (HX0.out.trans hx1)
  rename World => w3
  clear hx1 b0 b1 HIN HIS s1 s2 s3 HX0
  go_upto_if 16 with fail
  go_cut [3] (fun v wc => v = .string (bsOf (headT c)) ∧ Ext w3 wc)
  case first =>
    by_cases hf : c.finish = -1
    · have hff : (c.finish == -1) = true := by simpa using hf
      have hfin : finT c = noneW := by unfold finT; rw [if_pos hf]
      rw [hfin, show bsOf noneW = ByteArray.mk #[110, 111, 110, 101] from rfl] at s4
      clear hf hfin
      go_wp2_with fail
      go_meet
      exact ⟨rfl, Ext.refl _⟩
    · have hff : (c.finish == -1) = false := by simpa using hf
      have hfin : finT c = Lib.itoa c.finish := by unfold finT; rw [if_neg hf]
      rw [hfin] at s4
      clear hf hfin
      go_wp2_with fail
      refine (HIF.out _).mono ?_; rintro e w4 ⟨rfl, hx4⟩
      go_wp2_with fail
      go_meet
      exact ⟨rfl, hx4⟩
  case rest =>
    obtain ⟨rfl, hcut⟩ := hcut
    replace b3 := hcut.cells b3
    have HX2 := Lib.hid (HX1.out.trans hcut)
    clear hcut HX1 HIF s4 b2
    generalize wc = w4 at *
    go_wp2_with fail
    go_loopw [3, 4] (fun t i wr => ∃ k : Nat, k ≤ c.ps.length ∧ i = .int .i64 k ∧ t = .string (bsOf (headT c ++ psT (c.ps.take k))) ∧ Ext w4 wr) (fun _ i _ => c.ps.length - (intOf i).toNat)
    case atStart => exact ⟨0, Nat.zero_le _, rfl, by rw [← HLE.out], Ext.refl _⟩
    case round =>
      obtain ⟨k, hk, rfl, rfl, hx⟩ := hrel
      have HX := Lib.hid hx
      replace b3 := hx.cells b3
      by_cases hlt : k < c.ps.length
      · have hkn : (k : Int) < (c.ps.length : Int) := by omega
        obtain ⟨pb, poff, rfl, hpc⟩ := (HH.out.ext (HX2.out.trans hx)) (by omega)
        have d0 := hpc k hlt 0 (by decide); have d1 := hpc k hlt 1 (by decide)
        simp only [Pch.c0, Pch.c1, Nat.add_zero] at d0 d1
        obtain ⟨U1, U2, U3, TN, u1, u2, u3, u4, hTN⟩ := HAP.out k hlt
        have HK1 := Lib.hid (HIC.out k hlt)
        have HK2 := Lib.hid (HIT.out k hlt)
        have HTK := Lib.hid hTN
        clear hTN hpc hx HH
        generalize (nth c.ps k).code = cd at *
        generalize (nth c.ps k).time = tm at *
        generalize bsOf (headT c ++ psT (c.ps.take k)) = TT at *
        have g0 := Grow.cells d0; have g1 := Grow.cells d1; have g3 := Grow.cells b3
        go_wp2_with fail
        refine wp_region_ext (by kernel_rfl) (by kernel_rfl) ?_
        repeat (go_big_quiet_step ((first | (go_at_call 64; with_reducible exact Calls.ext_of (HK1.out _)) | (go_at_call 64; with_reducible exact Calls.ext_of (HK2.out _)))))
        refine wpQuiet_nil ?_
        rintro _ ⟨⟨w1, hx1⟩, rfl⟩
        clear g0 g1 g3
        go_wp2_with fail
        go_roundw
        case rel => exact ⟨k + 1, by omega, by go_num, by rw [HTK.out], HX.out.trans hx1⟩
        case measure => simp [intOf] <;> omega
      · have hkn : ¬ (k : Int) < (c.ps.length : Int) := by omega
        obtain rfl : k = c.ps.length := by omega
        clear hx
        go_wp2_with fail
        go_ret
        exact ⟨rfl, HX2.out.trans HX.out⟩

theorem spec_CardText {c : CardD} {ao : Option Addr} {cap : Nat} {w : World} (h : RowAt w ao 2 c.ps.length (fun k => (nth c.ps k).c)) (hn : c.ps.length ≤ 9223372036854775807) :
    Calls Tryz.prog 20 #[c.val ao cap] w fun e w' => e = .returned (.tuple #[.string (if cardB c then bsOf (cardT c) else ByteArray.empty), .bool (cardB c)]) ∧ Ext w w' := by
  have hx0 := (Ext.refl w).alloc (.cells #[.int .i64 c.number, .int .i64 c.start, .int .i64 c.finish, .slice ao c.ps.length cap] 26)
  have HI := Lib.hid (spec_l12Card (c := c) (cap := cap) (h.ext hx0) hn)
  have HX0 := Lib.hid hx0
  cases hb : cardB c
  · rw [hb] at HI
    unfold CardD.val at HI ⊢
    clear hx0 h
    go_enter Tryz.func20, Tryz.ntmps20
    go_wp2_with fail
    refine HI.out.mono ?_; rintro e w1 ⟨rfl, hx1⟩
    go_wp2
    go_ret2
    exact ⟨rfl, HX0.out.trans hx1⟩
  · have HT := Lib.hid (fun y (hy : Ext w y) => spec_l12Text (c := c) (cap := cap) (h.ext hy) hb)
    rw [hb] at HI
    unfold CardD.val at HI HT ⊢
    have b0 : (w.alloc (.cells #[.int .i64 c.number, .int .i64 c.start, .int .i64 c.finish, .slice ao c.ps.length cap] 26)).cell? ⟨w.heap.size, 0, none⟩ = some (.int .i64 c.number) := by go_simp
    have b1 : (w.alloc (.cells #[.int .i64 c.number, .int .i64 c.start, .int .i64 c.finish, .slice ao c.ps.length cap] 26)).cell? ⟨w.heap.size, 1, none⟩ = some (.int .i64 c.start) := by go_simp
    have b2 : (w.alloc (.cells #[.int .i64 c.number, .int .i64 c.start, .int .i64 c.finish, .slice ao c.ps.length cap] 26)).cell? ⟨w.heap.size, 2, none⟩ = some (.int .i64 c.finish) := by go_simp
    have b3 : (w.alloc (.cells #[.int .i64 c.number, .int .i64 c.start, .int .i64 c.finish, .slice ao c.ps.length cap] 26)).cell? ⟨w.heap.size, 3, none⟩ = some (.slice ao c.ps.length cap) := by go_simp
    clear hx0 h hb
    go_enter Tryz.func20, Tryz.ntmps20
    go_wp2_with fail
    refine HI.out.mono ?_; rintro e w1 ⟨rfl, hx1⟩
    replace b0 := hx1.cells b0; replace b1 := hx1.cells b1; replace b2 := hx1.cells b2; replace b3 := hx1.cells b3
    have HX1 := Lib.hid (HX0.out.trans hx1)
    clear hx1 HI HX0
    go_wp2_with fail
    refine (HT.out _ HX1.out).mono ?_; rintro e w2 ⟨rfl, hx2⟩
    go_wp2
    go_ret2
    exact ⟨rfl, HX1.out.trans hx2⟩

end Go.Proofs.YtckgjpaccgpdpaaGreatDoor
