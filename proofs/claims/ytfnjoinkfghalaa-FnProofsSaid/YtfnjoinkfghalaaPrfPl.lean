/-
  Proved here (plain lists): what FnProofs asks of contradicted visits, of proofs kept, of the strongest proof and of an added proof.
  Conditions: those in each statement.
-/
import Derived.Test.YtfnjoinkfghalaaConI
import Derived.Test.YtfnjoinkfghalaaProof9
import Derived.Test.YtfnjoinkfghalaaProof10
import Derived.Test.YtfnjoinkfghalaaStr4
import Derived.Test.YtfnjoinkfghalaaReq
import Derived.Test.YtfnjoinkfghalaaTProof
import Derived.Test.YtfnjoinkfghalaaSS
namespace Go.Proofs.Ytfnjoinkfghalaa
open Go.RowKit

/-- a proof of this kind for this visit was seen among the first k -/
def sawU (xs : List Prf) (r c : Int) (ag : Bool) : Nat → Bool
  | 0 => false
  | k + 1 => sawU xs r c ag k || ((nth xs k).runner == r && (nth xs k).code == c && (nth xs k).against == ag)
theorem sawU_true {xs : List Prf} {r c : Int} {ag : Bool} {n : Nat} : sawU xs r c ag n = true ↔ ∃ k, k < n ∧ (nth xs k).runner = r ∧ (nth xs k).code = c ∧ (nth xs k).against = ag := by
  induction n with
  | zero => simp [sawU]
  | succ n ih =>
    rw [sawU, Bool.or_eq_true, ih]
    simp only [Bool.and_eq_true, beq_iff_eq]
    constructor
    · rintro (⟨k, h1, h2⟩ | h)
      · exact ⟨k, by omega, h2⟩
      · exact ⟨n, by omega, h.1.1, h.1.2, h.2⟩
    · rintro ⟨k, h1, h2⟩
      by_cases e : k = n
      · subst e; exact .inr ⟨⟨h2.1, h2.2.1⟩, h2.2.2⟩
      · exact .inl ⟨k, by omega, h2⟩
/-- contradicted visit number i -/
theorem con_at {xs : List Prf} {i : Nat} (hi : i < (conRL xs).length) : ∃ r c, nth (conRL xs) i = [r, c] ∧ sawU xs r c false xs.length = true ∧ sawU xs r c true xs.length = true ∧ (0 < i → ∃ r' c', nth (conRL xs) (i - 1) = [r', c'] ∧ r' ≤ r) := by
  unfold conRL at hi ⊢
  split at hi
  · rename_i hv
    rw [if_pos hv]
    have hcd : ∀ k, k < xs.length → 31 ≤ (nth xs k).code ∧ (nth xs k).code ≤ 99 := fun k hk => by
      simp only [prfsB, Bool.and_eq_true, upto_true, prfB, inB_iff] at hv
      exact (hv.2 k hk).1.1.2
    unfold conL at hi ⊢
    rw [List.length_map] at hi
    have hat : ∀ j, j < (keyU xs xs.length).length → nth ((keyU xs xs.length).map fun q => [q / 100, q % 100]) j = [nth (keyU xs xs.length) j / 100, nth (keyU xs xs.length) j % 100] := fun j hj => by simp [nth, hj]
    have hm : nth (keyU xs xs.length) i ∈ keyU xs xs.length := by simp [nth, hi]
    obtain ⟨p, hp, e, q, hq, hh⟩ := (keyU_mem xs.length).1 hm
    have hc := hcd p hp
    simp only [hitB, Bool.and_eq_true, beq_iff_eq, Bool.not_eq_true'] at hh
    obtain ⟨⟨⟨h1, h2⟩, h3⟩, h4⟩ := hh
    have er : nth (keyU xs xs.length) i / 100 = (nth xs p).runner := by rw [e]; unfold keyP; omega
    have ec : nth (keyU xs xs.length) i % 100 = (nth xs p).code := by rw [e]; unfold keyP; omega
    refine ⟨_, _, hat i hi, ?_, ?_, fun h0 => ⟨_, _, hat (i - 1) (by omega), ?_⟩⟩
    · rw [er, ec, sawU_true]; exact ⟨q, hq, h1.symm, h2.symm, h4⟩
    · rw [er, ec, sawU_true]; exact ⟨p, hp, rfl, rfl, h3⟩
    · have ha := keyU_asc xs xs.length
      unfold AscI at ha
      have hat2 : ∀ j, (hj : j < (keyU xs xs.length).length) → nth (keyU xs xs.length) j = (keyU xs xs.length)[j] := fun j hj => by simp [nth, hj]
      have := List.pairwise_iff_getElem.1 ha (i - 1) i (by omega) hi (by omega)
      rw [← hat2, ← hat2] at this
      omega
  · simp at hi
theorem drp_at {xs : List Prf} {l : Int} {i : Nat} (hi : i < (drpL xs l).length) : decide ((nth (drpL xs l) i).weight < l) = false := by
  have hm : nth (drpL xs l) i ∈ drpL xs l := by simp [nth, hi]
  generalize nth (drpL xs l) i = x at hm
  unfold drpL at hm
  split at hm
  · simp only [keptL, List.mem_filter, weakB, Bool.not_eq_true'] at hm
    exact hm.2
  · simp at hm
theorem str_at {xs : List Prf} {r c : Int} (hB : strB xs r c = true) {i : Nat} (hi : i < xs.length) : ((nth xs i).runner == r && (nth xs i).code == c && !(nth xs i).against && decide ((strP xs r c).weight < (nth xs i).weight)) = false := by
  simp only [strB, Bool.and_eq_true] at hB
  have hv := hB.1
  rw [Bool.eq_false_iff]
  intro h
  simp only [Bool.and_eq_true, beq_iff_eq, Bool.not_eq_true', decide_eq_true_eq] at h
  obtain ⟨⟨⟨h1, h2⟩, h3⟩, h4⟩ := h
  have hp : strP xs r c = bkU xs r c 4 := by simp [strP, hv]
  rw [hp] at h4
  have hok : okPrfs xs := okPrfs_of (by simp only [visB, Bool.and_eq_true] at hv; exact hv.1.1)
  have hk := (hok i hi).1
  obtain ⟨q, hq⟩ : ∃ q : Nat, (nth xs i).kind = q := ⟨(nth xs i).kind.toNat, by omega⟩
  have hge := bestW_ge (xs := xs) (r := r) (c := c) (kd := (nth xs i).kind) (ag := false) hi (by simp [cnt, h1, h2, h3])
  have hbk := bkU_ge (xs := xs) (r := r) (c := c) 4 q (by omega)
  rw [hq] at hge
  omega
theorem add_known {xs : List Prf} {p : Prf} (h : addB xs p = true) : prfB p = true := by
  rw [addB_spec] at h
  simp only [prfsB, Bool.and_eq_true, upto_true] at h
  have := h.2 xs.length (by simp)
  simpa [nth] using this

set_option maxRecDepth 100000 in
set_option maxHeartbeats 1000000 in
theorem laws_rProofs {ao bo : Option Addr} {ac bc : Nat} {xs : List Prf} {w : World} (h : RowAt w ao 5 xs.length (fun k => (nth xs k).c)) (h' : RowAt w bo 5 xs.length (fun k => (nth xs k).c)) (hn : xs.length ≤ 9223372036854775807) :
    Calls Try.prog 36 #[.slice ao xs.length ac, .slice bo xs.length bc] w fun e w' => e = .returned (.bool true) ∧ Ext w w' := by
  go_enter Try.func36, Try.ntmps36
  go_wp2
  go_loopw [5] (fun i wr => ∃ k : Nat, k ≤ xs.length ∧ i = .int .i64 k ∧ Ext w wr) (fun i _ => xs.length - (intOf i).toNat)
  case atStart => exact ⟨0, Nat.zero_le _, rfl, Ext.refl _⟩
  case round =>
    obtain ⟨k, hk, rfl, hx⟩ := hrel
    by_cases hlt : k < xs.length
    · obtain ⟨b, off, rfl, hcell⟩ := h (by omega)
      obtain ⟨b', off', rfl, hcell'⟩ := h' (by omega)
      have d0 : wr.cell? ⟨b, off + k * 5, none⟩ = some (.int .i64 (nth xs k).runner) := hx.cells (hcell k hlt 0 (by decide))
      have d1 : wr.cell? ⟨b, off + k * 5 + 1, none⟩ = some (.int .i64 (nth xs k).code) := hx.cells (hcell k hlt 1 (by decide))
      have d2 : wr.cell? ⟨b, off + k * 5 + 2, none⟩ = some (.int .i64 (nth xs k).kind) := hx.cells (hcell k hlt 2 (by decide))
      have d3 : wr.cell? ⟨b, off + k * 5 + 3, none⟩ = some (.int .i64 (nth xs k).weight) := hx.cells (hcell k hlt 3 (by decide))
      have d4 : wr.cell? ⟨b, off + k * 5 + 4, none⟩ = some (.bool (nth xs k).against) := hx.cells (hcell k hlt 4 (by decide))
      have e0 : wr.cell? ⟨b', off' + k * 5, none⟩ = some (.int .i64 (nth xs k).runner) := hx.cells (hcell' k hlt 0 (by decide))
      have e1 : wr.cell? ⟨b', off' + k * 5 + 1, none⟩ = some (.int .i64 (nth xs k).code) := hx.cells (hcell' k hlt 1 (by decide))
      have e2 : wr.cell? ⟨b', off' + k * 5 + 2, none⟩ = some (.int .i64 (nth xs k).kind) := hx.cells (hcell' k hlt 2 (by decide))
      have e3 : wr.cell? ⟨b', off' + k * 5 + 3, none⟩ = some (.int .i64 (nth xs k).weight) := hx.cells (hcell' k hlt 3 (by decide))
      have e4 : wr.cell? ⟨b', off' + k * 5 + 4, none⟩ = some (.bool (nth xs k).against) := hx.cells (hcell' k hlt 4 (by decide))
      have hk0 : (0 : Int) ≤ (k : Int) := by omega
      have hk1 : (k : Int) < (xs.length : Int) := by omega
      clear hcell hcell'
      generalize (nth xs k).runner = a0 at *
      generalize (nth xs k).code = a1 at *
      generalize (nth xs k).kind = a2 at *
      generalize (nth xs k).weight = a3 at *
      generalize (nth xs k).against = a4 at *
      go_wp2
      go_quiet (fail)
      go_wp2
      go_roundw
      case rel => exact ⟨k + 1, by omega, by go_num, hx.trans (Ext.drewQ _ _)⟩
      case measure => simp [intOf] <;> omega
    · have hkn : k = xs.length := by omega
      subst hkn
      go_wp2
      go_ret
      exact ⟨rfl, hx⟩

set_option maxRecDepth 100000 in
set_option maxHeartbeats 1000000 in
theorem laws_rTable {ao bo : Option Addr} {cap cap' : Nat} {L : List (List Int)} {f g : Nat → Option Addr × Nat} {w : World} (h : RowG w ao L.length (lenL L) f (icL L)) (h' : RowG w bo L.length (lenL L) g (icL L)) (hn : L.length ≤ 9223372036854775807) (hl : ∀ k, k < L.length → (nth L k).length ≤ 9223372036854775807) :
    Calls Try.prog 31 #[.slice ao L.length cap, .slice bo L.length cap'] w fun e w' => e = .returned (.bool true) ∧ Ext w w' := by
  have HH := Lib.hid h; have HH' := Lib.hid h'; have HL := Lib.hid hl
  clear h h' hl
  go_enter Try.func31, Try.ntmps31
  go_wp2
  go_loopw [5] (fun i wr => ∃ k : Nat, k ≤ L.length ∧ i = .int .i64 k ∧ Ext w wr) (fun i _ => L.length - (intOf i).toNat)
  case atStart => exact ⟨0, Nat.zero_le _, rfl, Ext.refl _⟩
  case round =>
    obtain ⟨k, hk, rfl, hx⟩ := hrel
    by_cases hlt : k < L.length
    · obtain ⟨b, off, rfl, hcell⟩ := (HH.out.ext hx).outer (by omega)
      obtain ⟨b', off', rfl, hcell'⟩ := (HH'.out.ext hx).outer (by omega)
      have d0 := hcell k hlt 0 (by decide)
      have d1 := hcell' k hlt 0 (by decide)
      simp only [Nat.mul_one, Nat.add_zero] at d0 d1
      have g0 := Grow.cells d0
      have g1 := Grow.cells d1
      have HE := Lib.hid (fun x : Grow wr => laws_rInts (w := x.w) (xs := nth L k) (ac := (f k).2) (bc := (g k).2) (((HH.out.ext hx).inner k hlt).ext x.h) (((HH'.out.ext hx).inner k hlt).ext x.h) (HL.out k hlt))
      have hk0 : (0 : Int) ≤ (k : Int) := by omega
      have hk1 : (k : Int) < (L.length : Int) := by omega
      have HX := Lib.hid hx
      clear hcell hcell' hx
      go_wp2
      refine wp_region_ext (by kernel_rfl) (by kernel_rfl) ?_
      repeat (go_big_quiet_step ((go_at_call 25; exact Calls.ext_of (HE.out _))))
      refine wpQuiet_nil ?_
      rintro _ ⟨⟨w1, hx1⟩, rfl⟩
      clear g0 g1
      have HX2 := Lib.hid (HX.out.trans hx1)
      clear hx1
      go_wp2
      go_roundw
      case rel => exact ⟨k + 1, by omega, by go_num, HX2.out⟩
      case measure => simp [intOf] <;> omega
    · have hkn : k = L.length := by omega
      have hnk : ¬ (k : Int) < (L.length : Int) := by omega
      go_wp2
      go_ret
      exact ⟨rfl, hx⟩

end Go.Proofs.Ytfnjoinkfghalaa
