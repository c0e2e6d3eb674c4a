/-
  Proved here (plain lists): fees; what is due for an entry, what is open, a club's bill; all clubs' bills together.
  Conditions: none beyond those in each statement.
-/
import Derived.Test.YtkejhhflpnfepaaFee1
import Derived.Test.YtkejhhflpnfepaaEntPl
namespace Go.Proofs.Ytkejhhflpnfepaa
open Go.RowKit

structure Fee where
  adult : Int
  child : Int
  rent : Int
  late : Int
def feeB (f : Fee) : Bool := inB f.adult 0 20000 && inB f.child 0 20000 && inB f.rent 0 20000 && inB f.late 0 100
structure FeeOk (f : Fee) : Prop where
  a : 0 ≤ f.adult ∧ f.adult ≤ 20000
  c : 0 ≤ f.child ∧ f.child ≤ 20000
  r : 0 ≤ f.rent ∧ f.rent ≤ 20000
  l : 0 ≤ f.late ∧ f.late ≤ 100
theorem feeB_ok {f : Fee} (h : feeB f = true) : FeeOk f := by
  unfold feeB at h
  simp only [Bool.and_eq_true, inB_iff] at h
  exact ⟨h.1.1.1, h.1.1.2, h.1.2, h.2⟩
def baseV (f : Fee) (r : Rnr) : Int := if 2026 - r.born < 18 then f.child else f.adult
def lateV (f : Fee) (b d : Int) : Int := if 300 ≤ d then b + (b * f.late + 99) / 100 else b
/-- what is due for an entry of a runner -/
def dueV (f : Fee) (r : Rnr) (x : Ent) : Int := lateV f (baseV f r) x.day + (if x.rent then f.rent else 0)
theorem baseV_bd {f : Fee} (h : FeeOk f) (r : Rnr) : 0 ≤ baseV f r ∧ baseV f r ≤ 20000 := by
  unfold baseV; have := h.a; have := h.c; split <;> omega
theorem prod_bd {b l : Int} (hb : 0 ≤ b ∧ b ≤ 20000) (hl : 0 ≤ l ∧ l ≤ 100) : 0 ≤ b * l ∧ b * l ≤ 2000000 := by
  refine ⟨Int.mul_nonneg hb.1 hl.1, ?_⟩
  have h := Int.mul_le_mul hb.2 hl.2 hl.1 (by decide : (0 : Int) ≤ 20000)
  omega
theorem lateV_bd {f : Fee} (h : FeeOk f) {b d : Int} (hb : 0 ≤ b ∧ b ≤ 20000) : b ≤ lateV f b d ∧ lateV f b d ≤ 40000 := by
  have hp := prod_bd hb h.l
  unfold lateV; split <;> omega
theorem lateV_end {f : Fee} (h : FeeOk f) {b d : Int} (hb : 0 ≤ b ∧ b ≤ 20000) : lateV f b d ≤ lateV f b 365 := by
  have hp := prod_bd hb h.l
  unfold lateV; split <;> simp <;> omega
theorem dueV_bd {f : Fee} (h : FeeOk f) (r : Rnr) (x : Ent) : 0 ≤ dueV f r x ∧ dueV f r x ≤ 60000 := by
  have h1 := lateV_bd (d := x.day) h (baseV_bd h r)
  have h2 := baseV_bd h r
  have h3 := h.r
  unfold dueV; split <;> omega
theorem dueV_late {f : Fee} (h : FeeOk f) (r : Rnr) {a c d : Int} {g : Bool} {p : Int} : dueV f r ⟨a, c, d, g, p⟩ ≤ dueV f r ⟨a, c, 365, g, p⟩ := by
  have h1 := lateV_end (d := d) h (baseV_bd h r)
  unfold dueV; simp only; omega
theorem late_eq {b l : Int} : (b * (100 + l) + 99) / 100 = b + (b * l + 99) / 100 := by
  rw [Int.mul_add]; omega

/-- the runner of an entry -/
def rnE (xs : List Rnr) (e : Int) : Rnr := nth xs (rnIx xs xs.length e).toNat
def dueE (f : Fee) (xs : List Rnr) (x : Ent) : Int := if rnIx xs xs.length x.runner < 0 then 0 else dueV f (rnE xs x.runner) x
theorem dueE_no {f : Fee} {xs : List Rnr} {x : Ent} (h : rnIx xs xs.length x.runner < 0) : dueE f xs x = 0 := by unfold dueE; rw [if_pos h]
theorem dueE_at {f : Fee} {xs : List Rnr} {x : Ent} {k : Nat} (h : rnIx xs xs.length x.runner = (k : Int)) : dueE f xs x = dueV f (nth xs k) x := by
  unfold dueE rnE; rw [h, if_neg (by omega)]; rfl
theorem rnIx_cases (xs : List Rnr) (n : Nat) (e : Int) : rnIx xs n e = -1 ∨ ∃ k, k < n ∧ rnIx xs n e = (k : Int) := by
  rcases idxU_cases (fun k => (nth xs k).id == e) n with ⟨h, -⟩ | ⟨k, hk, h, -, -⟩
  · exact Or.inl h
  · exact Or.inr ⟨k, hk, h⟩
def hasR (xs : List Rnr) (e : Int) : Bool := decide (0 ≤ rnIx xs xs.length e)

/-- what is open for each of the first n entries -/
def opV (f : Fee) (xs : List Rnr) (x : Ent) : Int := dueE f xs x - x.paid
def opL (f : Fee) (xs : List Rnr) (es : List Ent) : List Int := es.map (opV f xs)
def allR (xs : List Rnr) (es : List Ent) : Bool := upto (fun k => hasR xs (nth es k).runner) es.length
def opOk (f : Fee) (xs : List Rnr) (es : List Ent) : Bool := feeB f && rnsB xs && entsB es && allR xs es
theorem opL_len (f : Fee) (xs : List Rnr) (es : List Ent) : (opL f xs es).length = es.length := by simp [opL]
theorem opL_nth (f : Fee) (xs : List Rnr) (es : List Ent) {k : Nat} (h : k < es.length) : nth (opL f xs es) k = opV f xs (nth es k) := by
  simp [nth, opL, List.getD, List.getElem?_map, List.getElem?_eq_getElem h]
theorem opL_succ (f : Fee) (xs : List Rnr) (es : List Ent) {k : Nat} (h : k < es.length) : opL f xs (es.take (k + 1)) = opL f xs (es.take k) ++ [opV f xs (nth es k)] := by
  simp only [opL]
  rw [List.take_add_one, List.map_append, List.getElem?_eq_getElem h]
  simp [nth, List.getD, List.getElem?_eq_getElem h]
theorem opV_bd {f : Fee} (h : FeeOk f) (xs : List Rnr) {x : Ent} (hx : EntOk x) : -100000 ≤ opV f xs x ∧ opV f xs x ≤ 60000 := by
  have h1 := hx.p
  unfold opV dueE
  split
  · omega
  · have := dueV_bd h (rnE xs x.runner) x; omega

def clubE (xs : List Rnr) (x : Ent) : ByteArray := (rnE xs x.runner).club
/-- what the first n entries of a club owe -/
def billU (f : Fee) (xs : List Rnr) (es : List Ent) (c : ByteArray) : Nat → Int
  | 0 => 0
  | n + 1 => billU f xs es c n + (if (clubE xs (nth es n)).toList == c.toList then opV f xs (nth es n) else 0)
theorem billU_bd {f : Fee} (h : FeeOk f) (xs : List Rnr) {es : List Ent} (c : ByteArray) : ∀ n, (∀ k, k < n → EntOk (nth es k)) → -100000 * (n : Int) ≤ billU f xs es c n ∧ billU f xs es c n ≤ 60000 * (n : Int)
  | 0, _ => by simp [billU]
  | n + 1, hn => by
    have h1 := billU_bd h xs c n (fun k hk => hn k (by omega))
    have h2 := opV_bd h xs (hn n (by omega))
    unfold billU
    split <;> omega

/-- sums over a list of clubs -/
def sumF (g : ByteArray → Int) : List ByteArray → Int
  | [] => 0
  | c :: cs => g c + sumF g cs
theorem sumF_add (g h : ByteArray → Int) : ∀ cs, sumF (fun c => g c + h c) cs = sumF g cs + sumF h cs
  | [] => rfl
  | c :: cs => by simp only [sumF]; rw [sumF_add g h cs]; omega
theorem sumF_zero : ∀ cs, sumF (fun _ => 0) cs = 0
  | [] => rfl
  | c :: cs => by simp only [sumF]; rw [sumF_zero cs]; omega
theorem sumF_none (t : List UInt8) (v : Int) : ∀ cs : List ByteArray, (∀ c ∈ cs, t ≠ c.toList) → sumF (fun c => if t == c.toList then v else 0) cs = 0
  | [], _ => rfl
  | c :: cs, h => by
    simp only [sumF]
    rw [sumF_none t v cs (fun d hd => h d (by simp [hd]))]
    have h1 := h c (by simp)
    simp [h1]
theorem sumF_one (t : List UInt8) (v : Int) : ∀ cs : List ByteArray, (cs.map ByteArray.toList).Nodup → (∃ c ∈ cs, t = c.toList) → sumF (fun c => if t == c.toList then v else 0) cs = v
  | [], _, h => by obtain ⟨c, hc, -⟩ := h; cases hc
  | c :: cs, hn, h => by
    rw [List.map_cons, List.nodup_cons] at hn
    simp only [sumF]
    by_cases e : t = c.toList
    · rw [sumF_none t v cs (fun d hd hd2 => hn.1 (by rw [← e, hd2]; exact List.mem_map.2 ⟨d, hd, rfl⟩))]
      simp [e]
    · rw [sumF_one t v cs hn.2 (by
        obtain ⟨d, hd, h2⟩ := h
        rcases List.mem_cons.1 hd with rfl | h3
        · exact absurd h2 e
        · exact ⟨d, h3, h2⟩)]
      simp [e]
def openU (f : Fee) (xs : List Rnr) (es : List Ent) : Nat → Int
  | 0 => 0
  | n + 1 => openU f xs es n + opV f xs (nth es n)
/-- all clubs together owe all that is open -/
theorem bills_all (f : Fee) (xs : List Rnr) (es : List Ent) {cs : List ByteArray} (hn : (cs.map ByteArray.toList).Nodup) : ∀ n, (∀ k, k < n → ∃ c ∈ cs, (clubE xs (nth es k)).toList = c.toList) → sumF (fun c => billU f xs es c n) cs = openU f xs es n
  | 0, _ => sumF_zero cs
  | n + 1, h => by
    show sumF (fun c => billU f xs es c n + (if (clubE xs (nth es n)).toList == c.toList then opV f xs (nth es n) else 0)) cs = openU f xs es n + opV f xs (nth es n)
    rw [sumF_add, bills_all f xs es hn n (fun k hk => h k (by omega)), sumF_one _ _ cs hn (h n (by omega))]
theorem openU_sum (f : Fee) (xs : List Rnr) (es : List Ent) : ∀ n, n ≤ es.length → openU f xs es n = ((opL f xs es).take n).sum
  | 0, _ => rfl
  | n + 1, h => by
    show openU f xs es n + opV f xs (nth es n) = _
    rw [openU_sum f xs es n (by omega), List.take_add_one, List.getElem?_eq_getElem (by rw [opL_len]; omega)]
    simp [opL, nth, List.getD, List.getElem?_eq_getElem (show n < es.length by omega)]

end Go.Proofs.Ytkejhhflpnfepaa
