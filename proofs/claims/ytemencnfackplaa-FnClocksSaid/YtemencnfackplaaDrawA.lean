/-
  Proved here: what DrawAddMark hands back.
  Conditions: the bytes' length fits an int.
-/
import Derived.Test.YtemencnfackplaaCur4
import Derived.Deep.RegionWith
import Derived.Deep.DeepCutAuto
namespace Go.Proofs.Ytemencnfackplaa
open Go.RowKit

/-- what has been drawn: the result's cells, marks, a mark in its box, the cursor -/
structure StA (w wr : World) (n X B1 : Nat) (ms : List Mark) (mo : Option Addr) (s r : Int) : Prop where
  ext : Ext w wr
  r0 : wr.cell? ⟨w.heap.size, 0, none⟩ = some (.int .i64 0)
  r1 : wr.cell? ⟨w.heap.size, 1, none⟩ = some (.int .i64 0)
  rf : ∀ j, wr.frozen? ⟨w.heap.size, j, none⟩ = false
  marks : FreshAt (w.heap.size + 1 + 1) wr mo 2 ms.length (fun k => (nth ms k).c)
  top : ∀ a, mo = some a → a.block < X
  x0 : wr.cell? ⟨X, 0, none⟩ = some (.int .i64 s)
  x1 : wr.cell? ⟨X, 1, none⟩ = some (.int .i64 r)
  xf : ∀ j, wr.frozen? ⟨X, j, none⟩ = false
  hX : w.heap.size + 1 < X
  cur : Cu wr (w.heap.size + 1) n
theorem StA.lt {w wr : World} {n X B1 : Nat} {ms : List Mark} {mo : Option Addr} {s r : Int} (h : StA w wr n X B1 ms mo s r) : X < wr.heap.size := World.block_lt_of_cell? _ _ h.x0
theorem StA.lr {w wr : World} {n X B1 : Nat} {ms : List Mark} {mo : Option Addr} {s r : Int} (h : StA w wr n X B1 ms mo s r) : w.heap.size < wr.heap.size := World.block_lt_of_cell? _ _ h.r0
theorem StA.after {w wr w' : World} {n n' X B1 : Nat} {ms : List Mark} {mo : Option Addr} {s r : Int} (h : StA w wr n X B1 ms mo s r) (hc : Cu w' (w.heap.size + 1) n') (ht : Touch wr w' (Span (w.heap.size + 1) (w.heap.size + 1 + 1))) : StA w w' n' X B1 ms mo s r := by
  have hl := h.lt
  have hlr := h.lr
  have hX := h.hX
  have k : ∀ b o, b < wr.heap.size → b ≠ w.heap.size + 1 → w'.cell? ⟨b, o, none⟩ = wr.cell? ⟨b, o, none⟩ := fun b o hb hne => ht.cell hb (fun hs => by have := hs.1; have := hs.2; omega)
  have f : ∀ b o, b < wr.heap.size → b ≠ w.heap.size + 1 → w'.frozen? ⟨b, o, none⟩ = wr.frozen? ⟨b, o, none⟩ := fun b o hb hne => ht.frozen hb (fun hs => by have := hs.1; have := hs.2; omega)
  exact ⟨Touch.spanExt h.ext ht (by omega), (k _ _ hlr (by omega)).trans h.r0, (k _ _ hlr (by omega)).trans h.r1, fun j => (f _ _ hlr (by omega)).trans (h.rf j), h.marks.touch ht (fun a e hs => by have h1 := (h.marks.base a e).1; have h2 := hs.2; omega), h.top, (k _ _ hl (by omega)).trans h.x0, (k _ _ hl (by omega)).trans h.x1, fun j => (f _ _ hl (by omega)).trans (h.xf j), hX, hc⟩
theorem StA.put {w wr : World} {n X B1 : Nat} {ms : List Mark} {mo : Option Addr} {s r : Int} (h : StA w wr n X B1 ms mo s r) (r' : Int) : StA w (wr.setCell ⟨X, 1, none⟩ (.int .i64 r')) n X B1 ms mo s r' := by
  have hX := h.hX
  have k : ∀ b o, b ≠ X → (wr.setCell ⟨X, 1, none⟩ (.int .i64 r')).cell? ⟨b, o, none⟩ = wr.cell? ⟨b, o, none⟩ := fun b o hne => World.cell?_setCell_other _ _ _ _ (fun e => hne (by injection e with e; exact e.symm))
  refine ⟨h.ext.setCell (by show w.heap.size ≤ X; omega) _, (k _ _ (by omega)).trans h.r0, (k _ _ (by omega)).trans h.r1, fun j => by rw [World.frozen?_setCell]; exact h.rf j, ?_, h.top, (World.cell?_setCell_other _ _ _ _ (fun e => by cases e)).trans h.x0, World.cell?_setCell_same _ _ _ h.x1, fun j => by rw [World.frozen?_setCell]; exact h.xf j, hX, ?_⟩
  · have ht : Touch wr (wr.setCell ⟨X, 1, none⟩ (.int .i64 r')) (Span X (X + 1)) := Touch.set ⟨Nat.le_refl _, Nat.lt_succ_self _⟩
    exact h.marks.touch ht (fun a e hs => by have h1 := h.top a e; have h2 := hs.1; omega)
  · exact h.cur.keep (by simp [World.setCell]) (fun q hq => Below.heap_setCell _ _ _ _ (fun e => by have : q = X := e; omega))

theorem StA.mono {w wr : World} {n n' X B1 : Nat} {ms : List Mark} {mo : Option Addr} {s r : Int} (h : StA w wr n X B1 ms mo s r) (hn : n ≤ n') : StA w wr n' X B1 ms mo s r := ⟨h.ext, h.r0, h.r1, h.rf, h.marks, h.top, h.x0, h.x1, h.xf, h.hX, h.cur.mono hn⟩

set_option maxRecDepth 100000 in
set_option maxHeartbeats 4000000 in
theorem draw_add {w : World} {co : Option Addr} {m cc : Nat} {bs : Nat → Nat} (hr : RowAt w co 1 m (by8 bs)) (hb : ∀ k, bs k < 256) (hm : m ≤ 9223372036854775807) :
    Calls Try.prog 21 #[.slice co m cc] w fun e w' => ∃ (b off cap : Nat) (ms : List Mark) (s r : Int), e = .returned (.tuple #[.slice (some ⟨b, off, none⟩) ms.length cap, .agg #[.int .i64 s, .int .i64 r]]) ∧ ms.length ≤ 6 ∧ (ms.length ≤ cap ∧ cap ≤ 9223372036854775807) ∧ I64 s ∧ FreshAt w.heap.size w' (some ⟨b, off, none⟩) 2 ms.length (fun k => (nth ms k).c) ∧ Ext w w' := by
  have hx0 := ((Ext.refl w).alloc (.cells #[.int .i64 0, .int .i64 0] 30))
  have H0 := fun T => cu_box (cc := cc) (T := T) (hr.ext hx0) hb hm
  simp only [World.size_alloc] at H0
  have H := Lib.hid (fun T => cu_marks (H0 T) (by omega))
  have HC0 := Lib.hid (show ∀ o, ((w.alloc (.cells #[.int .i64 0, .int .i64 0] 30)).alloc o).cell? ⟨w.heap.size, 0, none⟩ = some (.int .i64 0) from fun o => ((Ext.refl _).alloc o).cells (by go_simp))
  have HC1 := Lib.hid (show ∀ o, ((w.alloc (.cells #[.int .i64 0, .int .i64 0] 30)).alloc o).cell? ⟨w.heap.size, 1, none⟩ = some (.int .i64 0) from fun o => ((Ext.refl _).alloc o).cells (by go_simp))
  have HCF := Lib.hid (show ∀ o j, ((w.alloc (.cells #[.int .i64 0, .int .i64 0] 30)).alloc o).frozen? ⟨w.heap.size, j, none⟩ = false from fun o j => (((Ext.refl _).alloc o).frozenr _ _ (by simp)).trans (by go_simp))
  have HX0 := Lib.hid hx0
  clear hr hb H0 hx0
  go_enter Try.func21, Try.ntmps21
  go_wp2_with fail
  refine (H.out _).mono ?_; rintro e w1 ⟨mo, mcap, ms, rfl, hml, _, hF, hcap, hc, ht⟩
  simp only [World.size_alloc] at hF
  have hlow := ht.size
  simp only [World.size_alloc] at hlow
  have nf : ∀ b, b < w.heap.size + 1 → ¬ Span (w.heap.size + 1) (w.heap.size + 1 + 1) b := fun b hb hs => by have := hs.1; omega
  have c0 := (ht.cell (b := w.heap.size) (o := 0) (by simp; omega) (nf _ (by omega))).trans (HC0.out _)
  have c1 := (ht.cell (b := w.heap.size) (o := 1) (by simp; omega) (nf _ (by omega))).trans (HC1.out _)
  have cf := fun j => (ht.frozen (b := w.heap.size) (o := j) (by simp; omega) (nf _ (by omega))).trans (HCF.out _ j)
  have hx1 : Ext w w1 := Touch.spanExt (HX0.out.alloc _) ht (by omega)
  have HS := Lib.hid (cu_shown hc (by omega))
  obtain ⟨mb, moff, rfl⟩ : ∃ b off, mo = some ⟨b, off, none⟩ := by
    rcases hcap.2.2 with h | ⟨b, h⟩
    · obtain ⟨b, off, e, _⟩ := hF.row h
      exact ⟨b, off, e⟩
    · exact ⟨b, 0, h⟩
  have HF1 := Lib.hid hF; have HC := Lib.hid hcap; have HX1 := Lib.hid hx1; have H0 := Lib.hid c0; have H1 := Lib.hid c1; have HFZ := Lib.hid cf
  clear hF hcap hc ht c0 c1 cf hx1 H HX0 HC0 HC1 HCF nf
  go_wp2_with fail
  refine HS.out.mono ?_; rintro e w2 ⟨s, rfl, hs, hc, ht⟩
  have hlow2 := ht.size
  have hst : StA w (w2.alloc (.cells #[.int .i64 s, .int .i64 0] 30)) (0 + 40 + 1) w2.heap.size 0 ms (some ⟨mb, moff, none⟩) s 0 := by
    have nf : ¬ Span (w.heap.size + 1) (w.heap.size + 1 + 1) w.heap.size := fun hs => by have := hs.1; omega
    have hxa := (Ext.refl w2).alloc (.cells #[.int .i64 s, .int .i64 0] 30)
    refine ⟨(Touch.spanExt HX1.out ht (by omega)).alloc _, hxa.cells ((ht.cell (by omega) nf).trans H0.out), hxa.cells ((ht.cell (by omega) nf).trans H1.out), fun j => (hxa.frozenr _ _ (by omega)).trans ((ht.frozen (by omega) nf).trans (HFZ.out j)), ?_, fun a e => ?_, by go_simp, by go_simp, fun j => by go_simp, by omega, hc.ext hxa⟩
    · exact (HF1.out.touch ht (fun a e hs => by have h1 := (HF1.out.base a e).1; have h2 := hs.2; omega)).ext hxa
    · have h1 := (HF1.out.base a e).2; omega
  have HST := Lib.hid hst
  have hs0 := hs.1; have hs1 := hs.2
  clear hc ht hst HS HX1 H0 H1 HFZ HF1 hs
  go_upto_region 4 with fail
  generalize w2.alloc (.cells #[.int .i64 s, .int .i64 0] 30) = wx at HST ⊢
  generalize w2.heap.size = X at HST hlow2 ⊢
  go_cut [] (fun wc => ∃ r : Int, StA w wc 60 X 0 ms (some ⟨mb, moff, none⟩) s r)
  case first =>
    have hst := HST.out
    have x0 := hst.x0; have xl := hst.lt; have hwX := hst.hX
    have HA := Lib.hid (fun T y hx => cu_litx (T := T) (x := y) (cs := #[.int .i64 0, .int .i64 2, .int .i64 20, .int .i64 (-3)]) [0, 2, 20, -3] (-3) 20 hst.cur (by omega) rfl (by decide) (by decide) (by decide) hx)
    clear hst
    go_wp2
    go_region_with (trace_state; go_at_call 39; with_reducible refine Calls.mono (HA.out _ _ (Ext.drew (Ext.refl _))) ?_; rintro e w3 ⟨v, rfl, hv, hc, ht⟩; have hst := HST.out.after hc ht; have x0 := hst.x0; have x1 := hst.x1; have xf := hst.xf 1; have xl := hst.lt; have H3 := Lib.hid hst; clear hst hc ht)
    all_goals
      go_wp2_with fail
      go_meet
      exact ⟨_, (H3.out.put _).mono (by omega)⟩
  case rest =>
    obtain ⟨r, hst⟩ := hcut
    have x0 := hst.x0; have x1 := hst.x1; have xl := hst.lt; have r0 := hst.r0; have r1 := hst.r1; have rf0 := hst.rf 0; have rf1 := hst.rf 1
    have HS := Lib.hid hst
    have rl := hst.lr
    clear hst HST
    go_wp2
    go_region
    all_goals
      go_wp2
      refine bodyPost_ret (v := .tuple #[.slice (some ⟨mb, moff, none⟩) ms.length mcap, .agg #[.int .i64 s, .int .i64 r]]) ?_ rfl ?_
      · simp [results, Try.results21, go_sem, cell_put, r0, r1]
      · refine ⟨mb, moff, mcap, ms, s, r, rfl, hml, ⟨HC.out.1, HC.out.2.1⟩, ⟨by omega, by omega⟩, ?_, ?_⟩
        · have hp : ∀ j, (⟨w.heap.size, j, none⟩ : Addr).block < w.heap.size + 1 + 1 := fun j => by simp; omega
          exact FreshAt.mono (B0 := w.heap.size + 1 + 1) (B1 := w.heap.size) (((HS.out.marks.setCell (hp 0) _).setCell (hp 1) _).ext (Ext.drew (Ext.refl _))) (by omega)
        · have hp : ∀ j, w.heap.size ≤ (⟨w.heap.size, j, none⟩ : Addr).block := fun j => Nat.le_refl _
          exact ((HS.out.ext.setCell (hp 0) _).setCell (hp 1) _).drew

end Go.Proofs.Ytemencnfackplaa
