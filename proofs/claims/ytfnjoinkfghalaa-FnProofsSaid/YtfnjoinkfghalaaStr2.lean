/-
  Proved here: what slices.MinFunc returns at proofs, whatever the order.
  Conditions: the order leaves what was there as it was; there is a proof; the number of proofs fits an int.
-/
import Derived.Test.YtfnjoinkfghalaaIdxProof
import Derived.Test.YtfnjoinkfghalaaStr0
namespace Go.Proofs.Ytfnjoinkfghalaa
open Go.RowKit

/-- a cell block that holds a proof -/
structure BoxP (w : World) (B : Nat) (x : Prf) : Prop where
  c0 : w.cell? ⟨B, 0, none⟩ = some (.int .i64 x.runner)
  c1 : w.cell? ⟨B, 1, none⟩ = some (.int .i64 x.code)
  c2 : w.cell? ⟨B, 2, none⟩ = some (.int .i64 x.kind)
  c3 : w.cell? ⟨B, 3, none⟩ = some (.int .i64 x.weight)
  c4 : w.cell? ⟨B, 4, none⟩ = some (.bool x.against)
  fr : ∀ j, w.frozen? ⟨B, j, none⟩ = false
  lt : B < w.heap.size
theorem BoxP.ext {w w' : World} {B : Nat} {x : Prf} (h : BoxP w B x) (hx : Ext w w') : BoxP w' B x where
  c0 := hx.cells h.c0
  c1 := hx.cells h.c1
  c2 := hx.cells h.c2
  c3 := hx.cells h.c3
  c4 := hx.cells h.c4
  fr := fun j => (hx.frozenr B j h.lt).trans (h.fr j)
  lt := Nat.lt_of_lt_of_le h.lt hx.size

/-- five cells of a block, stored -/
abbrev put5 (w : World) (B : Nat) (u0 u1 u2 u3 u4 : Value) : World := ((((w.setCell ⟨B, 0, none⟩ u0).setCell ⟨B, 1, none⟩ u1).setCell ⟨B, 2, none⟩ u2).setCell ⟨B, 3, none⟩ u3).setCell ⟨B, 4, none⟩ u4
theorem Ext.put5 {a w : World} (h : Ext a w) {B : Nat} (hB : a.heap.size ≤ B) (u0 u1 u2 u3 u4 : Value) : Ext a (put5 w B u0 u1 u2 u3 u4) :=
  Ext.setCell (p := ⟨B, 4, none⟩) (Ext.setCell (p := ⟨B, 3, none⟩) (Ext.setCell (p := ⟨B, 2, none⟩) (Ext.setCell (p := ⟨B, 1, none⟩) (Ext.setCell (p := ⟨B, 0, none⟩) h hB u0) hB u1) hB u2) hB u3) hB u4
theorem set_at {w : World} {B o : Nat} {u v : Value} (h : w.cell? ⟨B, o, none⟩ = some v) : (w.setCell ⟨B, o, none⟩ u).cell? ⟨B, o, none⟩ = some u := World.cell?_setCell_same _ _ _ h
theorem set_ne {w : World} {B o o' : Nat} {u : Value} (h : o ≠ o') : (w.setCell ⟨B, o, none⟩ u).cell? ⟨B, o', none⟩ = w.cell? ⟨B, o', none⟩ := World.cell?_setCell_other _ _ _ _ (fun e => h (by injection e))
theorem BoxP.put5 {w : World} {B : Nat} {m x : Prf} (h : BoxP w B m) : BoxP (put5 w B (.int .i64 x.runner) (.int .i64 x.code) (.int .i64 x.kind) (.int .i64 x.weight) (.bool x.against)) B x where
  c0 := by rw [set_ne (by decide), set_ne (by decide), set_ne (by decide), set_ne (by decide)]; exact set_at h.c0
  c1 := by rw [set_ne (by decide), set_ne (by decide), set_ne (by decide)]; exact set_at (by rw [set_ne (by decide)]; exact h.c1)
  c2 := by rw [set_ne (by decide), set_ne (by decide)]; exact set_at (by rw [set_ne (by decide), set_ne (by decide)]; exact h.c2)
  c3 := by rw [set_ne (by decide)]; exact set_at (by rw [set_ne (by decide), set_ne (by decide), set_ne (by decide)]; exact h.c3)
  c4 := set_at (by rw [set_ne (by decide), set_ne (by decide), set_ne (by decide), set_ne (by decide)]; exact h.c4)
  fr := fun j => by simp only [World.frozen?_setCell]; exact h.fr j
  lt := by simpa [World.setCell] using h.lt

set_option maxRecDepth 100000 in
set_option maxHeartbeats 2000000 in
theorem minFunc_Proof {ao : Option Addr} {cap : Nat} {xs : List Prf} {F : FuncId} {o : Prf → Prf → Int} {w : World} (h : RowAt w ao 5 xs.length (fun k => (nth xs k).c)) (hn : xs.length ≤ 9223372036854775807) (h1 : 0 < xs.length) (hE : EntersF Try.prog F)
    (hl : ∀ a b, decide (o a b < 0) = lessP a b)
    (hp : ∀ (r c k t : Int) (g : Bool) (r' c' k' t' : Int) (g' : Bool) (w' : World), Calls Try.prog F #[.agg #[.int .i64 r, .int .i64 c, .int .i64 k, .int .i64 t, .bool g], .agg #[.int .i64 r', .int .i64 c', .int .i64 k', .int .i64 t', .bool g']] w' fun e w'' => e = .returned (.int .i64 (o ⟨r, c, k, t, g⟩ ⟨r', c', k', t', g'⟩)) ∧ Ext w' w'') :
    Calls Try.prog 72 #[.slice ao xs.length cap, .func (.func F) #[] #[]] w fun e w' => e = .returned (minU xs xs.length).val ∧ Ext w w' := by
  have HE : Hid (EntersF Try.prog F) := hE
  clear hE
  have HP := Lib.hid hp; clear hp
  have HL := Lib.hid hl; clear hl
  obtain ⟨b, off, rfl, hcell⟩ := h h1
  go_enter Try.func72, Try.ntmps72
  have q0 := hcell 0 h1 0 (by decide)
  have q1 := hcell 0 h1 1 (by decide)
  have q2 := hcell 0 h1 2 (by decide)
  have q3 := hcell 0 h1 3 (by decide)
  have q4 := hcell 0 h1 4 (by decide)
  simp only [Prf.c0, Prf.c1, Prf.c2, Prf.c3, Prf.c4, Nat.zero_mul, Nat.add_zero] at q0 q1 q2 q3 q4
  have hb := World.block_lt_of_cell? _ _ q0
  go_wp2
  go_loopw [6] (fun i wr => ∃ k : Nat, 1 ≤ k ∧ k ≤ xs.length ∧ i = .int .i64 k ∧ Ext (w.alloc (Obj.cells #[Value.int .i64 0, Value.int .i64 0, Value.int .i64 0, Value.int .i64 0, Value.bool false] 45)) wr ∧ BoxP wr (w.heap.size + 1) (minU xs k)) (fun i _ => xs.length - (intOf i).toNat)
  case atStart =>
    refine ⟨1, Nat.le_refl _, h1, rfl, (by repeat (first | (with_reducible exact Ext.refl _) | (with_reducible assumption) | with_reducible refine Ext.drew ?_ | with_reducible refine Ext.alloc ?_ _ | with_reducible refine Ext.setCell ?_ (by first | (simp; done) | (simp; omega) | omega) _ | with_reducible refine Ext.trans ?_ (by with_reducible assumption))), ?_⟩
    have e : minU xs 1 = nth xs 0 := by
      rw [minU]
      split <;> rfl
    rw [e]
    exact ⟨by go_simp, by go_simp, by go_simp, by go_simp, by go_simp, fun j => by go_simp, by simp⟩
  case round =>
    obtain ⟨k, hk1, hk, rfl, hx, hbox⟩ := hrel
    have hw0 : Ext w (w.alloc (Obj.cells #[Value.int .i64 0, Value.int .i64 0, Value.int .i64 0, Value.int .i64 0, Value.bool false] 45)) := (Ext.refl _).alloc _
    obtain ⟨m, hM⟩ : ∃ m, m = minU xs k := ⟨_, rfl⟩
    rw [← hM] at hbox
    have HM := Lib.hid hM; clear hM
    have hbl : b < wr.heap.size := Nat.lt_of_lt_of_le hb (hw0.trans hx).size
    have p0 := hbox.c0
    have p1 := hbox.c1
    have p2 := hbox.c2
    have p3 := hbox.c3
    have p4 := hbox.c4
    have pf := hbox.fr
    have plt := hbox.lt
    have plt0 : w.heap.size < wr.heap.size := by omega
    have z0 : wr.cell? ⟨w.heap.size, 0, none⟩ = some (.int .i64 0) := hx.cells (by go_simp)
    have z1 : wr.cell? ⟨w.heap.size, 1, none⟩ = some (.int .i64 0) := hx.cells (by go_simp)
    have z2 : wr.cell? ⟨w.heap.size, 2, none⟩ = some (.int .i64 0) := hx.cells (by go_simp)
    have z3 : wr.cell? ⟨w.heap.size, 3, none⟩ = some (.int .i64 0) := hx.cells (by go_simp)
    have z4 : wr.cell? ⟨w.heap.size, 4, none⟩ = some (.bool false) := hx.cells (by go_simp)
    have zf : ∀ j, wr.frozen? ⟨w.heap.size, j, none⟩ = false := fun j => (hx.frozenr _ _ (by simp)).trans (by go_simp)
    by_cases hlt : k < xs.length
    · have d0 := (hw0.trans hx).cells (hcell k hlt 0 (by decide))
      have d1 := (hw0.trans hx).cells (hcell k hlt 1 (by decide))
      have d2 := (hw0.trans hx).cells (hcell k hlt 2 (by decide))
      have d3 := (hw0.trans hx).cells (hcell k hlt 3 (by decide))
      have d4 := (hw0.trans hx).cells (hcell k hlt 4 (by decide))
      simp only [Prf.c0, Prf.c1, Prf.c2, Prf.c3, Prf.c4, Nat.add_zero] at d0 d1 d2 d3 d4
      clear hcell h q0 q1 q2 q3 q4
      have hE : ∀ (args : Array Value) (w : World), (callFunc F args).run Try.prog w = .ok (.enter F args) w := HE
      have hlp := HL.out (nth xs k) m
      have hnx : minU xs (k + 1) = if lessP (nth xs k) m then nth xs k else m := by rw [minU, ← HM.out]
      have HN := Lib.hid hnx; clear hnx
      have hki0 : (0 : Int) ≤ (k : Int) := by omega
      have hki1 : (k : Int) < (xs.length : Int) := by omega
      go_wp2
      refine wp_region_ext (by kernel_rfl) (by kernel_rfl) ?_
      have e0 : ∀ x : Grow wr, x.w.cell? ⟨b, off + k * 5, none⟩ = some (.int .i64 (nth xs k).runner) := Grow.cells d0
      have e1 : ∀ x : Grow wr, x.w.cell? ⟨b, off + k * 5 + 1, none⟩ = some (.int .i64 (nth xs k).code) := Grow.cells d1
      have e2 : ∀ x : Grow wr, x.w.cell? ⟨b, off + k * 5 + 2, none⟩ = some (.int .i64 (nth xs k).kind) := Grow.cells d2
      have e3 : ∀ x : Grow wr, x.w.cell? ⟨b, off + k * 5 + 3, none⟩ = some (.int .i64 (nth xs k).weight) := Grow.cells d3
      have e4 : ∀ x : Grow wr, x.w.cell? ⟨b, off + k * 5 + 4, none⟩ = some (.bool (nth xs k).against) := Grow.cells d4
      have i0 : ∀ x : Grow wr, x.w.cell? ⟨w.heap.size + 1, 0, none⟩ = some (.int .i64 m.runner) := Grow.cells p0
      have i1 : ∀ x : Grow wr, x.w.cell? ⟨w.heap.size + 1, 1, none⟩ = some (.int .i64 m.code) := Grow.cells p1
      have i2 : ∀ x : Grow wr, x.w.cell? ⟨w.heap.size + 1, 2, none⟩ = some (.int .i64 m.kind) := Grow.cells p2
      have i3 : ∀ x : Grow wr, x.w.cell? ⟨w.heap.size + 1, 3, none⟩ = some (.int .i64 m.weight) := Grow.cells p3
      have i4 : ∀ x : Grow wr, x.w.cell? ⟨w.heap.size + 1, 4, none⟩ = some (.bool m.against) := Grow.cells p4
      repeat (go_big_quiet_step (exact Calls.ext_of (HP.out _ _ _ _ _ _ _ _ _ _ _)))
      refine wpQuiet_nil ?_
      rintro _ ⟨⟨w1, hx1⟩, rfl⟩
      clear e0 e1 e2 e3 e4 i0 i1 i2 i3 i4
      rename_i w1
      have hxw : Ext w w1 := hw0.trans (hx.trans hx1)
      have hbox1 := hbox.ext hx1
      have d0 := hx1.cells d0
      have d1 := hx1.cells d1
      have d2 := hx1.cells d2
      have d3 := hx1.cells d3
      have d4 := hx1.cells d4
      have p0 := hbox1.c0
      have p1 := hbox1.c1
      have p2 := hbox1.c2
      have p3 := hbox1.c3
      have p4 := hbox1.c4
      have pf := hbox1.fr
      have plt := hbox1.lt
      have hbl : b < w1.heap.size := Nat.lt_of_lt_of_le hbl hx1.size
      have HB1 := Lib.hid hbox1
      have HX := Lib.hid (hx.trans hx1)
      clear hx hx1 hbox hbox1 z0 z1 z2 z3 z4 zf
      cases hB : lessP (nth xs k) m
      · have hlt' : decide (o ⟨(nth xs k).runner, (nth xs k).code, (nth xs k).kind, (nth xs k).weight, (nth xs k).against⟩ ⟨m.runner, m.code, m.kind, m.weight, m.against⟩ < 0) = false := hlp.trans hB
        have hn2 : minU xs (k + 1) = m := by rw [HN.out, hB]; rfl
        have HN2 := Lib.hid hn2; clear hn2 hB hlp HN
        go_wp2
        go_roundw
        case rel => exact ⟨k + 1, by omega, by omega, by go_num, HX.out, by rw [HN2.out]; exact HB1.out⟩
        case measure => simp [intOf]; omega
      · have hlt' : decide (o ⟨(nth xs k).runner, (nth xs k).code, (nth xs k).kind, (nth xs k).weight, (nth xs k).against⟩ ⟨m.runner, m.code, m.kind, m.weight, m.against⟩ < 0) = true := hlp.trans hB
        have hn2 : minU xs (k + 1) = nth xs k := by rw [HN.out, hB]; rfl
        have HN2 := Lib.hid hn2; clear hn2 hB hlp HN
        go_wp2
        go_roundw
        case rel => exact ⟨k + 1, by omega, by omega, by go_num, HX.out.put5 (by simp) _ _ _ _ _, by rw [HN2.out]; exact HB1.out.put5⟩
        case measure => simp [intOf]; omega
    · have hkn : k = xs.length := by omega
      subst hkn
      have HBX := Lib.hid hbox
      have HX := Lib.hid hx
      clear hx hbox hcell h
      go_wp2
      refine bodyPost_ret (v := .agg #[.int .i64 m.runner, .int .i64 m.code, .int .i64 m.kind, .int .i64 m.weight, .bool m.against]) ?_ rfl ?_
      · simp [results, Try.results72, go_sem, cell_put, z0, z1, z2, z3, z4]
      · exact ⟨by rw [← HM.out]; rfl, (hw0.trans HX.out).put5 (Nat.le_refl _) _ _ _ _ _⟩

end Go.Proofs.Ytfnjoinkfghalaa
