/-
  Proved here: what the draws of cards and codes hand back.
  Conditions: the bytes' length fits an int.
-/
import Derived.Test.YtfbmablfolknpaaCur6
namespace Go.Proofs.Ytfbmablfolknpaa
open Go.RowKit

/-- four cells of a block, stored -/
abbrev put4 (w : World) (B : Nat) (u0 u1 u2 u3 : Value) : World := (((w.setCell ⟨B, 0, none⟩ u0).setCell ⟨B, 1, none⟩ u1).setCell ⟨B, 2, none⟩ u2).setCell ⟨B, 3, none⟩ u3
theorem Ext.put4 {a w : World} (h : Ext a w) {B : Nat} (hB : a.heap.size ≤ B) (u0 u1 u2 u3 : Value) : Ext a (put4 w B u0 u1 u2 u3) :=
  Ext.setCell (p := ⟨B, 3, none⟩) (Ext.setCell (p := ⟨B, 2, none⟩) (Ext.setCell (p := ⟨B, 1, none⟩) (Ext.setCell (p := ⟨B, 0, none⟩) h hB u0) hB u1) hB u2) hB u3
theorem FreshAt.put4 {B0 B : Nat} {w : World} {ao : Option Addr} {s n : Nat} {c : Nat → Nat → Value} (h : FreshAt B0 w ao s n c) (hB : B < B0) (u0 u1 u2 u3 : Value) : FreshAt B0 (put4 w B u0 u1 u2 u3) ao s n c :=
  (((h.setCell (p := ⟨B, 0, none⟩) hB u0).setCell (p := ⟨B, 1, none⟩) hB u1).setCell (p := ⟨B, 2, none⟩) hB u2).setCell (p := ⟨B, 3, none⟩) hB u3

/-- a drawn card, in new memory -/
def DrawnCard (B0 : Nat) (w' : World) (c : CardD) (b off gc : Nat) : Prop := c.ps.length ≤ 12 ∧ crdOk c ∧ c.ps.length ≤ gc ∧ gc ≤ 9223372036854775807 ∧ FreshAt B0 w' (some ⟨b, off, none⟩) 2 c.ps.length (fun k => (nth c.ps k).c)
theorem DrawnCard.ext {B0 : Nat} {w' w'' : World} {c : CardD} {b off gc : Nat} (h : DrawnCard B0 w' c b off gc) (hx : Ext w' w'') : DrawnCard B0 w'' c b off gc := ⟨h.1, h.2.1, h.2.2.1, h.2.2.2.1, h.2.2.2.2.ext hx⟩
theorem DrawnCard.put4 {B0 B : Nat} {w : World} {c : CardD} {b off gc : Nat} (h : DrawnCard B0 w c b off gc) (hB : B < B0) (u0 u1 u2 u3 : Value) : DrawnCard B0 (put4 w B u0 u1 u2 u3) c b off gc := ⟨h.1, h.2.1, h.2.2.1, h.2.2.2.1, h.2.2.2.2.put4 hB u0 u1 u2 u3⟩
theorem DrawnCard.mono {B0 B1 : Nat} {w : World} {c : CardD} {b off gc : Nat} (h : DrawnCard B0 w c b off gc) (hB : B1 ≤ B0) : DrawnCard B1 w c b off gc := ⟨h.1, h.2.1, h.2.2.1, h.2.2.2.1, h.2.2.2.2.mono hB⟩
/-- drawn codes, in new memory -/
def DrawnInts (B0 : Nat) (w' : World) (cs : List Int) (ao : Option Addr) (gc : Nat) : Prop := cs.length ≤ 14 ∧ cs.length ≤ gc ∧ gc ≤ 9223372036854775807 ∧ FreshAt B0 w' ao 1 cs.length (ic cs)
theorem DrawnInts.ext {B0 : Nat} {w' w'' : World} {cs : List Int} {ao : Option Addr} {gc : Nat} (h : DrawnInts B0 w' cs ao gc) (hx : Ext w' w'') : DrawnInts B0 w'' cs ao gc := ⟨h.1, h.2.1, h.2.2.1, h.2.2.2.ext hx⟩
theorem DrawnInts.put4 {B0 B : Nat} {w : World} {cs : List Int} {ao : Option Addr} {gc : Nat} (h : DrawnInts B0 w cs ao gc) (hB : B < B0) (u0 u1 u2 u3 : Value) : DrawnInts B0 (put4 w B u0 u1 u2 u3) cs ao gc := ⟨h.1, h.2.1, h.2.2.1, h.2.2.2.put4 hB u0 u1 u2 u3⟩
theorem DrawnInts.mono {B0 B1 : Nat} {w : World} {cs : List Int} {ao : Option Addr} {gc : Nat} (h : DrawnInts B0 w cs ao gc) (hB : B1 ≤ B0) : DrawnInts B1 w cs ao gc := ⟨h.1, h.2.1, h.2.2.1, h.2.2.2.mono hB⟩
/-- the cursor's calls leave newer and older rows as they were -/
theorem FreshAt.curs {B0 B : Nat} {w w' : World} {ao : Option Addr} {s n : Nat} {c : Nat → Nat → Value} (h : FreshAt B0 w ao s n c) (ht : Touch w w' (Span B (B + 1))) (hB : B < B0) : FreshAt B0 w' ao s n c :=
  h.touch ht (fun a e hs => by have h1 := (h.base a e).1; have h2 := hs.2; omega)
theorem Res4.curs {w w' : World} {B R : Nat} (h : Res4 w R) (ht : Touch w w' (Span B (B + 1))) (hB : R < B) : Res4 w' R :=
  h.of_cells (fun o => ht.cell h.lt (fun hs => by have := hs.1; omega)) (fun o => ht.frozen h.lt (fun hs => by have := hs.1; omega))

end Go.Proofs.Ytfbmablfolknpaa
