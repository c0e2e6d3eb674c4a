/-
  Proved here: what clubsOf and ClubsOf return: every club once.
  Conditions: at most 10 runners; names are no longer than a string may be.
-/
import Derived.Test.YtkejhhflpnfepaaFeePl
import Derived.Test.YtkejhhflpnfepaaFee2
import Derived.Test.YtkejhhflpnfepaaSortT
import Derived.Test.YtkejhhflpnfepaaCompT
import Derived.Test.YtkejhhflpnfepaaBx
namespace Go.Proofs.Ytkejhhflpnfepaa
open Go.RowKit

theorem srt_le {d : List ByteArray} {n p q : Nat} (h : SortedTo coS d n) (h1 : p < q) (h2 : q < n) : (nth d p).toList ≤ (nth d q).toList := by
  have h3 := h p q h1 h2
  rw [coS_neg] at h3
  exact ltS_no.1 (by simpa using h3)
theorem eqT_iff {a b : ByteArray} : eqT a b = true ↔ a.toList = b.toList := by simp [eqT]
theorem keep_from {d : List ByteArray} : ∀ {n : Nat} {x : ByteArray}, x ∈ keepU eqT d n → ∃ j, j < n ∧ x = nth d j
  | 0, x, h => by cases h
  | n + 1, x, h => by
    cases hb : eqT (nth d n) (nth d (n - 1))
    · rw [keepU_no hb, List.mem_append, List.mem_singleton] at h
      rcases h with h | rfl
      · obtain ⟨j, hj, e⟩ := keep_from h; exact ⟨j, by omega, e⟩
      · exact ⟨n, by omega, rfl⟩
    · by_cases h0 : n = 0
      · subst h0
        rw [keepU, if_neg (by simp)] at h
        simp [keepU] at h
        exact ⟨0, by omega, h⟩
      · rw [keepU_yes h0 hb] at h
        obtain ⟨j, hj, e⟩ := keep_from h; exact ⟨j, by omega, e⟩
theorem keep_has {d : List ByteArray} : ∀ {n j : Nat}, j < n → ∃ x ∈ keepU eqT d n, (nth d j).toList = x.toList
  | 0, j, h => by omega
  | n + 1, j, h => by
    by_cases h0 : n ≠ 0 ∧ eqT (nth d n) (nth d (n - 1)) = true
    · rw [keepU, if_pos h0]
      by_cases e : j = n
      · subst e
        obtain ⟨x, hx, e2⟩ := keep_has (d := d) (n := j) (j := j - 1) (by omega)
        exact ⟨x, hx, (eqT_iff.1 h0.2).trans e2⟩
      · exact keep_has (by omega)
    · rw [keepU, if_neg h0]
      by_cases e : j = n
      · subst e; exact ⟨nth d j, by simp, rfl⟩
      · obtain ⟨x, hx, e2⟩ := keep_has (d := d) (n := n) (j := j) (by omega)
        exact ⟨x, by simp [hx], e2⟩
theorem keep_nodup {d : List ByteArray} {m : Nat} (hs : SortedTo coS d m) : ∀ n, n ≤ m → ((keepU eqT d n).map ByteArray.toList).Nodup
  | 0, _ => by simp [keepU]
  | n + 1, hn => by
    have ih := keep_nodup hs n (by omega)
    by_cases h0 : n ≠ 0 ∧ eqT (nth d n) (nth d (n - 1)) = true
    · rw [keepU, if_pos h0]; exact ih
    · rw [keepU, if_neg h0, List.map_append, List.nodup_append]
      refine ⟨ih, by simp, ?_⟩
      intro a ha b hb e
      simp only [List.map_cons, List.map_nil, List.mem_singleton] at hb
      subst hb
      obtain ⟨x, hx, rfl⟩ := List.mem_map.1 ha
      obtain ⟨j, hj, rfl⟩ := keep_from hx
      refine h0 ⟨by omega, eqT_iff.2 ?_⟩
      by_cases e2 : j = n - 1
      · subst e2; exact e.symm
      · refine List.le_antisymm ?_ (srt_le hs (by omega) (by omega))
        rw [← e]
        exact srt_le hs (by omega) (by omega)

def clubL (xs : List Rnr) : List ByteArray := xs.map (·.club)
theorem clubL_len (xs : List Rnr) : (clubL xs).length = xs.length := by simp [clubL]
theorem clubL_nth {xs : List Rnr} {k : Nat} (h : k < xs.length) : nth (clubL xs) k = (nth xs k).club := by
  simp [nth, clubL, List.getD, List.getElem?_map, List.getElem?_eq_getElem h]
theorem clubL_succ {xs : List Rnr} {k : Nat} (h : k < xs.length) : clubL (xs.take (k + 1)) = clubL (xs.take k) ++ [(nth xs k).club] := by
  simp only [clubL]
  rw [List.take_add_one, List.map_append, List.getElem?_eq_getElem h]
  simp [nth, List.getD, List.getElem?_eq_getElem h]
/-- every club once -/
structure ClubsOk (xs : List Rnr) (E : List ByteArray) : Prop where
  nodup : (E.map ByteArray.toList).Nodup
  has : ∀ k, k < xs.length → ∃ c ∈ E, ((nth xs k).club).toList = c.toList
  src : ∀ c ∈ E, ∃ k, k < xs.length ∧ c = (nth xs k).club
  len : E.length ≤ xs.length
theorem nth_mem_of {d : List ByteArray} {j : Nat} (h : j < d.length) : nth d j ∈ d := by
  simp [nth, List.getD, List.getElem?_eq_getElem h]
theorem mem_nth_of {d : List ByteArray} {x : ByteArray} (h : x ∈ d) : ∃ j, j < d.length ∧ x = nth d j := by
  obtain ⟨j, hj, e⟩ := List.getElem_of_mem h
  exact ⟨j, hj, by simp [nth, List.getD, List.getElem?_eq_getElem hj, e]⟩
theorem ClubsOk.of {xs : List Rnr} {d : List ByteArray} (hd : d.Perm (clubL xs)) (hs : SortedTo coS d xs.length) : ClubsOk xs (keepU eqT d xs.length) := by
  have hl : d.length = xs.length := by rw [hd.length_eq, clubL_len]
  refine ⟨keep_nodup hs _ (Nat.le_refl _), fun k hk => ?_, fun c hc => ?_, keepU_le _ _ _⟩
  · have h1 : (nth xs k).club ∈ d := hd.mem_iff.2 (by rw [← clubL_nth hk]; exact nth_mem_of (by rw [clubL_len]; exact hk))
    obtain ⟨j, hj, e⟩ := mem_nth_of h1
    rw [e]
    exact keep_has (by omega)
  · obtain ⟨j, hj, rfl⟩ := keep_from hc
    have h1 : nth d j ∈ clubL xs := hd.mem_iff.1 (nth_mem_of (by omega))
    obtain ⟨k, hk, e⟩ := mem_nth_of h1
    rw [clubL_len] at hk
    exact ⟨k, hk, by rw [e, clubL_nth hk]⟩

def stc (s : ByteArray) (_ : Nat) : Value := .string s
theorem stc_one : ∀ (x : ByteArray) (j : Nat), j < 1 → (stc x j).oneCell' = true := fun _ _ _ => rfl
theorem own_gS {α : Type} {w : World} {base : Nat} {e : TypeId} {s : Nat} {cc : α → Nat → Value} {v : Value} {xs : List α} (h : Owns w base e s cc v xs) (hl : 0 < xs.length) : ∃ g cap, v = .slice (some ⟨g, 0, none⟩) xs.length cap := by
  have h0 : w.ownsRow base e s v xs.length (fl s cc xs) := h
  rcases h0.2 with ⟨_, h1⟩ | ⟨g, cap, cur, he, _⟩
  · omega
  · exact ⟨g, cap, he⟩
theorem infoStr : (Try.prog.info? 9).map (fun i => (i.zero, i.size, i.bytes)) = some (some (.string ByteArray.empty), 1, 16) := by kernel_rfl

/-- what is handed back: every club once -/
def ResK (xs : List Rnr) (w : World) (e : Ending) (w' : World) : Prop := ∃ g gc E, e = .returned (.slice (some ⟨g, 0, none⟩) E.length gc) ∧ Ext w w' ∧ RowAt w' (some ⟨g, 0, none⟩) 1 E.length (scc E) ∧ ClubsOk xs E

set_option maxRecDepth 100000 in
set_option maxHeartbeats 2000000 in
theorem impl_clubsOf {ao : Option Addr} {cap : Nat} {xs : List Rnr} {w : World} (h : RowAt w ao 6 xs.length (fun k => (nth xs k).c)) (hn : xs.length ≤ 10) :
    Calls Try.prog 63 #[.slice ao xs.length cap] w (ResK xs w) := by
  obtain ⟨i0, hi, hz0, hz1, hz2⟩ := info_parts infoStr
  have HST := Lib.hid (Owns.start (α := ByteArray) (e := 9) (s := 1) (cc := stc) (Ext.refl w))
  have HH := Lib.hid h
  clear h
  go_enter Try.func63, Try.ntmps63
  go_wp2
  go_loopw [3, 9] (fun out i wr => ∃ k g gc : Nat, k ≤ xs.length ∧ i = .int .i64 k ∧ out = .slice (some ⟨g, 0, none⟩) k gc ∧ Ext w wr ∧ Owns wr w.heap.size 9 1 stc (.slice (some ⟨g, 0, none⟩) k gc) (clubL (xs.take k))) (fun _ i _ => xs.length - (intOf i).toNat)
  case atStart => exact ⟨0, w.heap.size, 0, by omega, rfl, rfl, (Ext.refl _).alloc _, HST.out⟩
  case round =>
    obtain ⟨k, g, gc, hk, rfl, rfl, hx, hown⟩ := hrel
    by_cases hlt : k < xs.length
    · obtain ⟨b, off, rfl, hcell⟩ := HH.out (by omega)
      have d0 := hx.cells (hcell k hlt 0 (by decide))
      have d1 := hx.cells (hcell k hlt 1 (by decide))
      have d2 := hx.cells (hcell k hlt 2 (by decide))
      have d3 := hx.cells (hcell k hlt 3 (by decide))
      have d4 := hx.cells (hcell k hlt 4 (by decide))
      have d5 := hx.cells (hcell k hlt 5 (by decide))
      simp only [Rnr.c0, Rnr.c1, Rnr.c2, Rnr.c3, Rnr.c4, Rnr.c5, Nat.add_zero] at d0 d1 d2 d3 d4 d5
      have hlen : (clubL (xs.take k)).length = k := by rw [clubL_len, List.length_take]; omega
      have HNX := Lib.hid (clubL_succ hlt)
      have hrow2 := fun x => row_lit (w := x) (cs := #[.string (nth xs k).club]) (T := 9) (s := 1) (cc := stc) (x := (nth xs k).club) (by intro j hj; obtain rfl : j = 0 := (by omega); rfl)
      obtain ⟨X, hX⟩ : ∃ X, X = clubL (xs.take k) := ⟨_, rfl⟩
      rw [← hX] at hown hlen HNX
      have HLN := Lib.hid hlen
      clear hX hcell HH hlen
      go_wp2_with (at_builtin; refine wpList_append_where rfl _ _ 57 rfl w 9 i0 _ 1 16 Try.underlying57 hi hz0 hz1 hz2 rfl (by decide) stc stc_one _ X [(nth xs k).club] rfl (hown.kept (((Ext.refl _).alloc _).alloc _)) ⟨wr.heap.size + 1, 0, none⟩ 1 1 rfl rfl (by simpa using hrow2 (wr.alloc _)) (by rw [HLN.out]; simp; omega) (by rw [HLN.out]; simp; omega) ((hx.alloc _).alloc _) ?_; intro v1 w3 ho1 hx3 hg3 hv3)
      obtain ⟨g', gc', rfl⟩ := own_gS ho1 (by simp)
      have hl1 : (X ++ [(nth xs k).club]).length = k + 1 := by rw [List.length_append, HLN.out]; rfl
      rw [hl1] at ho1 ⊢
      rw [← HNX.out] at ho1
      have HO1 := Lib.hid ho1; have HX3 := Lib.hid hx3
      clear hg3 hv3 ho1 hx3 hl1 hrow2 hown hx d0 d1 d2 d3 d4 d5
      go_wp2
      go_roundw
      case rel => exact ⟨k + 1, g', gc', by omega, by go_num, rfl, HX3.out, HO1.out⟩
      case measure => simp [intOf]; omega
    · obtain rfl : k = xs.length := by omega
      rw [List.take_length] at hown
      have hcl := clubL_len xs
      obtain ⟨ag, cg, eg, hFg, _, hcg, hcg2⟩ := hown.fresh
      injection eg with e1 e2 e3
      subst e1 e3
      have hgl : g < wr.heap.size := (hFg.base _ rfl).2
      have hgb : w.heap.size ≤ g := (hFg.base _ rfl).1
      have hH0 : HoldsA wr wr g (clubL xs).length Value.string (clubL xs) := ⟨grown_refl _ _, hgl, fun k hk => by
        obtain ⟨b, off, e, H⟩ := hFg.row (by omega)
        injection e with e; injection e with e1 e2; subst e1 e2
        have := H k hk 0 (by decide)
        rw [show 0 + k * 1 + 0 = k by omega] at this
        exact this, fun j => hFg.free g 0 rfl j⟩
      have HS := Lib.hid (sort_T (cap := gc) (by rw [hcl]; omega) hH0)
      rw [hcl] at HS hcg
      have HG := Lib.hid (show ∀ x y, wr.grownBy x (some g) → x.grownBy y (some g) → Ext w y from fun x y h1 h2 => grown_ext (grown_ext hx h1 (fun k e => by injection e with e; omega)) h2 (fun k e => by injection e with e; omega))
      have HN := Lib.hid hn
      clear hown hFg hH0 hgl hgb hx hcl hcg2 HH e2
      go_wp2_with fail
      refine HS.out.mono ?_; rintro e w2 ⟨rfl, d, hd, hs, hH1⟩
      have hdl : d.length = xs.length := by rw [hd.length_eq, clubL_len]
      have hH2 : HoldsA w2 w2 g d.length Value.string d := ⟨grown_refl _ _, hH1.size, by rw [hdl]; exact hH1.cell, hH1.free⟩
      have hcomp := compact_T (cap := gc) (by rw [hdl]; have := HN.out; omega) (by rw [hdl]; exact hcg) hH2
      rw [hdl] at hcomp
      have HC := Lib.hid hcomp
      have HE := Lib.hid (ClubsOk.of hd hs)
      have HG1 := Lib.hid hH1.grown
      generalize keepU eqT d xs.length = E at HC HE
      clear hd hs hH1 hH2 hcomp hdl HS hcg
      go_wp2_with fail
      refine HC.out.mono ?_; rintro e w3 ⟨rfl, hH3⟩
      have HH3 := Lib.hid hH3
      clear hH3 HC
      go_wp2
      go_ret
      refine ⟨g, gc, E, rfl, HG.out _ _ HG1.out HH3.out.grown, fun _ => ⟨g, 0, rfl, fun k hk j hj => ?_⟩, HE.out⟩
      obtain rfl : j = 0 := by omega
      rw [show 0 + k * 1 + 0 = k by omega]
      exact HH3.out.cell k hk

theorem impl_ClubsOf {ao : Option Addr} {cap : Nat} {xs : List Rnr} {w : World} (h : RowAt w ao 6 xs.length (fun k => (nth xs k).c)) (hs : ∀ k, k < xs.length → (nth xs k).name.size ≤ 9223372036854775807 ∧ (nth xs k).club.size ≤ 9223372036854775807) (hcap : xs.length ≤ cap) (hb : rnsB xs = true) (hl : xs.length ≤ 10) :
    Calls Try.prog 31 #[.slice ao xs.length cap] w fun e w' => ∃ g gc E, e = .returned (.tuple #[.slice (some ⟨g, 0, none⟩) E.length gc, .bool true]) ∧ Ext w w' ∧ RowAt w' (some ⟨g, 0, none⟩) 1 E.length (scc E) ∧ ClubsOk xs E := by
  have HR := impl_AreRunners (cap := cap) (w := w) h (by omega) hs hcap
  rw [hb] at HR
  have HR := Lib.hid HR
  have HC := Lib.hid (fun y (hy : Ext w y) => impl_clubsOf (cap := cap) (h.ext hy) hl)
  clear h hs
  go_enter Try.func31, Try.ntmps31
  go_wp2_with fail
  refine HR.out.mono ?_; rintro e w1 ⟨rfl, hx1⟩
  have HX1 := Lib.hid hx1
  have HC1 := Lib.hid (HC.out _ hx1)
  clear hx1 HC HR
  go_wp2_with fail
  refine HC1.out.mono ?_; rintro e w2 ⟨g, gc, E, rfl, hx2, hrow, hok⟩
  have HX2 := Lib.hid (HX1.out.trans hx2)
  have HROW := Lib.hid hrow
  clear hx2 hrow HC1
  go_wp2
  go_ret2
  exact ⟨g, gc, E, rfl, HX2.out, HROW.out, hok⟩

end Go.Proofs.Ytkejhhflpnfepaa
