/-
  Proved here: what Contradictions' reference returns.
  Conditions: the number of proofs fits an int.
-/
import Derived.Test.YtfnjoinkfghalaaConI
import Derived.Deep.RegionLaw
import Derived.Deep.RegionWith
import Derived.IntWalk
namespace Go.Proofs.Ytfnjoinkfghalaa
open Go.RowKit

set_option maxRecDepth 100000 in
set_option maxHeartbeats 8000000 in
theorem spec_Contradictions {ao : Option Addr} {cap : Nat} {xs : List Prf} {w : World} (h : RowAt w ao 5 xs.length (fun k => (nth xs k).c)) (hn : xs.length ≤ 9223372036854775807) :
    Calls Try.prog 7 #[.slice ao xs.length cap] w (ResSS w (conRL xs) (prfsB xs)) := by
  obtain ⟨i0, hi, hz0, hz1, hz2⟩ := info_parts infoIntS
  have HI := Lib.hid hi; have HZ0 := Lib.hid hz0; have HZ1 := Lib.hid hz1; have HZ2 := Lib.hid hz2
  have hxo := (Ext.refl w).alloc (.cells #[] 48)
  have HA := Lib.hid (spec_l14Good (cap := cap) (h.ext hxo) hn)
  have HFN := Lib.hid (show FreshAt w.heap.size (w.alloc (.cells #[] 48)) (some ⟨w.heap.size, 0, none⟩) 1 0 (fun _ _ => .slice none 0 0) from (Owns.start (Ext.refl w) : Owns (w.alloc (.cells #[] 48)) w.heap.size 48 1 rcc _ []).fresh0)
  have HS0 := Lib.hid (StR.start (Ext.refl w))
  have HXO := Lib.hid hxo
  clear hi hz0 hz1 hz2 hxo
  cases hv : prfsB xs
  · have HL := Lib.hid (show conRL xs = [] by unfold conRL; rw [hv]; rfl)
    rw [hv] at HA
    clear hv h
    go_enter Try.func7, Try.ntmps7
    go_wp2_with fail
    refine HA.out.mono ?_; rintro e w1 ⟨rfl, hx1⟩
    have HX1 := Lib.hid hx1
    clear hx1 HA
    go_wp2
    go_ret2
    rw [HL.out]
    exact ⟨_, 0, fun _ => (none, 0), rfl, HXO.out.trans HX1.out, freshG_nil (HFN.out.ext HX1.out)⟩
  · have HL := Lib.hid (show conRL xs = conL xs by unfold conRL; rw [hv]; rfl)
    have hl12 : xs.length ≤ 12 := by
      simp only [prfsB, Bool.and_eq_true, decide_eq_true_eq] at hv; exact hv.1
    have hcd : ∀ k, k < xs.length → (1 ≤ (nth xs k).runner ∧ (nth xs k).runner ≤ 999) ∧ 31 ≤ (nth xs k).code ∧ (nth xs k).code ≤ 99 := fun k hk => by
      simp only [prfsB, Bool.and_eq_true, upto_true, prfB, inB_iff] at hv
      exact (hv.2 k hk).1.1
    have HCD := Lib.hid hcd
    have HH := Lib.hid h
    rw [hv] at HA
    clear hv hcd h
    go_enter Try.func7, Try.ntmps7
    go_wp2_with fail
    refine HA.out.mono ?_; rintro e w1 ⟨rfl, hx1⟩
    have HS1 := Lib.hid (HS0.out.kept (hx1.alloc (.cells #[] 3)))
    have HX1 := Lib.hid (HXO.out.trans hx1)
    have HXB := Lib.hid hx1
    clear hx1 HA HS0
    go_wp2
    go_loopw [5, 6] (fun o i wr => ∃ (k b off c : Nat), k ≤ xs.length ∧ i = .int .i64 k ∧ o = .slice (some ⟨b, off, none⟩) (keyU xs k).length c ∧ Ext (w1.alloc (.cells #[] 3)) wr ∧ RowAt wr (some ⟨b, off, none⟩) 1 (keyU xs k).length (ic (keyU xs k)) ∧ ((keyU xs k).length ≤ c ∧ c ≤ 9223372036854775807)) (fun _ i _ => xs.length - (intOf i).toNat)
    case atStart => exact ⟨0, _, 0, 0, Nat.zero_le _, rfl, rfl, Ext.refl _, fun h0 => by simp [keyU] at h0, by simp [keyU]⟩
    case round =>
      obtain ⟨k, b, off, c, hk, rfl, rfl, hx, hr, hc⟩ := hrel
      have HX := Lib.hid hx; have HR := Lib.hid hr; have HC := Lib.hid hc
      clear hx hr hc
      by_cases hlt : k < xs.length
      · have hlt' : (k : Int) < (xs.length : Int) := by omega
        have hlK := keyU_len xs k
        have hKm : k * xs.length ≤ 12 * 12 := Nat.mul_le_mul (by omega) hl12
        obtain ⟨K, hK⟩ : ∃ K, K = keyU xs k := ⟨_, rfl⟩
        rw [← hK] at HR HC hlK ⊢
        have HK := Lib.hid hK
        clear hK
        go_wp2
        go_loopw [5, 7] (fun o i wr => ∃ (q b off c : Nat), q ≤ xs.length ∧ i = .int .i64 q ∧ o = .slice (some ⟨b, off, none⟩) (keyU1 xs k K q).length c ∧ Ext (w1.alloc (.cells #[] 3)) wr ∧ RowAt wr (some ⟨b, off, none⟩) 1 (keyU1 xs k K q).length (ic (keyU1 xs k K q)) ∧ ((keyU1 xs k K q).length ≤ c ∧ c ≤ 9223372036854775807)) (fun _ i _ => xs.length - (intOf i).toNat)
        case atStart => exact ⟨0, b, off, c, Nat.zero_le _, rfl, rfl, HX.out, HR.out, HC.out⟩
        case round =>
          clear HX HR HC
          obtain ⟨q, b, off, c, hq, rfl, rfl, hx, hr, hc⟩ := hrel
          have HX := Lib.hid hx; have HR := Lib.hid hr; have HC := Lib.hid hc
          by_cases hlq : q < xs.length
          · have hlq' : (q : Int) < (xs.length : Int) := by omega
            have hq1l := keyU1_len xs k K q
            obtain ⟨pb, poff, rfl, hcell⟩ := (HH.out.ext (HX1.out.trans (((Ext.refl w1).alloc _).trans hx))) (by omega)
            have a0 := hcell k hlt 0 (by decide)
            have a1 := hcell k hlt 1 (by decide)
            have a2 := hcell k hlt 2 (by decide)
            have a3 := hcell k hlt 3 (by decide)
            have a4 := hcell k hlt 4 (by decide)
            have b0 := hcell q hlq 0 (by decide)
            have b1 := hcell q hlq 1 (by decide)
            have b2 := hcell q hlq 2 (by decide)
            have b3 := hcell q hlq 3 (by decide)
            have b4 := hcell q hlq 4 (by decide)
            simp only [Prf.c0, Prf.c1, Prf.c2, Prf.c3, Prf.c4, Nat.add_zero] at a0 a1 a2 a3 a4 b0 b1 b2 b3 b4
            have hbl := World.block_lt_of_cell? _ _ a0
            simp only at hbl
            have hbl2 : pb < wr.heap.size + 1 := by omega
            have hk0 : (0 : Int) ≤ (k : Int) := by omega
            have hq0 : (0 : Int) ≤ (q : Int) := by omega
            have HCDk := Lib.hid (HCD.out k hlt)
            obtain ⟨Q, hQ⟩ : ∃ Q, Q = keyU1 xs k K q := ⟨_, rfl⟩
            have HQ1 := Lib.hid (show keyU1 xs k K (q + 1) = if hitB xs k q && !hasI Q Q.length (keyP (nth xs k)) then putL Q (keyP (nth xs k)) else Q by rw [keyU1, hQ])
            have HHIT := Lib.hid (show hitB xs k q = ((nth xs k).runner == (nth xs q).runner && (nth xs k).code == (nth xs q).code && (nth xs k).against && !(nth xs q).against) from rfl)
            have HKP := Lib.hid (show keyP (nth xs k) = 100 * (nth xs k).runner + (nth xs k).code from rfl)
            rw [← hQ] at HR HC hq1l ⊢
            have HQ := Lib.hid hQ
            clear hQ hcell hx hr hc
            generalize (nth xs k).runner = r1 at *
            generalize (nth xs k).code = c1 at *
            generalize (nth xs k).kind = k1 at *
            generalize (nth xs k).weight = t1 at *
            generalize (nth xs k).against = g1 at *
            generalize (nth xs q).runner = r2 at *
            generalize (nth xs q).code = c2 at *
            generalize (nth xs q).kind = k2 at *
            generalize (nth xs q).weight = t2 at *
            generalize (nth xs q).against = g2 at *
            generalize keyP (nth xs k) = kp at *
            go_wp2
            go_upto_region 11 with fail
            go_cut [8, 9] (fun s t wx => ∃ P Q : Nat, s = .pointer (some ⟨P, 0, none⟩) ∧ t = .pointer (some ⟨Q, 0, none⟩) ∧ Ext wr wx ∧ (wx.cell? ⟨P, 0, none⟩ = some (.int .i64 r1) ∧ wx.cell? ⟨P, 1, none⟩ = some (.int .i64 c1) ∧ wx.cell? ⟨P, 4, none⟩ = some (.bool g1)) ∧ wx.cell? ⟨Q, 0, none⟩ = some (.int .i64 r2) ∧ wx.cell? ⟨Q, 1, none⟩ = some (.int .i64 c2) ∧ wx.cell? ⟨Q, 4, none⟩ = some (.bool g2))
            case first =>
              go_region
              all_goals
                go_wp2_with fail
                go_meet
                exact ⟨_, _, rfl, rfl, (by repeat (first | (with_reducible exact Ext.refl _) | (with_reducible assumption) | with_reducible refine Ext.drew ?_ | with_reducible refine Ext.alloc ?_ _ | with_reducible refine Ext.setCell ?_ (by first | (simp; done) | (simp; omega) | omega) _ | with_reducible refine Ext.trans ?_ (by with_reducible assumption))), ⟨by go_simp, by go_simp, by go_simp⟩, by go_simp, by go_simp, by go_simp⟩
            case rest =>
              obtain ⟨P, P2, rfl, rfl, hxx, ⟨s0, s1, s4⟩, t0, t1, t4⟩ := hcut
              have sl := World.block_lt_of_cell? _ _ s0
              have tl := World.block_lt_of_cell? _ _ t0
              have HXX := Lib.hid hxx
              clear hxx a0 a1 a2 a3 a4 b0 b1 b2 b3 b4 hbl hbl2
              obtain ⟨⟨hr1a, hr1b⟩, hc1a, hc1b⟩ := HCDk.out
              clear HCDk
              have HQF : Hid (hitB xs k q = false → keyU1 xs k K (q + 1) = Q) := Lib.hid (fun hh => by rw [HQ1.out, hh]; rfl)
              cases h1 : (r1 == r2)
              · have HQN := Lib.hid (HQF.out (by rw [HHIT.out, h1]; rfl))
                go_wp2
                go_roundw
                case rel => exact ⟨q + 1, b, off, c, by omega, by go_num, by rw [HQN.out], HX.out.trans HXX.out, by rw [HQN.out]; exact HR.out.ext HXX.out, by rw [HQN.out]; exact HC.out⟩
                case measure => simp [intOf] <;> omega
              · cases h2 : (c1 == c2)
                · have HQN := Lib.hid (HQF.out (by rw [HHIT.out, h1, h2]; rfl))
                  go_wp2
                  go_roundw
                  case rel => exact ⟨q + 1, b, off, c, by omega, by go_num, by rw [HQN.out], HX.out.trans HXX.out, by rw [HQN.out]; exact HR.out.ext HXX.out, by rw [HQN.out]; exact HC.out⟩
                  case measure => simp [intOf] <;> omega
                · cases g1
                  · have HQN := Lib.hid (HQF.out (by rw [HHIT.out, h1, h2]; rfl))
                    go_wp2
                    go_roundw
                    case rel => exact ⟨q + 1, b, off, c, by omega, by go_num, by rw [HQN.out], HX.out.trans HXX.out, by rw [HQN.out]; exact HR.out.ext HXX.out, by rw [HQN.out]; exact HC.out⟩
                    case measure => simp [intOf] <;> omega
                  · cases g2
                    · skip
                      have HHAS := Lib.hid (spec_l1Has (w := wc) (cap := c) (v := 100 * r1 + c1) (HR.out.ext HXX.out) (by omega))
                      have HPUT := Lib.hid (fun x (hx : Ext wc x) => spec_l1Put (w := x) (cap := c) (n := 100 * r1 + c1) (HR.out.ext (HXX.out.trans hx)) (by omega) HC.out)
                      have HHT := Lib.hid (show hitB xs k q = true by rw [HHIT.out, h1, h2]; rfl)
                      cases hh : hasI Q Q.length (100 * r1 + c1)
                      · have HQN := Lib.hid (show keyU1 xs k K (q + 1) = putL Q (100 * r1 + c1) by rw [HQ1.out, HKP.out, HHT.out, hh]; rfl)
                        rw [hh] at HHAS
                        clear hh
                        go_wp2_with fail
                        refine HHAS.out.mono ?_; rintro e w2 ⟨rfl, hx2⟩
                        have HX2 := Lib.hid hx2
                        clear hx2 s0 s1 s4 t0 t1 t4
                        go_wp2_with fail
                        refine (HPUT.out _ HX2.out).mono ?_; rintro e w3 ⟨b', off', c', rfl, hx3, hr3, hc3⟩
                        have HX3 := Lib.hid (HX2.out.trans hx3); have HR3 := Lib.hid hr3; have HC3 := Lib.hid hc3
                        clear hx3 hr3 hc3
                        go_wp2
                        go_roundw
                        case rel => exact ⟨q + 1, b', off', c', by omega, by go_num, by rw [HQN.out], (HX.out.trans HXX.out).trans HX3.out, by rw [HQN.out]; exact HR3.out, by rw [HQN.out]; exact HC3.out⟩
                        case measure => simp [intOf] <;> omega
                      · have HQN := Lib.hid (show keyU1 xs k K (q + 1) = Q by rw [HQ1.out, HKP.out, HHT.out, hh]; rfl)
                        rw [hh] at HHAS
                        clear hh
                        go_wp2_with fail
                        refine HHAS.out.mono ?_; rintro e w2 ⟨rfl, hx2⟩
                        have HX2 := Lib.hid (HXX.out.trans hx2)
                        clear hx2
                        go_wp2
                        go_roundw
                        case rel => exact ⟨q + 1, b, off, c, by omega, by go_num, by rw [HQN.out], HX.out.trans HX2.out, by rw [HQN.out]; exact HR.out.ext HX2.out, by rw [HQN.out]; exact HC.out⟩
                        case measure => simp [intOf] <;> omega
                    · have HQN := Lib.hid (HQF.out (by rw [HHIT.out, h1, h2]; rfl))
                      go_wp2
                      go_roundw
                      case rel => exact ⟨q + 1, b, off, c, by omega, by go_num, by rw [HQN.out], HX.out.trans HXX.out, by rw [HQN.out]; exact HR.out.ext HXX.out, by rw [HQN.out]; exact HC.out⟩
                      case measure => simp [intOf] <;> omega
          · have hnq : ¬ (q : Int) < (xs.length : Int) := by omega
            obtain rfl : q = xs.length := by omega
            have hKk : keyU xs (k + 1) = keyU1 xs k K xs.length := by rw [keyU, ← HK.out]
            have HKK := Lib.hid hKk
            clear hKk hx hr hc
            go_wp2
            go_roundw
            case rel => exact ⟨k + 1, b, off, c, by omega, by go_num, by rw [HKK.out], HX.out, by rw [HKK.out]; exact HR.out, by rw [HKK.out]; exact HC.out⟩
            case measure => simp [intOf] <;> omega
      · obtain rfl : k = xs.length := by omega
        have hnk : ¬ (xs.length : Int) < (xs.length : Int) := by omega
        have hlK := keyU_len xs xs.length
        have hKm : xs.length * xs.length ≤ 12 * 12 := Nat.mul_le_mul hl12 hl12
        have HLL := Lib.hid (show conRL xs = (keyU xs xs.length).map (fun q => [q / 100, q % 100]) by rw [HL.out]; rfl)
        have hkb : ∀ j, j < (keyU xs xs.length).length → 0 ≤ nth (keyU xs xs.length) j ∧ nth (keyU xs xs.length) j ≤ 100000 := fun j hj => by
          obtain ⟨i, hi, e, _⟩ := (keyU_mem (xs := xs) xs.length).1 (show nth (keyU xs xs.length) j ∈ keyU xs xs.length by simp [nth, hj])
          have := HCD.out i hi
          rw [e]; unfold keyP; omega
        have HKB := Lib.hid hkb
        have HS2 := Lib.hid (HS1.out.kept HX.out)
        have HNE0 := Lib.hid (show 0 < (keyU xs xs.length).length → b ≠ w.heap.size from fun h0 e => by
          obtain ⟨kb, koff, e1, hcell⟩ := HR.out h0
          injection e1 with e1; injection e1 with e1 e2; subst e1 e2
          have d0 := hcell 0 h0 0 (by decide)
          rw [e, ((HXB.out.alloc (.cells #[] 3)).trans HX.out).cellr _ _ (by simp)] at d0
          rw [show (w.alloc (.cells #[] 48)).cell? ⟨w.heap.size, off + 0 * 1 + 0, none⟩ = none by go_simp] at d0
          cases d0)
        generalize keyU xs xs.length = K at HLL hlK HR HC HKB HNE0 ⊢
        clear HCD HH HS1 HX HXB hkb HL
        go_wp2
        go_loopw [4, 11] (fun o i wy => ∃ (j g gc : Nat) (X : List Row2), j ≤ K.length ∧ i = .int .i64 j ∧ o = .slice (some ⟨g, 0, none⟩) X.length gc ∧ StR w wy g gc X ∧ (RowAt wy (some ⟨b, off, none⟩) 1 K.length (ic K) ∧ (0 < K.length → b ≠ g)) ∧ X.map Row2.l = (K.take j).map (fun q => [q / 100, q % 100]) ∧ X.length = j) (fun _ i _ => K.length - (intOf i).toNat)
        case atStart => exact ⟨0, _, 0, [], Nat.zero_le _, rfl, rfl, HS2.out, ⟨HR.out, HNE0.out⟩, rfl, rfl⟩
        case round =>
          clear HS2 HR HNE0
          obtain ⟨j, g, gc, X, hj, rfl, rfl, hS, ⟨hry, hne⟩, hX, hXl⟩ := hrel
          have HS := Lib.hid hS; have HRY := Lib.hid hry; have HNE := Lib.hid hne; have HX := Lib.hid hX; have HXL := Lib.hid hXl
          by_cases hlj : j < K.length
          · have hlj' : (j : Int) < (K.length : Int) := by omega
            obtain ⟨kb, koff, e, hcell⟩ := intsN hry (show 0 < K.length by omega)
            injection e with e; injection e with e1 e2; subst e1 e2
            have d0 := hcell j hlj
            have hkey := HKB.out j hlj
            have hj0 : (0 : Int) ≤ (j : Int) := by omega
            have HTS := Lib.hid (show K.take (j + 1) = K.take j ++ [nth K j] from take_succ_nth hlj)
            generalize nth K j = z at d0 hkey HTS
            have hz1 := hkey.1
            have hz2 := hkey.2
            have hX12 : X.length ≤ 144 := by omega
            obtain ⟨R, hR⟩ : ∃ R, R = z / 100 := ⟨_, rfl⟩
            obtain ⟨C, hC⟩ : ∃ C, C = z % 100 := ⟨_, rfl⟩
            have HZZ := Lib.hid (show [z / 100, z % 100] = Row2.l ⟨wr.heap.size, R, C⟩ by rw [hR, hC]; rfl)
            have hrow2 := fun (x : World) (r : Row2) => row_lit (w := x) (cs := #[r.v]) (T := 48) (s := 1) (cc := rcc) (x := r) (by intro j hj; obtain rfl : j = 0 := (by omega); rfl)
            have HR2 := Lib.hid (show RowAt (((wr.alloc (.cells #[.int .i64 R, .int .i64 C] 3)).alloc (.cells #[.slice (some ⟨wr.heap.size, 0, none⟩) 2 2] 48)).drew) (some ⟨wr.heap.size + 1, 0, none⟩) 1 [(⟨wr.heap.size, R, C⟩ : Row2)].length (fun k => rcc (nth [(⟨wr.heap.size, R, C⟩ : Row2)] k)) by
              have := (hrow2 (wr.alloc (.cells #[.int .i64 R, .int .i64 C] 3)) ⟨wr.heap.size, R, C⟩).ext (Ext.drew (Ext.refl _))
              simpa [Row2.v] using this)
            have HE2 := Lib.hid (show Ext wr (((wr.alloc (.cells #[.int .i64 R, .int .i64 C] 3)).alloc (.cells #[.slice (some ⟨wr.heap.size, 0, none⟩) 2 2] 48)).drew) from (((Ext.refl _).alloc _).alloc _).drew)
            have HIN := Lib.hid (show In2 (((wr.alloc (.cells #[.int .i64 R, .int .i64 C] 3)).alloc (.cells #[.slice (some ⟨wr.heap.size, 0, none⟩) 2 2] 48)).drew) ⟨wr.heap.size, R, C⟩ from (In2.of (T := 3)).ext (((Ext.refl _).alloc _).drew))
            have hws : w.heap.size ≤ wr.heap.size + 1 + 1 := by have := hS.ext.size; omega
            have hRC : IntKind.i64.wrap (z.tdiv 100) = R ∧ z.tmod 100 = C := ⟨by rw [Int.tdiv_eq_ediv_of_nonneg hz1, hR]; exact IntWalk.i64_in _ (by omega), by rw [Int.tmod_eq_emod_of_nonneg hz1, hC]⟩
            have hbl := World.block_lt_of_cell? _ _ d0
            have hneg := hne (by omega)
            have HBL := Lib.hid (show b < wr.heap.size from hbl); have HNEG := Lib.hid hneg
            clear hcell hS hry hne hneg hbl hX hkey hrow2 hR hC hXl
            obtain ⟨hR, hC⟩ := hRC
            go_wp2
            go_region_law (refine step_append_bf (o := ⟨some 93, _, _, _, _, _⟩) rfl _ _ 24 rfl 48 i0 _ 1 24 Try.underlying24 HI.out HZ0.out HZ1.out HZ2.out rfl (by decide) rcc rcc_one w.heap.size (by simp; omega) (.slice (some ⟨g, 0, none⟩) X.length gc) X [⟨wr.heap.size, R, C⟩] (X ++ [⟨wr.heap.size, R, C⟩]) (Lib.hid rfl) rfl (HS.out.own.ext' HE2.out) ⟨wr.heap.size + 1, 0, none⟩ 1 1 rfl rfl HR2.out (by simp; omega) (by simp; omega) ?_; intro go1 gc1 w4 ho4 hb4 hg4 hv4)
            all_goals
              have hro := (HRY.out.ext HE2.out).grown (by decide) hg4 (fun a e e' => by
                injection e with e; subst e
                have e2 : g = b := Option.some.inj e'
                exact HNEG.out e2.symm)
              have hgo := hv4.out
              have hP := HS.out.push HE2.out HIN.out (Nat.le_refl _) rfl ho4 hb4 hg4 (by rcases hv4.out with e | e; (exact .inl e); (exact .inr (by simpa using e)))
              obtain ⟨g', rfl, hP⟩ := hP
              have hbg : b ≠ g' := by
                rcases hgo with e | e
                · have e2 : g' = g := Option.some.inj e
                  rw [e2]; exact HNEG.out
                · have e2 : g' = wr.heap.size + 1 + 1 := by simpa using Option.some.inj e
                  have := HBL.out
                  omega
              have HP := Lib.hid hP
              have HRO := Lib.hid hro; have HBG := Lib.hid hbg
              clear hP ho4 hb4 hg4 hv4 hR hC hro hbg hgo
              go_wp2
              go_roundw
              case rel => exact ⟨j + 1, g', gc1, X ++ [⟨wr.heap.size, R, C⟩], by omega, by go_num, by rw [List.length_append]; rfl, HP.out, ⟨HRO.out, fun _ => HBG.out⟩, by rw [HTS.out, List.map_append, List.map_append, HX.out]; simp [HZZ.out], by have := HXL.out; simp; omega⟩
              case measure => simp [intOf] <;> omega
          · obtain rfl : j = K.length := by omega
            have hnk : ¬ (K.length : Int) < (K.length : Int) := by omega
            have HFR := Lib.hid hS.fresh
            have HXE := Lib.hid hS.ext
            have HEQ := Lib.hid (show X.map Row2.l = conRL xs by rw [HLL.out, hX, List.take_length])
            have HLEN := Lib.hid (show X.length = (conRL xs).length by rw [← HEQ.out, List.length_map])
            clear hS hry hne hX hXl
            go_wp2
            go_ret2
            rw [← HEQ.out]
            exact ⟨_, _, _, by rw [List.length_map]; rfl, HXE.out, HFR.out⟩

end Go.Proofs.Ytfnjoinkfghalaa
