/- What is packed; the greedy packing. -/
import Derived.Test.YthlbogmnnenkoaaPG
import Derived.Test.YthlbogmnnenkoaaE
namespace Go.Proofs.Ythlbogmnnenkoaa
open Go.RowKit

theorem packedBagS_cnt (ps : List (List Int)) (cs : List Int) : cnt (dI (packedBagS ps cs).1) ≤ 16777216 := by
  rw [cnt_dI]
  unfold packedBagS
  split
  · rename_i h
    split
    · simp
    · rename_i h0
      have h8 := (isBagS_len (askS_at (codeS_ok h).1 (show 0 < ps.length by omega)).1).2
      refine Nat.le_trans (toldS_len _) ?_
      rw [packS_len]; omega
  · simp
set_option maxHeartbeats 2000000 in
theorem implPackedBag_d (ps : List (List Int)) (cs : List Int) {u t : Value} (w : World) (h2 : Rd Any w (dII ps) u) (h3 : Rd Any w (dI cs) t) :
    Calls Try.prog 69 #[u, t] w (RetDC w (dI (packedBagS ps cs).1) (packedBagS ps cs).2) := by
  obtain ⟨b, c', rfl, hy⟩ := Rd_II.1 h2
  obtain ⟨d, c2, rfl, hz⟩ := Rd_I.1 h3
  clear h2 h3
  have i1 := hy.ix tabII.under tabII.size c'
  have HC := Lib.hid (partsCode_c (nthR ps 0).length Any Any b d c' c2 ps cs w hy hz)
  obtain ⟨K, hK⟩ : ∃ K : Nat, K = (nthR ps 0).length := ⟨_, rfl⟩
  have HK := Lib.hid hK
  by_cases h0 : 0 < ps.length
  · obtain ⟨a0, c0, g0, hs0⟩ := hy.cell 0 h0
    have k0 : (0 : Int) < ps.length := by omega
    have hne : ((ps.length : Int) == 0) = false := by rw [beq_eq_false_iff_ne]; omega
    by_cases hcode : codeS (nthR ps 0).length ps cs = 0
    · have hao := codeS_ok hcode
      have HF : Hid (∀ j, j < ps.length → (nthR ps j).length = (nthR ps 0).length) := Lib.hid (fun j hj => by have := (askS_at hao.1 hj).2.1; omega)
      have hl : ps.length ≤ cs.length := by have := (cntsOk_at hao.2).1; omega
      have h8 := (isBagS_len (askS_at hao.1 h0).1).2
      have HPK := Lib.hid (packed_c (nthR ps 0).length Any Any b d c' c2 ps cs w hy hz h8 HF hl)
      have ev : packedBagS ps cs = toldS (packS (nthR ps 0).length ps cs) := by rw [packedBagS, if_pos hcode, if_neg (by omega)]
      rw [ev]
      rw [hcode] at HC
      clear hcode hao hl ev hs0 hK
      go_enter Try.func69, Try.ntmps69
      go_wp2_with fail
      refine HC.out.mono ?_
      rintro e w' ⟨rfl, rfl⟩
      go_wp2_with fail
      refine HPK.out.mono ?_
      rintro e w1 ⟨v, F, rfl, hb, ho, hn, hF⟩
      obtain ⟨a1, c1, rfl⟩ := ho.val
      have HB := Lib.hid hb
      have HF2 := Lib.hid hF
      clear hb hF
      go_wp2_with fail
      refine (bagOrLimit_c Any _ _ _ _ ho.arg).mono ?_
      intro e w2 ht
      have ht' := ht.dc (w0 := w) ho hn HF2.out HB.out
      obtain ⟨v2, F2, rfl, hr⟩ := ht'
      have HR := Lib.hid hr
      clear hr ht ho hn
      go_wp2
      go_ret2
      exact ⟨v2, F2, rfl, HR.out⟩
    · have ev : packedBagS ps cs = ([], codeS (nthR ps 0).length ps cs) := by rw [packedBagS, if_neg hcode]
      have hc1 : (codeS (nthR ps 0).length ps cs == 0) = false := by simpa using hcode
      have hc2 : (codeS (nthR ps 0).length ps cs != 0) = true := by simpa using hcode
      rw [ev]
      clear ev hs0 hK hcode
      go_enter Try.func69, Try.ntmps69
      go_wp2_with fail
      refine HC.out.mono ?_
      rintro e w' ⟨rfl, rfl⟩
      go_wp2
      go_ret2
      exact RetDC.none _ _ _ (Below.refl _ _)
  · have hps : ps = [] := List.eq_nil_of_length_eq_zero (by omega)
    subst hps
    have e0 : (nthR ([] : List (List Int)) 0).length = 0 := by simp [nthR]
    rw [e0] at HC
    clear i1 h0 hK HK hy
    by_cases hcode : codeS 0 [] cs = 0
    · have ev : packedBagS [] cs = ([], 4) := by simp [packedBagS, nthR, hcode]
      rw [ev]
      simp only [Int.ofNat_zero, hcode] at HC
      clear ev hcode
      go_enter Try.func69, Try.ntmps69
      go_wp2_with fail
      refine HC.out.mono ?_
      rintro e w' ⟨rfl, rfl⟩
      go_wp2
      go_ret2
      exact RetDC.none _ _ _ (Below.refl _ _)
    · have ev : packedBagS [] cs = ([], codeS 0 [] cs) := by simp [packedBagS, nthR, hcode]
      have hc1 : (codeS 0 [] cs == 0) = false := by simpa using hcode
      have hc2 : (codeS 0 [] cs != 0) = true := by simpa using hcode
      rw [ev]
      clear ev hcode
      go_enter Try.func69, Try.ntmps69
      go_wp2_with fail
      refine HC.out.mono ?_
      rintro e w' ⟨rfl, rfl⟩
      go_wp2
      go_ret2
      exact RetDC.none _ _ _ (Below.refl _ _)
theorem codeS_bad1 {kinds : Int} {ps : List (List Int)} {cs : List Int} {k : Int} (hk : k ≠ 0) (h : askS kinds ps = k) : codeS kinds ps cs = k := by rw [codeS, if_neg (by rw [h]; exact hk), h]
theorem askS_nil (k : Int) : askS k [] = 0 := by simp [askS, allII]
