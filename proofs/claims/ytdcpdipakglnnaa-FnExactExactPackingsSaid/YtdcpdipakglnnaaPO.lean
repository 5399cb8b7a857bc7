/- All packings of a bag: the reference's exported functions. Written by mkpo.py. -/
import Derived.Test.YtdcpdipakglnnaaPL
namespace Go.Proofs.Ytdcpdipakglnnaa
open Go.RowKit

set_option maxHeartbeats 2000000 in
theorem l01All_c (xs : List Int) (ps : List (List Int)) (a b : Option Addr) (c c' : Nat) (w : World) (hx : SlI Any w a xs) (hy : SlII Any w b ps) (hcode : asked xs ps = 0) :
    Calls Try.prog 134 #[.slice a xs.length c, .slice b ps.length c'] w (RetLists w (packingsS maxP xs ps)) := by
  obtain ⟨hA, hask⟩ := asked_ok hcode
  have hb8 := isBagS_len hA
  have hp8 := (askS_ok hask).2.1
  have HAT : Hid (∀ k, k < ps.length → isBagS (nthR ps k) = true ∧ (nthR ps k).length = xs.length ∧ ¬ sumS (nthR ps k) = 0) := Lib.hid (fun k hk => by have := askS_at hask hk; exact ⟨this.1, by omega, this.2.2⟩)
  have HSM := Lib.hid (isBagS_small hA)
  have HX := Lib.hid hx
  have HY := Lib.hid hy
  clear hA hask hx hy
  have HSZ := Lib.hid (l01Size_c Any a c xs w HX.out)
  by_cases hq : 16 < sumS xs
  · have ev : packingsS maxP xs ps = ([], 3) := by rw [packingsS, if_pos hcode, if_pos hq]
    rw [ev]
    clear ev hcode
    go_enter Try.func134, Try.ntmps134
    go_wp2_with fail
    refine HSZ.out.mono ?_
    rintro e w1 ⟨rfl, rfl⟩
    go_wp2
    go_ret2
    exact RetDC.none _ _ _ (below_alloc _ _)
  · have ev : packingsS maxP xs ps = lim (packs (maxP ps) ps xs) := by rw [packingsS, if_pos hcode, if_neg hq]
    rw [ev]
    clear ev hcode
    go_enter Try.func134, Try.ntmps134
    go_wp2_with fail
    refine HSZ.out.mono ?_
    rintro e w1 ⟨rfl, rfl⟩
    have hbx : Box 23 1 (((w.alloc (.cells #[] 23)).alloc (.cells #[.slice (some ⟨w.heap.size, 0, none⟩) 0 0] 22)).alloc (.cells #[] 2)) w.heap.size (w.heap.size + 1) ([] : List (List Int)).length (([] : List (List Int)).map dI) [w.heap.size] :=
      ⟨by simp [go_sem], ⟨_, by simp [go_sem], ((Lst.made 23 1 w w.heap.size (Nat.le_refl _)).below (below_alloc _ _)).below (below_alloc _ _)⟩, by simp⟩
    have hb0 : Below w.heap.size w (((w.alloc (.cells #[] 23)).alloc (.cells #[.slice (some ⟨w.heap.size, 0, none⟩) 0 0] 22)).alloc (.cells #[] 2)) := by repeat (first | exact Below.refl _ _ | refine Below.alloc ?_ (by simp <;> omega) _)
    have hsx : SlI (fun g => g ≠ w.heap.size + 1 ∧ g ∉ [w.heap.size]) (((w.alloc (.cells #[] 23)).alloc (.cells #[.slice (some ⟨w.heap.size, 0, none⟩) 0 0] 22)).alloc (.cells #[] 2)) a xs := by
      have h1 : SlI (fun g => g < w.heap.size) w a xs := HX.out.wider (fun g hg _ => hg)
      exact (h1.below hb0).wider (fun g _ hg => ⟨by omega, by simp; omega⟩)
    have hnil : SlI (fun g => g ≠ w.heap.size + 1 ∧ g ∉ [w.heap.size]) (((w.alloc (.cells #[] 23)).alloc (.cells #[.slice (some ⟨w.heap.size, 0, none⟩) 0 0] 22)).alloc (.cells #[] 2)) (some ⟨w.heap.size + 1 + 1, 0, none⟩) [] := ⟨by simp, fun h => absurd h (by simp), fun i hi => absurd hi (by simp)⟩
    have hcall := l01Pack_c w xs.length b c' ps HY.out (by omega) HAT hp8 (w.heap.size + 1) (by omega) ps.length [] [] [w.heap.size] _ a c xs (some ⟨w.heap.size + 1 + 1, 0, none⟩) 0 (by simp) (by simp) hb0 hbx hsx rfl HSM.out hnil
    have hnm : capA [] ((packs (maxP ps) (ps.drop ([] : List Int).length) xs).map (([] : List Int) ++ ·)) = (packs (maxP ps) ps xs).take 2001 := by simp [capA]
    rw [hnm] at hcall
    have HCL := Lib.hid hcall
    have HB0 := Lib.hid hb0
    clear hbx hnil hcall hnm hb0 hsx
    go_wp2_with fail
    refine HCL.out.mono ?_
    rintro e w1 ⟨rfl, G', hb', hc', hm'⟩
    have hb1 : Below w.heap.size w w1 := HB0.out.trans (hc'.below (by simp <;> omega) (fun g hg => by simp at hg; rcases hg with rfl | rfl <;> omega))
    obtain ⟨v, hc, hL⟩ := hb'.has
    obtain ⟨G2, hO, hN, hS⟩ := hL.ow (by omega) (by simp; unfold maxLen; omega)
    have hlt := hb'.lt
    obtain ⟨_, ao, cp, rfl⟩ := hL.val
    have HRD : Hid (RetDC w (dII ((packs (maxP ps) ps xs).take 2001)) 0 (.returned (.tuple #[.slice ao ((packs (maxP ps) ps xs).take 2001).length cp, .int .i64 0])) w1) := Lib.hid ⟨_, G2, rfl, hb1, hO, hN, fun g hg => (hlt.2 g (hS g hg)).1⟩
    have HB1 := Lib.hid hb1
    have HLT := Lib.hid (lim_take (packs (maxP ps) ps xs))
    have hlen : ((packs (maxP ps) ps xs).take 2001).length ≤ 2001 := by simp; omega
    obtain ⟨L2, hL2⟩ : ∃ L2, L2 = (packs (maxP ps) ps xs).take 2001 := ⟨_, rfl⟩
    rw [← hL2] at HRD HLT hc hlen
    clear hb' hc' hm' hb1 hL hO hN hS hlt hL2
    by_cases hq2 : L2.length ≤ 2000
    · have HF : Hid (RetLists w (lim (packs (maxP ps) ps xs)) (.returned (.tuple #[.slice ao L2.length cp, .int .i64 0])) w1) := Lib.hid (by rw [← HLT.out, lim, if_pos hq2]; exact HRD.out)
      go_wp2
      go_ret2
      exact HF.out
    · have HF : Hid (∀ a c w', Below w.heap.size w w' → RetLists w (lim (packs (maxP ps) ps xs)) (.returned (.tuple #[.slice a 0 c, .int .i64 3])) w') := Lib.hid (fun a c w' h => by rw [← HLT.out, lim, if_neg hq2]; exact RetDC.none _ _ _ h)
      go_wp2
      go_ret2
      exact HF.out _ _ _ (HB1.out.alloc HB1.out.size _)
set_option maxHeartbeats 2000000 in
theorem specMaximalPackings_d (xs : List Int) (ps : List (List Int)) {v u : Value} (w : World) (h1 : Rd Any w (dI xs) v) (h2 : Rd Any w (dII ps) u) :
    Calls Try.prog 54 #[v, u] w (RetLists w (packingsS maxP xs ps)) := by
  obtain ⟨a, c, rfl, hx⟩ := Rd_I.1 h1
  obtain ⟨b, c', rfl, hy⟩ := Rd_II.1 h2
  clear h1 h2
  have HC := Lib.hid (l01Asked_c Any Any a b c c' xs ps w hx hy)
  by_cases hcode : asked xs ps = 0
  · have HA := Lib.hid (l01All_c xs ps a b c c' w hx hy hcode)
    rw [hcode] at HC
    clear hcode
    go_enter Try.func54, Try.ntmps54
    go_wp2_with fail
    refine HC.out.mono ?_
    rintro e w0 ⟨rfl, rfl⟩
    go_wp2_with fail
    refine HA.out.mono ?_
    rintro e w3 ⟨v, F, rfl, h1, h2, h3, h4⟩
    have HXX := Lib.hid (show RetLists w (packingsS maxP xs ps) _ w3 from ⟨v, F, rfl, h1, h2, h3, h4⟩)
    clear h1 h2 h3 h4
    go_wp2
    go_ret2
    exact HXX.out
  · have hne : (asked xs ps != 0) = true := by simpa using hcode
    have ev : packingsS maxP xs ps = ([], asked xs ps) := by rw [packingsS, if_neg hcode]
    rw [ev]
    clear ev hcode
    go_enter Try.func54, Try.ntmps54
    go_wp2_with fail
    refine HC.out.mono ?_
    rintro e w0 ⟨rfl, rfl⟩
    go_wp2
    go_ret2
    exact RetDC.none _ _ _ (below_alloc _ _)
set_option maxHeartbeats 2000000 in
theorem specExactPackings_d (xs : List Int) (ps : List (List Int)) {v u : Value} (w : World) (h1 : Rd Any w (dI xs) v) (h2 : Rd Any w (dII ps) u) :
    Calls Try.prog 42 #[v, u] w (RetLists w (packingsS exactP xs ps)) := by
  obtain ⟨a, c, rfl, hx⟩ := Rd_I.1 h1
  obtain ⟨b, c', rfl, hy⟩ := Rd_II.1 h2
  clear h1 h2
  have HC := Lib.hid (l01Asked_c Any Any a b c c' xs ps w hx hy)
  by_cases hcode : asked xs ps = 0
  · have hcd := hcode
    obtain ⟨hA, hask⟩ := asked_ok hcode
    have hb8 := isBagS_len hA
    have hp8 := (askS_ok hask).2.1
    have HAT : Hid (∀ k, k < ps.length → isBagS (nthR ps k) = true ∧ (nthR ps k).length = xs.length ∧ ¬ sumS (nthR ps k) = 0) := Lib.hid (fun k hk => by have := askS_at hask hk; exact ⟨this.1, by omega, this.2.2⟩)
    have HSM := Lib.hid (isBagS_small hA)
    have HX := Lib.hid hx
    have HY := Lib.hid hy
    clear hA hask hx hy
    have HSZ := Lib.hid (l01Size_c Any a c xs w HX.out)
    rw [hcd] at HC
    by_cases hq : 16 < sumS xs
    · have ev : packingsS exactP xs ps = ([], 3) := by rw [packingsS, if_pos hcode, if_pos hq]
      rw [ev]
      clear ev hcode hcd
      go_enter Try.func42, Try.ntmps42
      go_wp2_with fail
      refine HC.out.mono ?_
      rintro e w1 ⟨rfl, rfl⟩
      go_wp2_with fail
      refine HSZ.out.mono ?_
      rintro e w1 ⟨rfl, rfl⟩
      go_wp2
      go_ret2
      exact RetDC.none _ _ _ (below_alloc _ _)
    · have ev : packingsS exactP xs ps = lim (packs (exactP ps) ps xs) := by rw [packingsS, if_pos hcode, if_neg hq]
      rw [ev]
      clear ev hcode hcd
      go_enter Try.func42, Try.ntmps42
      go_wp2_with fail
      refine HC.out.mono ?_
      rintro e w1 ⟨rfl, rfl⟩
      go_wp2_with fail
      refine HSZ.out.mono ?_
      rintro e w1 ⟨rfl, rfl⟩
      have hbx : Box 23 1 (((w.alloc (.cells #[] 23)).alloc (.cells #[.slice (some ⟨w.heap.size, 0, none⟩) 0 0] 22)).alloc (.cells #[] 2)) w.heap.size (w.heap.size + 1) ([] : List (List Int)).length (([] : List (List Int)).map dI) [w.heap.size] :=
        ⟨by simp [go_sem], ⟨_, by simp [go_sem], ((Lst.made 23 1 w w.heap.size (Nat.le_refl _)).below (below_alloc _ _)).below (below_alloc _ _)⟩, by simp⟩
      have hb0 : Below w.heap.size w (((w.alloc (.cells #[] 23)).alloc (.cells #[.slice (some ⟨w.heap.size, 0, none⟩) 0 0] 22)).alloc (.cells #[] 2)) := by repeat (first | exact Below.refl _ _ | refine Below.alloc ?_ (by simp <;> omega) _)
      have hsx : SlI (fun g => g ≠ w.heap.size + 1 ∧ g ∉ [w.heap.size]) (((w.alloc (.cells #[] 23)).alloc (.cells #[.slice (some ⟨w.heap.size, 0, none⟩) 0 0] 22)).alloc (.cells #[] 2)) a xs := by
        have h1 : SlI (fun g => g < w.heap.size) w a xs := HX.out.wider (fun g hg _ => hg)
        exact (h1.below hb0).wider (fun g _ hg => ⟨by omega, by simp; omega⟩)
      have hnil : SlI (fun g => g ≠ w.heap.size + 1 ∧ g ∉ [w.heap.size]) (((w.alloc (.cells #[] 23)).alloc (.cells #[.slice (some ⟨w.heap.size, 0, none⟩) 0 0] 22)).alloc (.cells #[] 2)) (some ⟨w.heap.size + 1 + 1, 0, none⟩) [] := ⟨by simp, fun h => absurd h (by simp), fun i hi => absurd hi (by simp)⟩
      have hcall := l01Exact_c w xs.length b c' ps HY.out (by omega) HAT hp8 (w.heap.size + 1) (by omega) ps.length [] [] [w.heap.size] _ a c xs (some ⟨w.heap.size + 1 + 1, 0, none⟩) 0 (by simp) (by simp) hb0 hbx hsx rfl HSM.out hnil
      have hnm : capA [] ((packs (exactP ps) (ps.drop ([] : List Int).length) xs).map (([] : List Int) ++ ·)) = (packs (exactP ps) ps xs).take 2001 := by simp [capA]
      rw [hnm] at hcall
      have HCL := Lib.hid hcall
      have HB0 := Lib.hid hb0
      clear hbx hnil hcall hnm hb0 hsx
      go_wp2_with fail
      refine HCL.out.mono ?_
      rintro e w1 ⟨rfl, G', hb', hc', hm'⟩
      have hb1 : Below w.heap.size w w1 := HB0.out.trans (hc'.below (by simp <;> omega) (fun g hg => by simp at hg; rcases hg with rfl | rfl <;> omega))
      obtain ⟨v, hc, hL⟩ := hb'.has
      obtain ⟨G2, hO, hN, hS⟩ := hL.ow (by omega) (by simp; unfold maxLen; omega)
      have hlt := hb'.lt
      obtain ⟨_, ao, cp, rfl⟩ := hL.val
      have HRD : Hid (RetDC w (dII ((packs (exactP ps) ps xs).take 2001)) 0 (.returned (.tuple #[.slice ao ((packs (exactP ps) ps xs).take 2001).length cp, .int .i64 0])) w1) := Lib.hid ⟨_, G2, rfl, hb1, hO, hN, fun g hg => (hlt.2 g (hS g hg)).1⟩
      have HB1 := Lib.hid hb1
      have HLT := Lib.hid (lim_take (packs (exactP ps) ps xs))
      have hlen : ((packs (exactP ps) ps xs).take 2001).length ≤ 2001 := by simp; omega
      obtain ⟨L2, hL2⟩ : ∃ L2, L2 = (packs (exactP ps) ps xs).take 2001 := ⟨_, rfl⟩
      rw [← hL2] at HRD HLT hc hlen
      clear hb' hc' hm' hb1 hL hO hN hS hlt hL2
      by_cases hq2 : L2.length ≤ 2000
      · have HF : Hid (RetLists w (lim (packs (exactP ps) ps xs)) (.returned (.tuple #[.slice ao L2.length cp, .int .i64 0])) w1) := Lib.hid (by rw [← HLT.out, lim, if_pos hq2]; exact HRD.out)
        go_wp2
        go_ret2
        exact HF.out
      · have HF : Hid (∀ a c w', Below w.heap.size w w' → RetLists w (lim (packs (exactP ps) ps xs)) (.returned (.tuple #[.slice a 0 c, .int .i64 3])) w') := Lib.hid (fun a c w' h => by rw [← HLT.out, lim, if_neg hq2]; exact RetDC.none _ _ _ h)
        go_wp2
        go_ret2
        exact HF.out _ _ _ (HB1.out.alloc HB1.out.size _)
  · have hne : (asked xs ps != 0) = true := by simpa using hcode
    have ev : packingsS exactP xs ps = ([], asked xs ps) := by rw [packingsS, if_neg hcode]
    rw [ev]
    clear ev hcode
    go_enter Try.func42, Try.ntmps42
    go_wp2_with fail
    refine HC.out.mono ?_
    rintro e w0 ⟨rfl, rfl⟩
    go_wp2
    go_ret2
    exact RetDC.none _ _ _ (below_alloc _ _)
end Go.Proofs.Ytdcpdipakglnnaa
