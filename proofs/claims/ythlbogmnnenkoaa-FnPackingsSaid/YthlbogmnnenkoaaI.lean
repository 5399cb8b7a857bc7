/- Contracts of the exported functions on bags (second part): weigh, join, meet, scale, add, take. -/
import Derived.Test.YthlbogmnnenkoaaE
namespace Go.Proofs.Ythlbogmnnenkoaa
open Go.RowKit

theorem weigh1_c (x y : Int) (w : World) : Calls Try.prog 232 #[.int .i64 x, .int .i64 y] w (RetP w (.int .i64 (mulW x y))) := by
  go_enter Try.func232, Try.ntmps232
  go_wp2
  go_ret
  exact ⟨rfl, rfl⟩
theorem weigh_c (S : Nat → Prop) (a b : Option Addr) (c c' : Nat) (xs ys : List Int) (w : World) (hx : SlI S w a xs) (hy : SlI S w b ys) (hl : xs.length ≤ ys.length) (l1 : xs.length ≤ 4294967296) :
    Calls Try.prog 157 #[.slice a xs.length c, .slice b ys.length c'] w (RetV w (.int .i64 (weighS xs ys))) := by
  go_enter Try.func157, Try.ntmps157
  go_wp2_with fail
  refine (both_c 232 #[] mulW (callFunc_run Try.func232 (by kernel_rfl) rfl) S a b c c' xs ys w hx hy hl l1 (Lib.hid fun x y w' _ => weigh1_c x y w')).mono ?_
  rintro e w1 ⟨v, F, rfl, hb, ho, _, _⟩
  obtain ⟨a1, c1, rfl⟩ := ho.val
  go_wp2_with fail
  refine (bagSize_c Any _ _ _ _ ho.arg).mono ?_
  rintro e w' ⟨rfl, rfl⟩
  go_wp2
  go_ret
  exact ⟨rfl, hb⟩
theorem weighBag1_c (n : Int) (w : World) : Calls Try.prog 155 #[.int .i64 n] w (RetP w (.bool (!inRg n (-1000) 1000))) := by
  go_enter Try.func155, Try.ntmps155
  go_wp2_with fail
  refine (inRange_c _ _ _ _).mono ?_
  rintro e w' ⟨rfl, rfl⟩
  go_wp2
  go_ret
  exact ⟨rfl, rfl⟩
set_option maxHeartbeats 400000 in
theorem implWeighBag_c (S : Nat → Prop) (a b : Option Addr) (c c' : Nat) (xs ys : List Int) (w : World) (hx : SlI S w a xs) (hy : SlI S w b ys) :
    Calls Try.prog 51 #[.slice a xs.length c, .slice b ys.length c'] w (RetV w (.tuple #[.int .i64 (weighBagS xs ys).1, .int .i64 (weighBagS xs ys).2])) := by
  have l1 := hx.len
  have l2 := hy.len
  unfold maxLen at l1 l2
  cases h1 : isBagS xs
  · have H1 := Lib.hid h1
    clear h1
    go_enter Try.func51, Try.ntmps51
    go_wp2_with fail
    refine (isBag_c S _ _ _ _ hx).mono ?_
    rintro e w' ⟨rfl, rfl⟩
    rw [H1.out]
    go_wp2
    go_ret2
    exact ⟨by simp [weighBagS, H1.out], Below.refl _ _⟩
  · have H1 := Lib.hid h1
    clear h1
    have hlx := (isBagS_len H1.out).2
    cases h2 : ((ys.length : Int) != xs.length)
    · have hq : ys.length = xs.length := by simp at h2; omega
      have HQ := Lib.hid hq
      clear hq
      have hcf := containsFuncI_c 155 #[] (fun n => !inRg n (-1000) 1000) (callFunc_run Try.func155 (by kernel_rfl) rfl) S b c' ys w hy (Lib.hid fun x => weighBag1_c x w)
      rw [anyB_not] at hcf
      have Hcf := Lib.hid hcf
      clear hcf
      cases h3 : allB (fun n => inRg n (-1000) 1000) ys
      · have H3 := Lib.hid h3
        clear h3
        go_enter Try.func51, Try.ntmps51
        go_wp2_with fail
        refine (isBag_c S _ _ _ _ hx).mono ?_
        rintro e w' ⟨rfl, rfl⟩
        rw [H1.out]
        go_wp2_with fail
        refine Hcf.out.mono ?_
        rintro e w' ⟨rfl, rfl⟩
        rw [H3.out]
        go_wp2
        go_ret2
        exact ⟨by simp [weighBagS, H1.out, H3.out], Below.refl _ _⟩
      · have H3 := Lib.hid h3
        clear h3
        go_enter Try.func51, Try.ntmps51
        go_wp2_with fail
        refine (isBag_c S _ _ _ _ hx).mono ?_
        rintro e w' ⟨rfl, rfl⟩
        rw [H1.out]
        go_wp2_with fail
        refine Hcf.out.mono ?_
        rintro e w' ⟨rfl, rfl⟩
        rw [H3.out]
        go_wp2_with fail
        refine (weigh_c S _ _ _ _ _ _ _ hx hy (Nat.le_of_eq HQ.out.symm) (by omega)).mono ?_
        rintro e w' ⟨rfl, hb⟩
        go_wp2
        go_ret2
        exact ⟨by simp [weighBagS, H1.out, H3.out, HQ.out], hb⟩
    · have hq : ¬ ys.length = xs.length := by simp at h2; omega
      have HQ := Lib.hid hq
      clear hq
      go_enter Try.func51, Try.ntmps51
      go_wp2_with fail
      refine (isBag_c S _ _ _ _ hx).mono ?_
      rintro e w' ⟨rfl, rfl⟩
      rw [H1.out]
      go_wp2
      go_ret2
      exact ⟨by simp [weighBagS, H1.out, HQ.out], Below.refl _ _⟩
theorem join1_c (x y : Int) (w : World) : Calls Try.prog 152 #[.int .i64 x, .int .i64 y] w (RetP w (.int .i64 (maxI x y))) := by
  have e : maxI x y = max x y := by unfold maxI; split <;> omega
  rw [e]; clear e
  go_enter Try.func152, Try.ntmps152
  go_wp2
  all_goals (go_ret; refine ⟨?_, rfl⟩)
  all_goals first | rfl | (refine ret_int ?_; omega)
theorem implJoinBags_c (S : Nat → Prop) (a b : Option Addr) (c c' : Nat) (xs ys : List Int) (w : World) (hx : SlI S w a xs) (hy : SlI S w b ys) :
    Calls Try.prog 47 #[.slice a xs.length c, .slice b ys.length c'] w (RetDC w (dI (joinS xs ys).1) (joinS xs ys).2) := by
  cases h : (twoS xs ys != 0)
  · have H0 : twoS xs ys = 0 := by simpa using h
    have hk := twoS_ok H0
    have hlx := (isBagS_len hk.1).2
    have H1 := Lib.hid hk.2.2
    clear hk
    have e : joinS xs ys = (zipF maxI xs ys xs.length, 0) := by simp [joinS, H0]
    rw [e]; clear e H0
    go_enter Try.func47, Try.ntmps47
    go_wp2_with fail
    refine (twoBags_c S _ _ _ _ _ _ _ hx hy).mono ?_
    rintro e w' ⟨rfl, rfl⟩
    go_wp2_with fail
    refine (both_c 152 #[] maxI (callFunc_run Try.func152 (by kernel_rfl) rfl) S a b c c' xs ys w hx hy (Nat.le_of_eq H1.out) (by omega) (Lib.hid fun x y w' _ => join1_c x y w')).mono ?_
    rintro e w1 ⟨v, F, rfl, hr⟩
    have HR := Lib.hid hr
    clear hr h
    go_wp2
    go_ret2
    exact ⟨v, F, rfl, HR.out⟩
  · have H0 : ¬ twoS xs ys = 0 := by simpa using h
    have e : joinS xs ys = ([], twoS xs ys) := by simp [joinS, H0]
    rw [e]; clear e H0
    go_enter Try.func47, Try.ntmps47
    go_wp2_with fail
    refine (twoBags_c S _ _ _ _ _ _ _ hx hy).mono ?_
    rintro e w' ⟨rfl, rfl⟩
    go_wp2
    go_ret2
    exact RetDC.none _ _ _ (Below.refl _ _)
theorem meet1_c (x y : Int) (w : World) : Calls Try.prog 151 #[.int .i64 x, .int .i64 y] w (RetP w (.int .i64 (minI x y))) := by
  have e : minI x y = min x y := by unfold minI; split <;> omega
  rw [e]; clear e
  go_enter Try.func151, Try.ntmps151
  go_wp2
  all_goals (go_ret; refine ⟨?_, rfl⟩)
  all_goals first | rfl | (refine ret_int ?_; omega)
theorem implMeetBags_c (S : Nat → Prop) (a b : Option Addr) (c c' : Nat) (xs ys : List Int) (w : World) (hx : SlI S w a xs) (hy : SlI S w b ys) :
    Calls Try.prog 46 #[.slice a xs.length c, .slice b ys.length c'] w (RetDC w (dI (meetS xs ys).1) (meetS xs ys).2) := by
  cases h : (twoS xs ys != 0)
  · have H0 : twoS xs ys = 0 := by simpa using h
    have hk := twoS_ok H0
    have hlx := (isBagS_len hk.1).2
    have H1 := Lib.hid hk.2.2
    clear hk
    have e : meetS xs ys = (zipF minI xs ys xs.length, 0) := by simp [meetS, H0]
    rw [e]; clear e H0
    go_enter Try.func46, Try.ntmps46
    go_wp2_with fail
    refine (twoBags_c S _ _ _ _ _ _ _ hx hy).mono ?_
    rintro e w' ⟨rfl, rfl⟩
    go_wp2_with fail
    refine (both_c 151 #[] minI (callFunc_run Try.func151 (by kernel_rfl) rfl) S a b c c' xs ys w hx hy (Nat.le_of_eq H1.out) (by omega) (Lib.hid fun x y w' _ => meet1_c x y w')).mono ?_
    rintro e w1 ⟨v, F, rfl, hr⟩
    have HR := Lib.hid hr
    clear hr h
    go_wp2
    go_ret2
    exact ⟨v, F, rfl, HR.out⟩
  · have H0 : ¬ twoS xs ys = 0 := by simpa using h
    have e : meetS xs ys = ([], twoS xs ys) := by simp [meetS, H0]
    rw [e]; clear e H0
    go_enter Try.func46, Try.ntmps46
    go_wp2_with fail
    refine (twoBags_c S _ _ _ _ _ _ _ hx hy).mono ?_
    rintro e w' ⟨rfl, rfl⟩
    go_wp2
    go_ret2
    exact RetDC.none _ _ _ (Below.refl _ _)
set_option maxHeartbeats 800000 in
theorem implScaleBag_c (f : Int) (S : Nat → Prop) (a : Option Addr) (c : Nat) (xs : List Int) (w : World) (hx : SlI S w a xs) :
    Calls Try.prog 55 #[.slice a xs.length c, .int .i64 f] w (RetDC w (dI (scaleS xs f).1) (scaleS xs f).2) := by
  cases h1 : isBagS xs
  · have H1 := Lib.hid h1
    have e : scaleS xs f = ([], 1) := by simp [scaleS, h1]
    rw [e]; clear e h1
    go_enter Try.func55, Try.ntmps55
    go_wp2_with fail
    refine (isBag_c S _ _ _ _ hx).mono ?_
    rintro e w' ⟨rfl, rfl⟩
    rw [H1.out]
    go_wp2
    go_ret2
    exact RetDC.none _ _ _ (by first | exact Below.refl _ _ | exact below_alloc _ _)
  · have H1 := Lib.hid h1
    have hlx := (isBagS_len h1).2
    cases h2 : inRg f 0 100
    · have H2 := Lib.hid h2
      have e : scaleS xs f = ([], 2) := by simp [scaleS, h1, h2]
      rw [e]; clear e h1 h2
      go_enter Try.func55, Try.ntmps55
      go_wp2_with fail
      refine (isBag_c S _ _ _ _ hx).mono ?_
      rintro e w' ⟨rfl, rfl⟩
      rw [H1.out]
      go_wp2_with fail
      refine (inRange_c _ _ _ _).mono ?_
      rintro e w' ⟨rfl, rfl⟩
      rw [H2.out]
      go_wp2
      go_ret2
      exact RetDC.none _ _ _ (by first | exact Below.refl _ _ | exact below_alloc _ _)
    · have H2 := Lib.hid h2
      have e : scaleS xs f = toldS (plusS (List.replicate xs.length 0) xs f) := by simp [scaleS, h1, h2]
      rw [e]; clear e h1 h2
      go_enter Try.func55, Try.ntmps55
      go_wp2_with fail
      refine (isBag_c S _ _ _ _ hx).mono ?_
      rintro e w' ⟨rfl, rfl⟩
      rw [H1.out]
      go_wp2_with fail
      refine (inRange_c _ _ _ _).mono ?_
      rintro e w' ⟨rfl, rfl⟩
      rw [H2.out]
      go_wp2_with (at_make; refine make_one rfl _ _ 34 rfl tabI rfl (by decide) xs.length _ _ rfl rfl rfl rfl (by omega) w.heap.size (Nat.le_refl _) ?_)
      intro w0 hbl0 hb0 hz0
      have hs0 : SlI Any w0 (some ⟨w.heap.size, 0, none⟩) (List.replicate xs.length 0) := (SlI.ofBld (xs := List.replicate xs.length 0) (n := xs.length) (c := xs.length) (by simpa using hbl0) (by simp; unfold maxLen; omega)).any
      have HP := plus_c Any _ _ xs.length c _ _ f w0 hs0 (hx.any.below hb0) (by simp) (by simp; omega)
      rw [List.length_replicate] at HP
      have HPl := Lib.hid HP
      clear HP hbl0
      go_wp2_with fail
      refine HPl.out.mono ?_
      rintro e w1 ⟨v, F, rfl, hb1, ho, hn, hF⟩
      obtain ⟨a1, c1, rfl⟩ := ho.val
      go_wp2_with fail
      refine (bagOrLimit_c Any _ _ _ _ ho.arg).mono ?_
      intro e w2 ht
      have hr := ht.dc (w0 := w) ho hn (fun g hg => Nat.le_trans hb0.size (hF g hg)) (bnext hb0 hb1 (Nat.le_refl _))
      obtain ⟨v2, F2, rfl, hr2⟩ := hr
      have HR := Lib.hid hr2
      clear hr2 ht
      go_wp2
      go_ret2
      exact ⟨v2, F2, rfl, HR.out⟩
end Go.Proofs.Ythlbogmnnenkoaa
