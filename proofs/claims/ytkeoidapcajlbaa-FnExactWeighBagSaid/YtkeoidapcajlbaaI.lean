/- Contracts of the exported functions on bags (second part): weigh, join, meet, scale, add, take. -/
import Derived.Test.YtkeoidapcajlbaaE
namespace Go.Proofs.Ytkeoidapcajlbaa
open Go.RowKit

theorem weigh1_c (x y : Int) (w : World) : Calls Try.prog 105 #[.int .i64 x, .int .i64 y] w (RetP w (.int .i64 (mulW x y))) := by
  go_enter Try.func105, Try.ntmps105
  go_wp2
  go_ret
  exact ⟨rfl, rfl⟩
theorem weigh_c (S : Nat → Prop) (a b : Option Addr) (c c' : Nat) (xs ys : List Int) (w : World) (hx : SlI S w a xs) (hy : SlI S w b ys) (hl : xs.length ≤ ys.length) (l1 : xs.length ≤ 4294967296) :
    Calls Try.prog 65 #[.slice a xs.length c, .slice b ys.length c'] w (RetV w (.int .i64 (weighS xs ys))) := by
  go_enter Try.func65, Try.ntmps65
  go_wp2_with fail
  refine (both_c 105 #[] mulW (callFunc_run Try.func105 (by kernel_rfl) rfl) S a b c c' xs ys w hx hy hl l1 (Lib.hid fun x y w' _ => weigh1_c x y w')).mono ?_
  rintro e w1 ⟨v, F, rfl, hb, ho, _, _⟩
  obtain ⟨a1, c1, rfl⟩ := ho.val
  go_wp2_with fail
  refine (bagSize_c Any _ _ _ _ ho.arg).mono ?_
  rintro e w' ⟨rfl, rfl⟩
  go_wp2
  go_ret
  exact ⟨rfl, hb⟩
theorem weighBag1_c (n : Int) (w : World) : Calls Try.prog 64 #[.int .i64 n] w (RetP w (.bool (!inRg n (-1000) 1000))) := by
  go_enter Try.func64, Try.ntmps64
  go_wp2_with fail
  refine (inRange_c _ _ _ _).mono ?_
  rintro e w' ⟨rfl, rfl⟩
  go_wp2
  go_ret
  exact ⟨rfl, rfl⟩
set_option maxHeartbeats 400000 in
theorem implWeighBag_c (S : Nat → Prop) (a b : Option Addr) (c c' : Nat) (xs ys : List Int) (w : World) (hx : SlI S w a xs) (hy : SlI S w b ys) :
    Calls Try.prog 24 #[.slice a xs.length c, .slice b ys.length c'] w (RetV w (.tuple #[.int .i64 (weighBagS xs ys).1, .int .i64 (weighBagS xs ys).2])) := by
  have l1 := hx.len
  have l2 := hy.len
  unfold maxLen at l1 l2
  cases h1 : isBagS xs
  · have H1 := Lib.hid h1
    clear h1
    go_enter Try.func24, Try.ntmps24
    go_wp2_with fail
    refine (isBag_c S _ _ _ _ hx).mono ?_
    rintro e w' ⟨rfl, rfl⟩
    rw [H1.out]
    go_wp2
    go_ret2
    exact ⟨by simp [weighBagS, H1.out], Below.refl _ _⟩
  · have H1 := Lib.hid h1
    clear h1
    have hlx := (isBagS_len H1.out).2
    cases h2 : ((ys.length : Int) != xs.length)
    · have hq : ys.length = xs.length := by simp at h2; omega
      have HQ := Lib.hid hq
      clear hq
      have hcf := containsFuncI_c 64 #[] (fun n => !inRg n (-1000) 1000) (callFunc_run Try.func64 (by kernel_rfl) rfl) S b c' ys w hy (Lib.hid fun x => weighBag1_c x w)
      rw [anyB_not] at hcf
      have Hcf := Lib.hid hcf
      clear hcf
      cases h3 : allB (fun n => inRg n (-1000) 1000) ys
      · have H3 := Lib.hid h3
        clear h3
        go_enter Try.func24, Try.ntmps24
        go_wp2_with fail
        refine (isBag_c S _ _ _ _ hx).mono ?_
        rintro e w' ⟨rfl, rfl⟩
        rw [H1.out]
        go_wp2_with fail
        refine Hcf.out.mono ?_
        rintro e w' ⟨rfl, rfl⟩
        rw [H3.out]
        go_wp2
        go_ret2
        exact ⟨by simp [weighBagS, H1.out, H3.out], Below.refl _ _⟩
      · have H3 := Lib.hid h3
        clear h3
        go_enter Try.func24, Try.ntmps24
        go_wp2_with fail
        refine (isBag_c S _ _ _ _ hx).mono ?_
        rintro e w' ⟨rfl, rfl⟩
        rw [H1.out]
        go_wp2_with fail
        refine Hcf.out.mono ?_
        rintro e w' ⟨rfl, rfl⟩
        rw [H3.out]
        go_wp2_with fail
        refine (weigh_c S _ _ _ _ _ _ _ hx hy (Nat.le_of_eq HQ.out.symm) (by omega)).mono ?_
        rintro e w' ⟨rfl, hb⟩
        go_wp2
        go_ret2
        exact ⟨by simp [weighBagS, H1.out, H3.out, HQ.out], hb⟩
    · have hq : ¬ ys.length = xs.length := by simp at h2; omega
      have HQ := Lib.hid hq
      clear hq
      go_enter Try.func24, Try.ntmps24
      go_wp2_with fail
      refine (isBag_c S _ _ _ _ hx).mono ?_
      rintro e w' ⟨rfl, rfl⟩
      rw [H1.out]
      go_wp2
      go_ret2
      exact ⟨by simp [weighBagS, H1.out, HQ.out], Below.refl _ _⟩
theorem sumTo_zip (g : Int → Int → Int) (xs ys : List Int) (n k : Nat) (h : k < n) : sumTo (zipF g xs ys n) (k + 1) = wrap64 (sumTo (zipF g xs ys n) k + g (nth xs k) (nth ys k)) := by
  rw [sumTo, zipF_at h]
set_option maxHeartbeats 800000 in
theorem specWeighBag_c (S : Nat → Prop) (a b : Option Addr) (c c' : Nat) (xs ys : List Int) (w : World) (hx : SlI S w a xs) (hy : SlI S w b ys) :
    Calls Try.prog 23 #[.slice a xs.length c, .slice b ys.length c'] w (RetQ w (.tuple #[.int .i64 (weighBagS xs ys).1, .int .i64 (weighBagS xs ys).2])) := by
  have l1 := hx.len
  have l2 := hy.len
  unfold maxLen at l1 l2
  cases h1 : isBagS xs
  · have H1 := Lib.hid h1
    clear h1
    go_enter Try.func23, Try.ntmps23
    go_wp2_with fail
    refine (l01Bag_c S _ _ _ _ hx).mono ?_
    rintro e w' ⟨rfl, rfl⟩
    rw [H1.out]
    go_wp2
    go_ret2
    exact ⟨by simp [weighBagS, H1.out], 0, rfl⟩
  · have H1 := Lib.hid h1
    clear h1
    have i1 := hx.ix tabI.under tabI.size c
    have i2 := hy.ix tabI.under tabI.size c'
    cases h2 : ((ys.length : Int) != xs.length)
    · have hq : ys.length = xs.length := by simp at h2; omega
      have HQ := Lib.hid hq
      clear hq
      go_enter Try.func23, Try.ntmps23
      go_wp2_with fail
      refine (l01Bag_c S _ _ _ _ hx).mono ?_
      rintro e w' ⟨rfl, rfl⟩
      rw [H1.out]
      go_wp2
      go_loopw [6, 7] (fun s i wr => ∃ k n : Nat, k ≤ ys.length ∧ i = .int .i64 k ∧ wr = w.drewN n ∧ s = .int .i64 (sumTo (zipF mulW xs ys xs.length) k) ∧ (∀ j, j < k → inRg (nth ys j) (-1000) 1000 = true)) (fun _ i _ => ys.length - (intOf i).toNat)
      case atStart => exact ⟨0, 0, Nat.zero_le _, rfl, rfl, rfl, by omega⟩
      case round =>
        obtain ⟨k, n, hk, rfl, rfl, rfl, hj⟩ := hrel
        have HJ := Lib.hid hj
        clear hj
        by_cases hlt : k < ys.length
        · have g2 := hy.cell k hlt
          have g1 := hx.cell k (by have := HQ.out; omega)
          have k2 : (k : Int) < xs.length := by have := HQ.out; omega
          go_wp2_with fail
          refine (l00In_c _ _ _ _).mono ?_
          rintro e w' ⟨rfl, rfl⟩
          cases hp : inRg (nth ys k) (-1000) 1000
          · have HP := Lib.hid hp
            clear hp
            go_wp2
            go_ret2
            exact ⟨by simp [weighBagS, H1.out, allB_false (p := fun n => inRg n (-1000) 1000) hlt HP.out], n, rfl⟩
          · have HP := Lib.hid hp
            clear hp
            go_wp2
            go_quiet (fail)
            go_wp2
            go_roundw
            case rel => exact ⟨k + 1, _, by omega, by go_num, rfl, by rw [sumTo_zip _ _ _ _ _ (by have := HQ.out; omega)]; rfl, upto HJ.out HP.out⟩
            case measure => simp [intOf]; omega
        · go_wp2
          go_ret2
          obtain rfl : k = ys.length := by omega
          refine ⟨?_, n, rfl⟩
          have ha := allB_true (p := fun n => inRg n (-1000) 1000) (xs := ys) HJ.out
          have hq := HQ.out
          simp [weighBagS, H1.out, ha, weighS, sumS, zipF_len, hq]
    · have hq : ¬ ys.length = xs.length := by simp at h2; omega
      have HQ := Lib.hid hq
      clear hq
      go_enter Try.func23, Try.ntmps23
      go_wp2_with fail
      refine (l01Bag_c S _ _ _ _ hx).mono ?_
      rintro e w' ⟨rfl, rfl⟩
      rw [H1.out]
      go_wp2
      refine wp_loop_rounds 1 ?_
      rw [rounds_succ]
      by_cases hlt : 0 < ys.length
      · have hlt' : (0 : Int) < ys.length := by omega
        go_wp2
        all_goals (go_ret2; exact ⟨by simp [weighBagS, H1.out, HQ.out], 0, rfl⟩)
      · have hlt' : ¬ (0 : Int) < ys.length := by omega
        go_wp2
        all_goals (go_ret2; exact ⟨by simp [weighBagS, H1.out, HQ.out], 0, rfl⟩)
theorem l00Max_c (x y : Int) (w : World) : Calls Try.prog 93 #[.int .i64 x, .int .i64 y] w (RetP w (.int .i64 (maxI x y))) := by
  by_cases h : y < x
  · have e : maxI x y = x := by simp [maxI, h]
    rw [e]; clear e
    go_enter Try.func93, Try.ntmps93
    go_wp2
    go_ret
    exact ⟨rfl, rfl⟩
  · have e : maxI x y = y := by simp [maxI, h]
    rw [e]; clear e
    go_enter Try.func93, Try.ntmps93
    go_wp2
    go_ret
    exact ⟨rfl, rfl⟩
theorem join1_c (x y : Int) (w : World) : Calls Try.prog 95 #[.int .i64 x, .int .i64 y] w (RetP w (.int .i64 (maxI x y))) := by
  have e : maxI x y = max x y := by unfold maxI; split <;> omega
  rw [e]; clear e
  go_enter Try.func95, Try.ntmps95
  go_wp2
  all_goals (go_ret; refine ⟨?_, rfl⟩)
  all_goals first | rfl | (refine ret_int ?_; omega)
theorem implJoinBags_c (S : Nat → Prop) (a b : Option Addr) (c c' : Nat) (xs ys : List Int) (w : World) (hx : SlI S w a xs) (hy : SlI S w b ys) :
    Calls Try.prog 46 #[.slice a xs.length c, .slice b ys.length c'] w (RetDC w (dI (joinS xs ys).1) (joinS xs ys).2) := by
  cases h : (twoS xs ys != 0)
  · have H0 : twoS xs ys = 0 := by simpa using h
    have hk := twoS_ok H0
    have hlx := (isBagS_len hk.1).2
    have H1 := Lib.hid hk.2.2
    clear hk
    have e : joinS xs ys = (zipF maxI xs ys xs.length, 0) := by simp [joinS, H0]
    rw [e]; clear e H0
    go_enter Try.func46, Try.ntmps46
    go_wp2_with fail
    refine (twoBags_c S _ _ _ _ _ _ _ hx hy).mono ?_
    rintro e w' ⟨rfl, rfl⟩
    go_wp2_with fail
    refine (both_c 95 #[] maxI (callFunc_run Try.func95 (by kernel_rfl) rfl) S a b c c' xs ys w hx hy (Nat.le_of_eq H1.out) (by omega) (Lib.hid fun x y w' _ => join1_c x y w')).mono ?_
    rintro e w1 ⟨v, F, rfl, hr⟩
    have HR := Lib.hid hr
    clear hr h
    go_wp2
    go_ret2
    exact ⟨v, F, rfl, HR.out⟩
  · have H0 : ¬ twoS xs ys = 0 := by simpa using h
    have e : joinS xs ys = ([], twoS xs ys) := by simp [joinS, H0]
    rw [e]; clear e H0
    go_enter Try.func46, Try.ntmps46
    go_wp2_with fail
    refine (twoBags_c S _ _ _ _ _ _ _ hx hy).mono ?_
    rintro e w' ⟨rfl, rfl⟩
    go_wp2
    go_ret2
    exact RetDC.none _ _ _ (Below.refl _ _)
set_option maxHeartbeats 800000 in
set_option maxRecDepth 100000 in
theorem specJoinBags_c (S : Nat → Prop) (a b : Option Addr) (c c' : Nat) (xs ys : List Int) (w : World) (hx : SlI S w a xs) (hy : SlI S w b ys) :
    Calls Try.prog 45 #[.slice a xs.length c, .slice b ys.length c'] w (RetDC w (dI (joinS xs ys).1) (joinS xs ys).2) := by
  cases h : (twoS xs ys != 0)
  · have H0 : twoS xs ys = 0 := by simpa using h
    have hk := twoS_ok H0
    have hlx := (isBagS_len hk.1).2
    have H1 := Lib.hid hk.2.2
    clear hk
    have e : joinS xs ys = (zipF maxI xs ys xs.length, 0) := by simp [joinS, H0]
    rw [e]; clear e H0
    have i1 := hx.ix tabI.under tabI.size c
    have i2 := hy.ix tabI.under tabI.size c'
    go_enter Try.func45, Try.ntmps45
    go_wp2_with fail
    refine (l01Two_c S _ _ _ _ _ _ _ hx hy).mono ?_
    rintro e w' ⟨rfl, rfl⟩
    go_wp2
    go_loopw [7, 8] (fun v i wr => ∃ k : Nat, k ≤ xs.length ∧ i = .int .i64 k ∧ Below w.heap.size w wr ∧ Bld 2 wr w.heap.size v ((zipF maxI xs ys k).map (.int .i64))) (fun _ i _ => xs.length - (intOf i).toNat)
    case atStart => exact ⟨0, Nat.zero_le _, rfl, (Below.refl _ _).alloc (Nat.le_refl _) _, Bld.empty 2 w _ (Nat.le_refl _)⟩
    case round =>
      obtain ⟨k, hk, rfl, hb, hbl⟩ := hrel
      by_cases hlt : k < xs.length
      · have g1 := (hx.below hb).cell k hlt
        have g2 := (hy.below hb).cell k (by have := H1.out; omega)
        have k2 : (k : Int) < ys.length := by have := H1.out; omega
        have hz := hb.size
        have HB := Lib.hid hb
        have HL := Lib.hid hbl
        clear hb hbl
        go_wp2_with fail
        have hbl' := fun o => HL.out.below (w' := wr.drew.alloc o) ((Below.refl _ _).drew.alloc (Nat.le_refl _) _)
        have hcl : (zipF maxI xs ys k).length < 4294967296 := by rw [zipF_len]; omega
        have hcall := fun (wx : World) => l00Max_c (nth xs k) (nth ys k) wx
        have hrun := callFunc_run Try.func93 (by kernel_rfl) rfl
        go_region_law (first
          | (refine step_callF rfl 93 #[.tmp 27, .tmp 31] _ rfl hrun #[.int .i64 (nth xs k), .int .i64 (nth ys k)] (by simp [Act.eval]) _ (hcall _) ?_)
          | (refine step_app rfl (.tmp 23) (.tmp 33) 25 rfl tabI rfl (by decide) w.heap.size _ _ rfl (hbl' _) wr.heap.size _ rfl rfl (by simp; rfl) (by simpa using hcl) (by simp; omega) ?_; intro v' w1 hbl1 hb1))
        all_goals
          rw [zipF_succ maxI] at hbl1
          clear hbl' g1 g2
          go_wp2
          go_roundw
          case rel => exact ⟨k + 1, by omega, by go_num, (HB.out.drew.alloc hz _).trans hb1, hbl1⟩
          case measure => simp [intOf]; omega
      · go_wp2
        go_ret2
        obtain rfl : k = xs.length := by omega
        exact RetDC.ofD (RetD.ofBld hbl (by rw [zipF_len]; unfold maxLen; omega) hb) (Below.refl _ _)
  · have H0 : ¬ twoS xs ys = 0 := by simpa using h
    have e : joinS xs ys = ([], twoS xs ys) := by simp [joinS, H0]
    rw [e]; clear e H0
    go_enter Try.func45, Try.ntmps45
    go_wp2_with fail
    refine (l01Two_c S _ _ _ _ _ _ _ hx hy).mono ?_
    rintro e w' ⟨rfl, rfl⟩
    go_wp2
    go_ret2
    exact RetDC.none _ _ _ (below_alloc _ _)
theorem l00Min_c (x y : Int) (w : World) : Calls Try.prog 96 #[.int .i64 x, .int .i64 y] w (RetP w (.int .i64 (minI x y))) := by
  by_cases h : x < y
  · have e : minI x y = x := by simp [minI, h]
    rw [e]; clear e
    go_enter Try.func96, Try.ntmps96
    go_wp2
    go_ret
    exact ⟨rfl, rfl⟩
  · have e : minI x y = y := by simp [minI, h]
    rw [e]; clear e
    go_enter Try.func96, Try.ntmps96
    go_wp2
    go_ret
    exact ⟨rfl, rfl⟩
theorem meet1_c (x y : Int) (w : World) : Calls Try.prog 97 #[.int .i64 x, .int .i64 y] w (RetP w (.int .i64 (minI x y))) := by
  have e : minI x y = min x y := by unfold minI; split <;> omega
  rw [e]; clear e
  go_enter Try.func97, Try.ntmps97
  go_wp2
  all_goals (go_ret; refine ⟨?_, rfl⟩)
  all_goals first | rfl | (refine ret_int ?_; omega)
theorem implMeetBags_c (S : Nat → Prop) (a b : Option Addr) (c c' : Nat) (xs ys : List Int) (w : World) (hx : SlI S w a xs) (hy : SlI S w b ys) :
    Calls Try.prog 50 #[.slice a xs.length c, .slice b ys.length c'] w (RetDC w (dI (meetS xs ys).1) (meetS xs ys).2) := by
  cases h : (twoS xs ys != 0)
  · have H0 : twoS xs ys = 0 := by simpa using h
    have hk := twoS_ok H0
    have hlx := (isBagS_len hk.1).2
    have H1 := Lib.hid hk.2.2
    clear hk
    have e : meetS xs ys = (zipF minI xs ys xs.length, 0) := by simp [meetS, H0]
    rw [e]; clear e H0
    go_enter Try.func50, Try.ntmps50
    go_wp2_with fail
    refine (twoBags_c S _ _ _ _ _ _ _ hx hy).mono ?_
    rintro e w' ⟨rfl, rfl⟩
    go_wp2_with fail
    refine (both_c 97 #[] minI (callFunc_run Try.func97 (by kernel_rfl) rfl) S a b c c' xs ys w hx hy (Nat.le_of_eq H1.out) (by omega) (Lib.hid fun x y w' _ => meet1_c x y w')).mono ?_
    rintro e w1 ⟨v, F, rfl, hr⟩
    have HR := Lib.hid hr
    clear hr h
    go_wp2
    go_ret2
    exact ⟨v, F, rfl, HR.out⟩
  · have H0 : ¬ twoS xs ys = 0 := by simpa using h
    have e : meetS xs ys = ([], twoS xs ys) := by simp [meetS, H0]
    rw [e]; clear e H0
    go_enter Try.func50, Try.ntmps50
    go_wp2_with fail
    refine (twoBags_c S _ _ _ _ _ _ _ hx hy).mono ?_
    rintro e w' ⟨rfl, rfl⟩
    go_wp2
    go_ret2
    exact RetDC.none _ _ _ (Below.refl _ _)
set_option maxHeartbeats 800000 in
set_option maxRecDepth 100000 in
theorem specMeetBags_c (S : Nat → Prop) (a b : Option Addr) (c c' : Nat) (xs ys : List Int) (w : World) (hx : SlI S w a xs) (hy : SlI S w b ys) :
    Calls Try.prog 49 #[.slice a xs.length c, .slice b ys.length c'] w (RetDC w (dI (meetS xs ys).1) (meetS xs ys).2) := by
  cases h : (twoS xs ys != 0)
  · have H0 : twoS xs ys = 0 := by simpa using h
    have hk := twoS_ok H0
    have hlx := (isBagS_len hk.1).2
    have H1 := Lib.hid hk.2.2
    clear hk
    have e : meetS xs ys = (zipF minI xs ys xs.length, 0) := by simp [meetS, H0]
    rw [e]; clear e H0
    have i1 := hx.ix tabI.under tabI.size c
    have i2 := hy.ix tabI.under tabI.size c'
    go_enter Try.func49, Try.ntmps49
    go_wp2_with fail
    refine (l01Two_c S _ _ _ _ _ _ _ hx hy).mono ?_
    rintro e w' ⟨rfl, rfl⟩
    go_wp2
    go_loopw [7, 8] (fun v i wr => ∃ k : Nat, k ≤ xs.length ∧ i = .int .i64 k ∧ Below w.heap.size w wr ∧ Bld 2 wr w.heap.size v ((zipF minI xs ys k).map (.int .i64))) (fun _ i _ => xs.length - (intOf i).toNat)
    case atStart => exact ⟨0, Nat.zero_le _, rfl, (Below.refl _ _).alloc (Nat.le_refl _) _, Bld.empty 2 w _ (Nat.le_refl _)⟩
    case round =>
      obtain ⟨k, hk, rfl, hb, hbl⟩ := hrel
      by_cases hlt : k < xs.length
      · have g1 := (hx.below hb).cell k hlt
        have g2 := (hy.below hb).cell k (by have := H1.out; omega)
        have k2 : (k : Int) < ys.length := by have := H1.out; omega
        have hz := hb.size
        have HB := Lib.hid hb
        have HL := Lib.hid hbl
        clear hb hbl
        go_wp2_with fail
        have hbl' := fun o => HL.out.below (w' := wr.drew.alloc o) ((Below.refl _ _).drew.alloc (Nat.le_refl _) _)
        have hcl : (zipF minI xs ys k).length < 4294967296 := by rw [zipF_len]; omega
        have hcall := fun (wx : World) => l00Min_c (nth xs k) (nth ys k) wx
        have hrun := callFunc_run Try.func96 (by kernel_rfl) rfl
        go_region_law (first
          | (refine step_callF rfl 96 #[.tmp 27, .tmp 31] _ rfl hrun #[.int .i64 (nth xs k), .int .i64 (nth ys k)] (by simp [Act.eval]) _ (hcall _) ?_)
          | (refine step_app rfl (.tmp 23) (.tmp 33) 25 rfl tabI rfl (by decide) w.heap.size _ _ rfl (hbl' _) wr.heap.size _ rfl rfl (by simp; rfl) (by simpa using hcl) (by simp; omega) ?_; intro v' w1 hbl1 hb1))
        all_goals
          rw [zipF_succ minI] at hbl1
          clear hbl' g1 g2
          go_wp2
          go_roundw
          case rel => exact ⟨k + 1, by omega, by go_num, (HB.out.drew.alloc hz _).trans hb1, hbl1⟩
          case measure => simp [intOf]; omega
      · go_wp2
        go_ret2
        obtain rfl : k = xs.length := by omega
        exact RetDC.ofD (RetD.ofBld hbl (by rw [zipF_len]; unfold maxLen; omega) hb) (Below.refl _ _)
  · have H0 : ¬ twoS xs ys = 0 := by simpa using h
    have e : meetS xs ys = ([], twoS xs ys) := by simp [meetS, H0]
    rw [e]; clear e H0
    go_enter Try.func49, Try.ntmps49
    go_wp2_with fail
    refine (l01Two_c S _ _ _ _ _ _ _ hx hy).mono ?_
    rintro e w' ⟨rfl, rfl⟩
    go_wp2
    go_ret2
    exact RetDC.none _ _ _ (below_alloc _ _)
set_option maxHeartbeats 800000 in
theorem specScaleBag_c (f : Int) (S : Nat → Prop) (a : Option Addr) (c : Nat) (xs : List Int) (w : World) (hx : SlI S w a xs) :
    Calls Try.prog 51 #[.slice a xs.length c, .int .i64 f] w (RetDC w (dI (scaleS xs f).1) (scaleS xs f).2) := by
  cases h1 : isBagS xs
  · have H1 := Lib.hid h1
    have e : scaleS xs f = ([], 1) := by simp [scaleS, h1]
    rw [e]; clear e h1
    go_enter Try.func51, Try.ntmps51
    go_wp2_with fail
    refine (l01Bag_c S _ _ _ _ hx).mono ?_
    rintro e w' ⟨rfl, rfl⟩
    rw [H1.out]
    go_wp2
    go_ret2
    exact RetDC.none _ _ _ (by first | exact Below.refl _ _ | exact below_alloc _ _)
  · have H1 := Lib.hid h1
    have hlx := (isBagS_len h1).2
    cases h2 : inRg f 0 100
    · have H2 := Lib.hid h2
      have e : scaleS xs f = ([], 2) := by simp [scaleS, h1, h2]
      rw [e]; clear e h1 h2
      go_enter Try.func51, Try.ntmps51
      go_wp2_with fail
      refine (l01Bag_c S _ _ _ _ hx).mono ?_
      rintro e w' ⟨rfl, rfl⟩
      rw [H1.out]
      go_wp2_with fail
      refine (l00In_c _ _ _ _).mono ?_
      rintro e w' ⟨rfl, rfl⟩
      rw [H2.out]
      go_wp2
      go_ret2
      exact RetDC.none _ _ _ (by first | exact Below.refl _ _ | exact below_alloc _ _)
    · have H2 := Lib.hid h2
      have e : scaleS xs f = toldS (plusS (List.replicate xs.length 0) xs f) := by simp [scaleS, h1, h2]
      rw [e]; clear e h1 h2
      go_enter Try.func51, Try.ntmps51
      go_wp2_with fail
      refine (l01Bag_c S _ _ _ _ hx).mono ?_
      rintro e w' ⟨rfl, rfl⟩
      rw [H1.out]
      go_wp2_with fail
      refine (l00In_c _ _ _ _).mono ?_
      rintro e w' ⟨rfl, rfl⟩
      rw [H2.out]
      go_wp2_with (at_make; refine make_one rfl _ _ 25 rfl tabI rfl (by decide) xs.length _ _ rfl rfl rfl rfl (by omega) w.heap.size (Nat.le_refl _) ?_)
      intro w0 hbl0 hb0 hz0
      have hs0 : SlI Any w0 (some ⟨w.heap.size, 0, none⟩) (List.replicate xs.length 0) := (SlI.ofBld (xs := List.replicate xs.length 0) (n := xs.length) (c := xs.length) (by simpa using hbl0) (by simp; unfold maxLen; omega)).any
      have HP := l01Plus_c Any _ _ xs.length c _ _ f w0 hs0 (hx.any.below hb0) (by simp) (by simp; omega)
      rw [List.length_replicate] at HP
      have HPl := Lib.hid HP
      clear HP hbl0
      go_wp2_with fail
      refine HPl.out.mono ?_
      rintro e w1 ⟨v, F, rfl, hb1, ho, hn, hF⟩
      obtain ⟨a1, c1, rfl⟩ := ho.val
      go_wp2_with fail
      refine (l01Told_c Any _ _ _ _ ho.arg).mono ?_
      intro e w2 ht
      have hr := ht.dc (w0 := w) ho hn (fun g hg => Nat.le_trans hb0.size (hF g hg)) (bnext hb0 hb1 (Nat.le_refl _))
      obtain ⟨v2, F2, rfl, hr2⟩ := hr
      have HR := Lib.hid hr2
      clear hr2 ht
      go_wp2
      go_ret2
      exact ⟨v2, F2, rfl, HR.out⟩
set_option maxHeartbeats 800000 in
theorem implScaleBag_c (f : Int) (S : Nat → Prop) (a : Option Addr) (c : Nat) (xs : List Int) (w : World) (hx : SlI S w a xs) :
    Calls Try.prog 52 #[.slice a xs.length c, .int .i64 f] w (RetDC w (dI (scaleS xs f).1) (scaleS xs f).2) := by
  cases h1 : isBagS xs
  · have H1 := Lib.hid h1
    have e : scaleS xs f = ([], 1) := by simp [scaleS, h1]
    rw [e]; clear e h1
    go_enter Try.func52, Try.ntmps52
    go_wp2_with fail
    refine (isBag_c S _ _ _ _ hx).mono ?_
    rintro e w' ⟨rfl, rfl⟩
    rw [H1.out]
    go_wp2
    go_ret2
    exact RetDC.none _ _ _ (by first | exact Below.refl _ _ | exact below_alloc _ _)
  · have H1 := Lib.hid h1
    have hlx := (isBagS_len h1).2
    cases h2 : inRg f 0 100
    · have H2 := Lib.hid h2
      have e : scaleS xs f = ([], 2) := by simp [scaleS, h1, h2]
      rw [e]; clear e h1 h2
      go_enter Try.func52, Try.ntmps52
      go_wp2_with fail
      refine (isBag_c S _ _ _ _ hx).mono ?_
      rintro e w' ⟨rfl, rfl⟩
      rw [H1.out]
      go_wp2_with fail
      refine (inRange_c _ _ _ _).mono ?_
      rintro e w' ⟨rfl, rfl⟩
      rw [H2.out]
      go_wp2
      go_ret2
      exact RetDC.none _ _ _ (by first | exact Below.refl _ _ | exact below_alloc _ _)
    · have H2 := Lib.hid h2
      have e : scaleS xs f = toldS (plusS (List.replicate xs.length 0) xs f) := by simp [scaleS, h1, h2]
      rw [e]; clear e h1 h2
      go_enter Try.func52, Try.ntmps52
      go_wp2_with fail
      refine (isBag_c S _ _ _ _ hx).mono ?_
      rintro e w' ⟨rfl, rfl⟩
      rw [H1.out]
      go_wp2_with fail
      refine (inRange_c _ _ _ _).mono ?_
      rintro e w' ⟨rfl, rfl⟩
      rw [H2.out]
      go_wp2_with (at_make; refine make_one rfl _ _ 25 rfl tabI rfl (by decide) xs.length _ _ rfl rfl rfl rfl (by omega) w.heap.size (Nat.le_refl _) ?_)
      intro w0 hbl0 hb0 hz0
      have hs0 : SlI Any w0 (some ⟨w.heap.size, 0, none⟩) (List.replicate xs.length 0) := (SlI.ofBld (xs := List.replicate xs.length 0) (n := xs.length) (c := xs.length) (by simpa using hbl0) (by simp; unfold maxLen; omega)).any
      have HP := plus_c Any _ _ xs.length c _ _ f w0 hs0 (hx.any.below hb0) (by simp) (by simp; omega)
      rw [List.length_replicate] at HP
      have HPl := Lib.hid HP
      clear HP hbl0
      go_wp2_with fail
      refine HPl.out.mono ?_
      rintro e w1 ⟨v, F, rfl, hb1, ho, hn, hF⟩
      obtain ⟨a1, c1, rfl⟩ := ho.val
      go_wp2_with fail
      refine (bagOrLimit_c Any _ _ _ _ ho.arg).mono ?_
      intro e w2 ht
      have hr := ht.dc (w0 := w) ho hn (fun g hg => Nat.le_trans hb0.size (hF g hg)) (bnext hb0 hb1 (Nat.le_refl _))
      obtain ⟨v2, F2, rfl, hr2⟩ := hr
      have HR := Lib.hid hr2
      clear hr2 ht
      go_wp2
      go_ret2
      exact ⟨v2, F2, rfl, HR.out⟩
end Go.Proofs.Ytkeoidapcajlbaa
