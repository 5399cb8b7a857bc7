/- Contracts of the small functions on bags: ranges, sizes, looks at lists. -/
import Derived.Test.YtbnikblhnibgiaaDoorProg
import Derived.Test.YtbnikblhnibgiaaDoorB
import Derived.Test.YtbnikblhnibgiaaDoorG
namespace Go.Proofs.YtbnikblhnibgiaaDoor
open Go.RowKit

theorem tabI : Tab Tryd.prog 22 2 (.int .i64 0) 1 8 := ⟨by kernel_rfl, by kernel_rfl⟩

theorem inRange_c (a b c : Int) (w : World) : Calls Tryd.prog 24 #[.int .i64 a, .int .i64 b, .int .i64 c] w (RetP w (.bool (inRg a b c))) := by
  go_enter Tryd.func24, Tryd.ntmps24
  go_wp2
  all_goals (go_ret; refine ⟨ret_bool ?_, rfl⟩)
  · have h : b ≤ a := by assumption
    simp [inRg, h]
  · have h : a < b := by assumption
    simp only [inRg, show ¬ b ≤ a by omega, decide_false, Bool.false_and]
theorem l00In_c (a b c : Int) (w : World) : Calls Tryd.prog 22 #[.int .i64 a, .int .i64 b, .int .i64 c] w (RetP w (.bool (inRg a b c))) := by
  go_enter Tryd.func22, Tryd.ntmps22
  go_wp2
  all_goals (go_ret; refine ⟨ret_bool ?_, rfl⟩)
  · have h : b ≤ a := by assumption
    simp [inRg, h]
  · have h : a < b := by assumption
    simp only [inRg, show ¬ b ≤ a by omega, decide_false, Bool.false_and]
theorem size_int_c (a : Option Addr) (n c : Nat) (w : World) (_hn : n ≤ maxLen) : Calls Tryd.prog 33 #[.slice a n c] w (RetP w (.int .i64 n)) := by
  unfold maxLen at _hn
  go_enter Tryd.func33, Tryd.ntmps33
  go_wp2
  go_ret
  exact ⟨rfl, rfl⟩
set_option maxHeartbeats 400000 in
theorem l01Bag_c (S : Nat → Prop) (a : Option Addr) (c : Nat) (xs : List Int) (w : World) (hx : SlI S w a xs) :
    Calls Tryd.prog 31 #[.slice a xs.length c] w (RetP w (.bool (isBagS xs))) := by
  have l1 := hx.len
  unfold maxLen at l1
  have i1 := hx.ix tabI.under tabI.size c
  go_enter Tryd.func31, Tryd.ntmps31
  go_wp2
  go_loopw [3] (fun i wr => ∃ k : Nat, k ≤ xs.length ∧ i = .int .i64 k ∧ w = wr ∧ (∀ j, j < k → cntOk (nth xs j) = true)) (fun i _ => xs.length - (intOf i).toNat)
  case atStart => exact ⟨0, Nat.zero_le _, rfl, rfl, by omega⟩
  case round =>
      obtain ⟨k, hk, rfl, rfl, hj⟩ := hrel
      have HJ := Lib.hid hj
      clear hj
      by_cases hlt : k < xs.length
      · have g1 := hx.cell k hlt
        go_wp2_with fail
        refine (l00In_c _ _ _ _).mono ?_
        rintro e w' ⟨rfl, rfl⟩
        cases hp : inRg (nth xs k) 0 1000
        · go_wp2
          go_ret
          exact ⟨ret_bool (by simp [isBagS, allB_false hlt (p := cntOk) hp]), rfl⟩
        · have hp' := Lib.hid hp
          clear hp
          go_wp2
          go_roundw
          case rel => exact ⟨k + 1, by omega, by go_num, trivial, upto HJ.out hp'.out⟩
          case measure => simp [intOf]; omega
      · go_wp2_with fail
        refine (l00In_c _ _ _ _).mono ?_
        rintro e w' ⟨rfl, rfl⟩
        go_wp2
        go_ret
        have e : k = xs.length := by omega
        exact ⟨ret_bool (by simp [isBagS, allB_true (p := cntOk) (xs := xs) (e ▸ HJ.out)]), rfl⟩
set_option maxHeartbeats 400000 in
theorem indexFuncI_c (f : FuncId) (caps : Array Value) (p : Int → Bool) (hcall : ∀ args w, (callFunc f args).run Tryd.prog w = .ok (.enter f args) w)
   (S : Nat → Prop) (a : Option Addr) (c : Nat) (xs : List Int) (w : World) (hx : SlI S w a xs)
   (hf : Hid (∀ x, Calls Tryd.prog f (#[.int .i64 x] ++ caps) w (RetP w (.bool (p x))))) :
    Calls Tryd.prog 58 #[.slice a xs.length c, .func (.func f) #[] caps] w (RetP w (.int .i64 (idxF p xs))) := by
  have l1 := hx.len
  unfold maxLen at l1
  have i1 := hx.ix tabI.under tabI.size c
  go_enter Tryd.func58, Tryd.ntmps58
  go_wp2
  go_loopw [5, 8] (fun _ i wr => ∃ k : Nat, k ≤ xs.length ∧ i = .int .i64 k ∧ w = wr ∧ (∀ j, j < k → p (nth xs j) = false)) (fun _ i _ => xs.length - (intOf i).toNat)
  case atStart => exact ⟨0, Nat.zero_le _, rfl, rfl, by omega⟩
  case round =>
      obtain ⟨k, hk, rfl, rfl, hj⟩ := hrel
      have HJ := Lib.hid hj
      clear hj
      by_cases hlt : k < xs.length
      · have g1 := hx.cell k hlt
        go_wp2_with fail
        refine (hf.out _).mono ?_
        rintro e w' ⟨rfl, rfl⟩
        cases hp : p (nth xs k)
        · have hp' := Lib.hid hp
          clear hp
          go_wp2
          go_roundw
          case rel => exact ⟨k + 1, by omega, by go_num, trivial, upto HJ.out hp'.out⟩
          case measure => simp [intOf]; omega
        · go_wp2
          go_ret
          exact ⟨ret_int (idxF_at hlt HJ.out hp).symm, rfl⟩
      · go_wp2
        go_ret
        have e : k = xs.length := by omega
        exact ⟨ret_int (idxF_none (e ▸ HJ.out)).symm, rfl⟩
theorem containsFuncI_c (f : FuncId) (caps : Array Value) (p : Int → Bool) (hcall : ∀ args w, (callFunc f args).run Tryd.prog w = .ok (.enter f args) w)
   (S : Nat → Prop) (a : Option Addr) (c : Nat) (xs : List Int) (w : World) (hx : SlI S w a xs)
   (hf : Hid (∀ x, Calls Tryd.prog f (#[.int .i64 x] ++ caps) w (RetP w (.bool (p x))))) :
    Calls Tryd.prog 34 #[.slice a xs.length c, .func (.func f) #[] caps] w (RetP w (.bool (anyB p xs))) := by
  go_enter Tryd.func34, Tryd.ntmps34
  go_wp2_with fail
  refine (indexFuncI_c f caps p hcall S a c xs w hx hf).mono ?_
  rintro e w' ⟨rfl, rfl⟩
  go_wp2
  go_ret
  exact ⟨ret_bool (idxF_any p xs), rfl⟩
theorem validBag1_c (n : Int) (w : World) : Calls Tryd.prog 35 #[.int .i64 n] w (RetP w (.bool (!cntOk n))) := by
  go_enter Tryd.func35, Tryd.ntmps35
  go_wp2_with fail
  refine (inRange_c _ _ _ _).mono ?_
  rintro e w' ⟨rfl, rfl⟩
  go_wp2
  go_ret
  exact ⟨rfl, rfl⟩
set_option maxHeartbeats 400000 in
theorem validBag_c (kinds : Int) (S : Nat → Prop) (a : Option Addr) (c : Nat) (xs : List Int) (w : World) (hx : SlI S w a xs) :
    Calls Tryd.prog 16 #[.int .i64 kinds, .slice a xs.length c] w (RetP w (.bool (validBagS kinds xs))) := by
  have l1 := hx.len
  have hcf := containsFuncI_c 35 #[] (fun n => !cntOk n) (callFunc_run Tryd.func35 (by kernel_rfl) rfl) S a c xs w hx (Lib.hid fun x => validBag1_c x w)
  rw [anyB_not] at hcf
  have Hcf := Lib.hid hcf
  clear hcf
  cases h1 : inRg kinds 1 8
  · have H1 := Lib.hid h1
    clear h1
    go_enter Tryd.func16, Tryd.ntmps16
    go_wp2_with fail
    refine (inRange_c _ _ _ _).mono ?_
    rintro e w' ⟨rfl, rfl⟩
    rw [H1.out]
    go_wp2
    go_ret
    refine ⟨ret_bool ?_, rfl⟩
    symm
    have := H1.out
    by_cases hk : (xs.length : Int) = kinds
    · subst hk; simp [validBagS, isBagS, this]
    · simp [validBagS, hk]
  · have H1 := Lib.hid h1
    clear h1
    cases h2 : ((xs.length : Int) == kinds)
    · have H2 := Lib.hid h2
      go_enter Tryd.func16, Tryd.ntmps16
      go_wp2_with fail
      refine (inRange_c _ _ _ _).mono ?_
      rintro e w' ⟨rfl, rfl⟩
      rw [H1.out]
      go_wp2_with fail
      refine (size_int_c _ _ _ _ l1).mono ?_
      rintro e w' ⟨rfl, rfl⟩
      go_wp2
      go_ret
      exact ⟨ret_bool (by rw [validBagS, H2.out]; simp), rfl⟩
    · have H2 := Lib.hid h2
      go_enter Tryd.func16, Tryd.ntmps16
      go_wp2_with fail
      refine (inRange_c _ _ _ _).mono ?_
      rintro e w' ⟨rfl, rfl⟩
      rw [H1.out]
      go_wp2_with fail
      refine (size_int_c _ _ _ _ l1).mono ?_
      rintro e w' ⟨rfl, rfl⟩
      go_wp2_with fail
      refine Hcf.out.mono ?_
      rintro e w' ⟨rfl, rfl⟩
      go_wp2
      go_ret
      refine ⟨ret_bool ?_, rfl⟩
      have hk : (xs.length : Int) = kinds := by simpa using H2.out
      have h1' := H1.out
      subst hk
      simp [validBagS, isBagS, h1']
theorem isBag_c (S : Nat → Prop) (a : Option Addr) (c : Nat) (xs : List Int) (w : World) (hx : SlI S w a xs) :
    Calls Tryd.prog 29 #[.slice a xs.length c] w (RetP w (.bool (isBagS xs))) := by
  have l1 := hx.len
  go_enter Tryd.func29, Tryd.ntmps29
  go_wp2_with fail
  refine (size_int_c _ _ _ _ l1).mono ?_
  rintro e w' ⟨rfl, rfl⟩
  go_wp2_with fail
  refine (validBag_c _ S _ _ _ _ hx).mono ?_
  rintro e w' ⟨rfl, rfl⟩
  go_wp2
  go_ret
  exact ⟨ret_bool (by simp [validBagS]), rfl⟩
/- Contracts of the functions on bags that look at two bags, add, scale and weigh. -/
