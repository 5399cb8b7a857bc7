/- Contracts of the small functions on bags: ranges, sizes, looks at lists. -/
import Derived.Test.YtdcpdipakglnnaaProg
import Derived.Test.YtdcpdipakglnnaaB
namespace Go.Proofs.Ytdcpdipakglnnaa
open Go.RowKit
theorem tabI : Tab Try.prog 23 2 (.int .i64 0) 1 8 := ⟨by kernel_rfl, by kernel_rfl⟩

theorem inRange_c (a b c : Int) (w : World) : Calls Try.prog 91 #[.int .i64 a, .int .i64 b, .int .i64 c] w (RetP w (.bool (inRg a b c))) := by
  go_enter Try.func91, Try.ntmps91
  go_wp2
  all_goals (go_ret; refine ⟨ret_bool ?_, rfl⟩)
  · have h : b ≤ a := by assumption
    simp [inRg, h]
  · have h : a < b := by assumption
    simp only [inRg, show ¬ b ≤ a by omega, decide_false, Bool.false_and]
theorem l00In_c (a b c : Int) (w : World) : Calls Try.prog 126 #[.int .i64 a, .int .i64 b, .int .i64 c] w (RetP w (.bool (inRg a b c))) := by
  go_enter Try.func126, Try.ntmps126
  go_wp2
  all_goals (go_ret; refine ⟨ret_bool ?_, rfl⟩)
  · have h : b ≤ a := by assumption
    simp [inRg, h]
  · have h : a < b := by assumption
    simp only [inRg, show ¬ b ≤ a by omega, decide_false, Bool.false_and]
theorem size_int_c (a : Option Addr) (n c : Nat) (w : World) (_hn : n ≤ maxLen) : Calls Try.prog 92 #[.slice a n c] w (RetP w (.int .i64 n)) := by
  unfold maxLen at _hn
  go_enter Try.func92, Try.ntmps92
  go_wp2
  go_ret
  exact ⟨rfl, rfl⟩
set_option maxHeartbeats 400000 in
theorem l01Bag_c (S : Nat → Prop) (a : Option Addr) (c : Nat) (xs : List Int) (w : World) (hx : SlI S w a xs) :
    Calls Try.prog 144 #[.slice a xs.length c] w (RetP w (.bool (isBagS xs))) := by
  have l1 := hx.len
  unfold maxLen at l1
  have i1 := hx.ix tabI.under tabI.size c
  go_enter Try.func144, Try.ntmps144
  go_wp2
  go_loopw [3] (fun i wr => ∃ k : Nat, k ≤ xs.length ∧ i = .int .i64 k ∧ w = wr ∧ (∀ j, j < k → cntOk (nth xs j) = true)) (fun i _ => xs.length - (intOf i).toNat)
  case atStart => exact ⟨0, Nat.zero_le _, rfl, rfl, by omega⟩
  case round =>
      obtain ⟨k, hk, rfl, rfl, hj⟩ := hrel
      have HJ := Lib.hid hj
      clear hj
      by_cases hlt : k < xs.length
      · have g1 := hx.cell k hlt
        go_wp2_with fail
        refine (l00In_c _ _ _ _).mono ?_
        rintro e w' ⟨rfl, rfl⟩
        cases hp : inRg (nth xs k) 0 1000
        · go_wp2
          go_ret
          exact ⟨ret_bool (by simp [isBagS, allB_false hlt (p := cntOk) hp]), rfl⟩
        · have hp' := Lib.hid hp
          clear hp
          go_wp2
          go_roundw
          case rel => exact ⟨k + 1, by omega, by go_num, trivial, upto HJ.out hp'.out⟩
          case measure => simp [intOf]; omega
      · go_wp2_with fail
        refine (l00In_c _ _ _ _).mono ?_
        rintro e w' ⟨rfl, rfl⟩
        go_wp2
        go_ret
        have e : k = xs.length := by omega
        exact ⟨ret_bool (by simp [isBagS, allB_true (p := cntOk) (xs := xs) (e ▸ HJ.out)]), rfl⟩
set_option maxHeartbeats 400000 in
theorem indexFuncI_c (f : FuncId) (caps : Array Value) (p : Int → Bool) (hcall : ∀ args w, (callFunc f args).run Try.prog w = .ok (.enter f args) w)
   (S : Nat → Prop) (a : Option Addr) (c : Nat) (xs : List Int) (w : World) (hx : SlI S w a xs)
   (hf : Hid (∀ x, Calls Try.prog f (#[.int .i64 x] ++ caps) w (RetP w (.bool (p x))))) :
    Calls Try.prog 190 #[.slice a xs.length c, .func (.func f) #[] caps] w (RetP w (.int .i64 (idxF p xs))) := by
  have l1 := hx.len
  unfold maxLen at l1
  have i1 := hx.ix tabI.under tabI.size c
  go_enter Try.func190, Try.ntmps190
  go_wp2
  go_loopw [5, 8] (fun _ i wr => ∃ k : Nat, k ≤ xs.length ∧ i = .int .i64 k ∧ w = wr ∧ (∀ j, j < k → p (nth xs j) = false)) (fun _ i _ => xs.length - (intOf i).toNat)
  case atStart => exact ⟨0, Nat.zero_le _, rfl, rfl, by omega⟩
  case round =>
      obtain ⟨k, hk, rfl, rfl, hj⟩ := hrel
      have HJ := Lib.hid hj
      clear hj
      by_cases hlt : k < xs.length
      · have g1 := hx.cell k hlt
        go_wp2_with fail
        refine (hf.out _).mono ?_
        rintro e w' ⟨rfl, rfl⟩
        cases hp : p (nth xs k)
        · have hp' := Lib.hid hp
          clear hp
          go_wp2
          go_roundw
          case rel => exact ⟨k + 1, by omega, by go_num, trivial, upto HJ.out hp'.out⟩
          case measure => simp [intOf]; omega
        · go_wp2
          go_ret
          exact ⟨ret_int (idxF_at hlt HJ.out hp).symm, rfl⟩
      · go_wp2
        go_ret
        have e : k = xs.length := by omega
        exact ⟨ret_int (idxF_none (e ▸ HJ.out)).symm, rfl⟩
theorem containsFuncI_c (f : FuncId) (caps : Array Value) (p : Int → Bool) (hcall : ∀ args w, (callFunc f args).run Try.prog w = .ok (.enter f args) w)
   (S : Nat → Prop) (a : Option Addr) (c : Nat) (xs : List Int) (w : World) (hx : SlI S w a xs)
   (hf : Hid (∀ x, Calls Try.prog f (#[.int .i64 x] ++ caps) w (RetP w (.bool (p x))))) :
    Calls Try.prog 156 #[.slice a xs.length c, .func (.func f) #[] caps] w (RetP w (.bool (anyB p xs))) := by
  go_enter Try.func156, Try.ntmps156
  go_wp2_with fail
  refine (indexFuncI_c f caps p hcall S a c xs w hx hf).mono ?_
  rintro e w' ⟨rfl, rfl⟩
  go_wp2
  go_ret
  exact ⟨ret_bool (idxF_any p xs), rfl⟩
theorem validBag1_c (n : Int) (w : World) : Calls Try.prog 157 #[.int .i64 n] w (RetP w (.bool (!cntOk n))) := by
  go_enter Try.func157, Try.ntmps157
  go_wp2_with fail
  refine (inRange_c _ _ _ _).mono ?_
  rintro e w' ⟨rfl, rfl⟩
  go_wp2
  go_ret
  exact ⟨rfl, rfl⟩
set_option maxHeartbeats 400000 in
theorem validBag_c (kinds : Int) (S : Nat → Prop) (a : Option Addr) (c : Nat) (xs : List Int) (w : World) (hx : SlI S w a xs) :
    Calls Try.prog 96 #[.int .i64 kinds, .slice a xs.length c] w (RetP w (.bool (validBagS kinds xs))) := by
  have l1 := hx.len
  have hcf := containsFuncI_c 157 #[] (fun n => !cntOk n) (callFunc_run Try.func157 (by kernel_rfl) rfl) S a c xs w hx (Lib.hid fun x => validBag1_c x w)
  rw [anyB_not] at hcf
  have Hcf := Lib.hid hcf
  clear hcf
  cases h1 : inRg kinds 1 8
  · have H1 := Lib.hid h1
    clear h1
    go_enter Try.func96, Try.ntmps96
    go_wp2_with fail
    refine (inRange_c _ _ _ _).mono ?_
    rintro e w' ⟨rfl, rfl⟩
    rw [H1.out]
    go_wp2
    go_ret
    refine ⟨ret_bool ?_, rfl⟩
    symm
    have := H1.out
    by_cases hk : (xs.length : Int) = kinds
    · subst hk; simp [validBagS, isBagS, this]
    · simp [validBagS, hk]
  · have H1 := Lib.hid h1
    clear h1
    cases h2 : ((xs.length : Int) == kinds)
    · have H2 := Lib.hid h2
      go_enter Try.func96, Try.ntmps96
      go_wp2_with fail
      refine (inRange_c _ _ _ _).mono ?_
      rintro e w' ⟨rfl, rfl⟩
      rw [H1.out]
      go_wp2_with fail
      refine (size_int_c _ _ _ _ l1).mono ?_
      rintro e w' ⟨rfl, rfl⟩
      go_wp2
      go_ret
      exact ⟨ret_bool (by rw [validBagS, H2.out]; simp), rfl⟩
    · have H2 := Lib.hid h2
      go_enter Try.func96, Try.ntmps96
      go_wp2_with fail
      refine (inRange_c _ _ _ _).mono ?_
      rintro e w' ⟨rfl, rfl⟩
      rw [H1.out]
      go_wp2_with fail
      refine (size_int_c _ _ _ _ l1).mono ?_
      rintro e w' ⟨rfl, rfl⟩
      go_wp2_with fail
      refine Hcf.out.mono ?_
      rintro e w' ⟨rfl, rfl⟩
      go_wp2
      go_ret
      refine ⟨ret_bool ?_, rfl⟩
      have hk : (xs.length : Int) = kinds := by simpa using H2.out
      have h1' := H1.out
      subst hk
      simp [validBagS, isBagS, h1']
theorem isBag_c (S : Nat → Prop) (a : Option Addr) (c : Nat) (xs : List Int) (w : World) (hx : SlI S w a xs) :
    Calls Try.prog 147 #[.slice a xs.length c] w (RetP w (.bool (isBagS xs))) := by
  have l1 := hx.len
  go_enter Try.func147, Try.ntmps147
  go_wp2_with fail
  refine (size_int_c _ _ _ _ l1).mono ?_
  rintro e w' ⟨rfl, rfl⟩
  go_wp2_with fail
  refine (validBag_c _ S _ _ _ _ hx).mono ?_
  rintro e w' ⟨rfl, rfl⟩
  go_wp2
  go_ret
  exact ⟨ret_bool (by simp [validBagS]), rfl⟩
set_option maxHeartbeats 400000 in
theorem bagSize_c (S : Nat → Prop) (a : Option Addr) (c : Nat) (xs : List Int) (w : World) (hx : SlI S w a xs) :
    Calls Try.prog 97 #[.slice a xs.length c] w (RetP w (.int .i64 (sumS xs))) := by
  have l1 := hx.len
  unfold maxLen at l1
  have i1 := hx.ix tabI.under tabI.size c
  go_enter Try.func97, Try.ntmps97
  go_wp2
  go_loopw [3, 5, 8] (fun s _ i wr => ∃ k : Nat, k ≤ xs.length ∧ i = .int .i64 k ∧ w = wr ∧ s = .int .i64 (sumTo xs k)) (fun _ _ i _ => xs.length - (intOf i).toNat)
  case atStart => exact ⟨0, Nat.zero_le _, rfl, rfl, rfl⟩
  case round =>
      obtain ⟨k, hk, rfl, rfl, rfl⟩ := hrel
      by_cases hlt : k < xs.length
      · have g1 := hx.cell k hlt
        go_wp2
        go_roundw
        case rel => exact ⟨k + 1, by omega, by go_num, trivial, rfl⟩
        case measure => simp [intOf]; omega
      · go_wp2
        go_ret
        have e : k = xs.length := by omega
        exact ⟨ret_int (by rw [e]; rfl), rfl⟩
set_option maxHeartbeats 400000 in
theorem l01Size_c (S : Nat → Prop) (a : Option Addr) (c : Nat) (xs : List Int) (w : World) (hx : SlI S w a xs) :
    Calls Try.prog 116 #[.slice a xs.length c] w (RetP w (.int .i64 (sumS xs))) := by
  have l1 := hx.len
  unfold maxLen at l1
  have i1 := hx.ix tabI.under tabI.size c
  go_enter Try.func116, Try.ntmps116
  go_wp2
  go_loopw [3, 4] (fun s i wr => ∃ k : Nat, k ≤ xs.length ∧ i = .int .i64 k ∧ w = wr ∧ s = .int .i64 (sumTo xs k)) (fun _ i _ => xs.length - (intOf i).toNat)
  case atStart => exact ⟨0, Nat.zero_le _, rfl, rfl, rfl⟩
  case round =>
      obtain ⟨k, hk, rfl, rfl, rfl⟩ := hrel
      by_cases hlt : k < xs.length
      · have g1 := hx.cell k hlt
        go_wp2
        go_roundw
        case rel => exact ⟨k + 1, by omega, by go_num, trivial, rfl⟩
        case measure => simp [intOf]; omega
      · go_wp2
        go_ret
        have e : k = xs.length := by omega
        exact ⟨ret_int (by rw [e]; rfl), rfl⟩
end Go.Proofs.Ytdcpdipakglnnaa
