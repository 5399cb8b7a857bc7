/- Contracts of the small functions on bags: ranges, sizes, looks at lists. -/
import Derived.Test.YtncndnholheemaaProg
import Derived.Test.YtncndnholheemaaB
import Derived.Test.YtncndnholheemaaG
namespace Go.Proofs.Ytncndnholheemaa
open Go.RowKit

theorem tabI : Tab Try.prog 24 2 (.int .i64 0) 1 8 := ⟨by kernel_rfl, by kernel_rfl⟩

theorem inRange_c (a b c : Int) (w : World) : Calls Try.prog 57 #[.int .i64 a, .int .i64 b, .int .i64 c] w (RetP w (.bool (inRg a b c))) := by
  go_enter Try.func57, Try.ntmps57
  go_wp2
  all_goals (go_ret; refine ⟨ret_bool ?_, rfl⟩)
  · have h : b ≤ a := by assumption
    simp [inRg, h]
  · have h : a < b := by assumption
    simp only [inRg, show ¬ b ≤ a by omega, decide_false, Bool.false_and]
theorem l00In_c (a b c : Int) (w : World) : Calls Try.prog 85 #[.int .i64 a, .int .i64 b, .int .i64 c] w (RetP w (.bool (inRg a b c))) := by
  go_enter Try.func85, Try.ntmps85
  go_wp2
  all_goals (go_ret; refine ⟨ret_bool ?_, rfl⟩)
  · have h : b ≤ a := by assumption
    simp [inRg, h]
  · have h : a < b := by assumption
    simp only [inRg, show ¬ b ≤ a by omega, decide_false, Bool.false_and]
theorem size_int_c (a : Option Addr) (n c : Nat) (w : World) (_hn : n ≤ maxLen) : Calls Try.prog 144 #[.slice a n c] w (RetP w (.int .i64 n)) := by
  unfold maxLen at _hn
  go_enter Try.func144, Try.ntmps144
  go_wp2
  go_ret
  exact ⟨rfl, rfl⟩
set_option maxHeartbeats 400000 in
theorem indexFuncI_c (f : FuncId) (caps : Array Value) (p : Int → Bool) (hcall : ∀ args w, (callFunc f args).run Try.prog w = .ok (.enter f args) w)
   (S : Nat → Prop) (a : Option Addr) (c : Nat) (xs : List Int) (w : World) (hx : SlI S w a xs)
   (hf : Hid (∀ x, Calls Try.prog f (#[.int .i64 x] ++ caps) w (RetP w (.bool (p x))))) :
    Calls Try.prog 136 #[.slice a xs.length c, .func (.func f) #[] caps] w (RetP w (.int .i64 (idxF p xs))) := by
  have l1 := hx.len
  unfold maxLen at l1
  have i1 := hx.ix tabI.under tabI.size c
  go_enter Try.func136, Try.ntmps136
  go_wp2
  go_loopw [5, 8] (fun _ i wr => ∃ k : Nat, k ≤ xs.length ∧ i = .int .i64 k ∧ w = wr ∧ (∀ j, j < k → p (nth xs j) = false)) (fun _ i _ => xs.length - (intOf i).toNat)
  case atStart => exact ⟨0, Nat.zero_le _, rfl, rfl, by omega⟩
  case round =>
      obtain ⟨k, hk, rfl, rfl, hj⟩ := hrel
      have HJ := Lib.hid hj
      clear hj
      by_cases hlt : k < xs.length
      · have g1 := hx.cell k hlt
        go_wp2_with fail
        refine (hf.out _).mono ?_
        rintro e w' ⟨rfl, rfl⟩
        cases hp : p (nth xs k)
        · have hp' := Lib.hid hp
          clear hp
          go_wp2
          go_roundw
          case rel => exact ⟨k + 1, by omega, by go_num, trivial, upto HJ.out hp'.out⟩
          case measure => simp [intOf]; omega
        · go_wp2
          go_ret
          exact ⟨ret_int (idxF_at hlt HJ.out hp).symm, rfl⟩
      · go_wp2
        go_ret
        have e : k = xs.length := by omega
        exact ⟨ret_int (idxF_none (e ▸ HJ.out)).symm, rfl⟩
theorem containsFuncI_c (f : FuncId) (caps : Array Value) (p : Int → Bool) (hcall : ∀ args w, (callFunc f args).run Try.prog w = .ok (.enter f args) w)
   (S : Nat → Prop) (a : Option Addr) (c : Nat) (xs : List Int) (w : World) (hx : SlI S w a xs)
   (hf : Hid (∀ x, Calls Try.prog f (#[.int .i64 x] ++ caps) w (RetP w (.bool (p x))))) :
    Calls Try.prog 98 #[.slice a xs.length c, .func (.func f) #[] caps] w (RetP w (.bool (anyB p xs))) := by
  go_enter Try.func98, Try.ntmps98
  go_wp2_with fail
  refine (indexFuncI_c f caps p hcall S a c xs w hx hf).mono ?_
  rintro e w' ⟨rfl, rfl⟩
  go_wp2
  go_ret
  exact ⟨ret_bool (idxF_any p xs), rfl⟩
theorem validBag1_c (n : Int) (w : World) : Calls Try.prog 166 #[.int .i64 n] w (RetP w (.bool (!cntOk n))) := by
  go_enter Try.func166, Try.ntmps166
  go_wp2_with fail
  refine (inRange_c _ _ _ _).mono ?_
  rintro e w' ⟨rfl, rfl⟩
  go_wp2
  go_ret
  exact ⟨rfl, rfl⟩
set_option maxHeartbeats 400000 in
theorem validBag_c (kinds : Int) (S : Nat → Prop) (a : Option Addr) (c : Nat) (xs : List Int) (w : World) (hx : SlI S w a xs) :
    Calls Try.prog 148 #[.int .i64 kinds, .slice a xs.length c] w (RetP w (.bool (validBagS kinds xs))) := by
  have l1 := hx.len
  have hcf := containsFuncI_c 166 #[] (fun n => !cntOk n) (callFunc_run Try.func166 (by kernel_rfl) rfl) S a c xs w hx (Lib.hid fun x => validBag1_c x w)
  rw [anyB_not] at hcf
  have Hcf := Lib.hid hcf
  clear hcf
  cases h1 : inRg kinds 1 8
  · have H1 := Lib.hid h1
    clear h1
    go_enter Try.func148, Try.ntmps148
    go_wp2_with fail
    refine (inRange_c _ _ _ _).mono ?_
    rintro e w' ⟨rfl, rfl⟩
    rw [H1.out]
    go_wp2
    go_ret
    refine ⟨ret_bool ?_, rfl⟩
    symm
    have := H1.out
    by_cases hk : (xs.length : Int) = kinds
    · subst hk; simp [validBagS, isBagS, this]
    · simp [validBagS, hk]
  · have H1 := Lib.hid h1
    clear h1
    cases h2 : ((xs.length : Int) == kinds)
    · have H2 := Lib.hid h2
      go_enter Try.func148, Try.ntmps148
      go_wp2_with fail
      refine (inRange_c _ _ _ _).mono ?_
      rintro e w' ⟨rfl, rfl⟩
      rw [H1.out]
      go_wp2_with fail
      refine (size_int_c _ _ _ _ l1).mono ?_
      rintro e w' ⟨rfl, rfl⟩
      go_wp2
      go_ret
      exact ⟨ret_bool (by rw [validBagS, H2.out]; simp), rfl⟩
    · have H2 := Lib.hid h2
      go_enter Try.func148, Try.ntmps148
      go_wp2_with fail
      refine (inRange_c _ _ _ _).mono ?_
      rintro e w' ⟨rfl, rfl⟩
      rw [H1.out]
      go_wp2_with fail
      refine (size_int_c _ _ _ _ l1).mono ?_
      rintro e w' ⟨rfl, rfl⟩
      go_wp2_with fail
      refine Hcf.out.mono ?_
      rintro e w' ⟨rfl, rfl⟩
      go_wp2
      go_ret
      refine ⟨ret_bool ?_, rfl⟩
      have hk : (xs.length : Int) = kinds := by simpa using H2.out
      have h1' := H1.out
      subst hk
      simp [validBagS, isBagS, h1']
set_option maxHeartbeats 400000 in
theorem bagSize_c (S : Nat → Prop) (a : Option Addr) (c : Nat) (xs : List Int) (w : World) (hx : SlI S w a xs) :
    Calls Try.prog 110 #[.slice a xs.length c] w (RetP w (.int .i64 (sumS xs))) := by
  have l1 := hx.len
  unfold maxLen at l1
  have i1 := hx.ix tabI.under tabI.size c
  go_enter Try.func110, Try.ntmps110
  go_wp2
  go_loopw [3, 5, 8] (fun s _ i wr => ∃ k : Nat, k ≤ xs.length ∧ i = .int .i64 k ∧ w = wr ∧ s = .int .i64 (sumTo xs k)) (fun _ _ i _ => xs.length - (intOf i).toNat)
  case atStart => exact ⟨0, Nat.zero_le _, rfl, rfl, rfl⟩
  case round =>
      obtain ⟨k, hk, rfl, rfl, rfl⟩ := hrel
      by_cases hlt : k < xs.length
      · have g1 := hx.cell k hlt
        go_wp2
        go_roundw
        case rel => exact ⟨k + 1, by omega, by go_num, trivial, rfl⟩
        case measure => simp [intOf]; omega
      · go_wp2
        go_ret
        have e : k = xs.length := by omega
        exact ⟨ret_int (by rw [e]; rfl), rfl⟩
/- Contracts of the functions on bags that look at two bags, add, scale and weigh. -/
set_option maxHeartbeats 400000 in
theorem both_c (f : FuncId) (caps : Array Value) (g : Int → Int → Int) (hcall : ∀ args w, (callFunc f args).run Try.prog w = .ok (.enter f args) w)
   (S : Nat → Prop) (a b : Option Addr) (c c' : Nat) (xs ys : List Int) (w : World) (hx : SlI S w a xs) (hy : SlI S w b ys) (hl : xs.length ≤ ys.length) (l1 : xs.length ≤ 4294967296)
   (hf : Hid (∀ x y w', Below w.heap.size w w' → Calls Try.prog f (#[.int .i64 x, .int .i64 y] ++ caps) w' (RetP w' (.int .i64 (g x y))))) :
    Calls Try.prog 161 #[.slice a xs.length c, .slice b ys.length c', .func (.func f) #[] caps] w (RetD w (dI (zipF g xs ys xs.length))) := by
  have i1 := hx.ix tabI.under tabI.size c
  have i2 := hy.ix tabI.under tabI.size c'
  go_enter Try.func161, Try.ntmps161
  go_wp2
  go_loopw [7, 8, 9, 13] (fun v _ _ i wr => ∃ k : Nat, k ≤ xs.length ∧ i = .int .i64 k ∧ Below w.heap.size w wr ∧ Bld 2 wr w.heap.size v ((zipF g xs ys k).map (.int .i64))) (fun _ _ _ i _ => xs.length - (intOf i).toNat)
  case atStart => exact ⟨0, Nat.zero_le _, rfl, (Below.refl _ _).alloc (Nat.le_refl _) _, Bld.empty 2 w _ (Nat.le_refl _)⟩
  case round =>
      obtain ⟨k, hk, rfl, hb, hbl⟩ := hrel
      by_cases hlt : k < xs.length
      · have g1 := (hx.below hb).cell k hlt
        have g2 := (hy.below hb).cell k (by omega)
        have k2 : (k : Int) < ys.length := by omega
        go_wp2_with fail
        refine (hf.out _ _ _ hb).mono ?_
        rintro e w' ⟨rfl, rfl⟩
        have hbl' := hbl.below (below_alloc wr (.cells #[.int .i64 (g (nth xs k) (nth ys k))] 2))
        have hz := hb.size
        have HB := Lib.hid hb
        clear g1 g2 hb
        go_wp2_with (at_builtin; refine app_one rfl _ _ 24 rfl tabI rfl (by decide) w.heap.size _ _ rfl hbl' wr.heap.size (.int .i64 (g (nth xs k) (nth ys k))) rfl rfl ?c1 ?c2 ?c3 ?_)
        case c1 => simp
        case c2 => simp [zipF_len]; omega
        case c3 => simp; omega
        intro v' w1 hbl1 hb1
        rw [zipF_succ] at hbl1
        go_wp2
        go_roundw
        case rel => exact ⟨k + 1, by omega, by go_num, (HB.out.alloc hz _).trans hb1, hbl1⟩
        case measure => simp [intOf]; omega
      · go_wp2
        go_ret
        obtain rfl : k = xs.length := by omega
        exact RetD.ofBld hbl (by rw [zipF_len]; unfold maxLen; omega) hb
theorem plus1_c (x y f : Int) (p : Addr) (w : World) (h : w.cell? p = some (.int .i64 f)) : Calls Try.prog 162 #[.int .i64 x, .int .i64 y, .pointer (some p)] w (RetP w (.int .i64 (addW f x y))) := by
  go_enter Try.func162, Try.ntmps162
  go_wp2
  go_ret
  exact ⟨rfl, rfl⟩
set_option maxHeartbeats 400000 in
theorem plus_c (S : Nat → Prop) (a b : Option Addr) (c c' : Nat) (xs ys : List Int) (f : Int) (w : World) (hx : SlI S w a xs) (hy : SlI S w b ys) (hl : xs.length ≤ ys.length) (l1 : xs.length ≤ 4294967296) :
    Calls Try.prog 142 #[.slice a xs.length c, .slice b ys.length c', .int .i64 f] w (RetD w (dI (plusS xs ys f))) := by
  have hb0 := below_alloc w (.cells #[.int .i64 f] 2)
  have HC := Lib.hid (both_c 162 #[.pointer (some ⟨w.heap.size, 0, none⟩)] (addW f) (callFunc_run Try.func162 (by kernel_rfl) rfl) S a b c c' xs ys _ (hx.below hb0) (hy.below hb0) hl l1
    (Lib.hid fun x y w' hb => plus1_c x y f ⟨w.heap.size, 0, none⟩ w' (by rw [hb.cell (p := ⟨w.heap.size, 0, none⟩) (by simp)]; simp)))
  have HB := Lib.hid hb0
  clear hb0
  go_enter Try.func142, Try.ntmps142
  go_wp2_with fail
  refine HC.out.mono ?_
  intro e w' h
  have h' := RetD.from HB.out h
  obtain ⟨v, F, rfl, h1⟩ := h'
  have H1 := Lib.hid h1
  clear h1 h
  go_wp2
  go_ret
  exact ⟨v, F, rfl, H1.out⟩
