/- Contracts of the functions that compare lists of numbers, lists of lists, lists of bools; and of the laws' sizes. -/
import Derived.Test.YtdcpdipakglnnaaH
namespace Go.Proofs.Ytdcpdipakglnnaa
open Go.RowKit

theorem tabII : Tab Try.prog 22 23 (.slice none 0 0) 1 24 := ⟨by kernel_rfl, by kernel_rfl⟩
theorem eq_of_nth {xs ys : List Int} (hl : xs.length = ys.length) (h : ∀ j, j < xs.length → nth xs j = nth ys j) : xs = ys := by
  refine List.ext_getElem hl fun i h1 h2 => ?_
  have := h i h1
  rwa [nth_lt h1, nth_lt h2] at this
theorem eq_of_nthR {xs ys : List (List Int)} (hl : xs.length = ys.length) (h : ∀ j, j < xs.length → nthR xs j = nthR ys j) : xs = ys := by
  refine List.ext_getElem hl fun i h1 h2 => ?_
  have := h i h1
  rwa [nthR_lt h1, nthR_lt h2] at this
theorem stillP {P : Program} {f : FuncId} {args : Array Value} {w : World} {n : Nat} {v : Value} (h : Calls P f args (w.drewN n) (RetP (w.drewN n) v)) : Calls P f args (w.drewN n) fun e w'' => e = .returned v ∧ ∃ m, w'' = w.drewN m :=
  h.mono fun _ _ ⟨he, hm⟩ => ⟨he, n, hm.symm⟩
theorem stillQ {P : Program} {f : FuncId} {args : Array Value} {w : World} {n : Nat} {v : Value} (h : Calls P f args (w.drewN n) (RetQ (w.drewN n) v)) : Calls P f args (w.drewN n) fun e w'' => e = .returned v ∧ ∃ m, w'' = w.drewN m :=
  h.mono fun _ _ ⟨he, m, hm⟩ => ⟨he, n + m, by rw [hm, World.drewN_drewN]⟩
theorem stillP2 {P : Program} {f : FuncId} {args : Array Value} {w : World} {n a : Nat} {v : Value} (h : Calls P f args (w.drewN (n + a)) (RetP (w.drewN (n + a)) v)) : Calls P f args (w.drewN (n + a)) fun e w'' => e = .returned v ∧ ∃ m, w'' = w.drewN (n + m) :=
  h.mono fun _ _ ⟨he, hm⟩ => ⟨he, a, hm.symm⟩
theorem stillQ2 {P : Program} {f : FuncId} {args : Array Value} {w : World} {n a : Nat} {v : Value} (h : Calls P f args (w.drewN (n + a)) (RetQ (w.drewN (n + a)) v)) : Calls P f args (w.drewN (n + a)) fun e w'' => e = .returned v ∧ ∃ m, w'' = w.drewN (n + m) :=
  h.mono fun _ _ ⟨he, m, hm⟩ => ⟨he, a + m, by rw [hm, World.drewN_drewN, Nat.add_assoc]⟩
/-- Are two lists the same? -/
def eqI (xs ys : List Int) : Bool := decide (xs = ys)
def eqII (xs ys : List (List Int)) : Bool := decide (xs = ys)
theorem eqI_len {xs ys : List Int} (h : ¬ xs.length = ys.length) : eqI xs ys = false := decide_eq_false fun e => h (by rw [e])
theorem eqI_false {xs ys : List Int} {j : Nat} (h : ¬ nth xs j = nth ys j) : eqI xs ys = false := decide_eq_false fun e => h (by rw [e])
theorem eqI_true {xs ys : List Int} (hl : xs.length = ys.length) (h : ∀ j, j < xs.length → nth xs j = nth ys j) : eqI xs ys = true := decide_eq_true (eq_of_nth hl h)
theorem eqI_refl (xs : List Int) : eqI xs xs = true := decide_eq_true rfl
theorem eqI_eq {xs ys : List Int} (h : eqI xs ys = true) : xs = ys := of_decide_eq_true h
theorem eqI_ne {xs ys : List Int} (h : eqI xs ys = false) : xs ≠ ys := of_decide_eq_false h
theorem eqII_len {xs ys : List (List Int)} (h : ¬ xs.length = ys.length) : eqII xs ys = false := decide_eq_false fun e => h (by rw [e])
theorem eqII_false {xs ys : List (List Int)} {j : Nat} (h : eqI (nthR xs j) (nthR ys j) = false) : eqII xs ys = false := decide_eq_false fun e => eqI_ne h (by rw [e])
theorem eqII_true {xs ys : List (List Int)} (hl : xs.length = ys.length) (h : ∀ j, j < xs.length → eqI (nthR xs j) (nthR ys j) = true) : eqII xs ys = true := decide_eq_true (eq_of_nthR hl fun j hj => eqI_eq (h j hj))
theorem eqII_refl (xs : List (List Int)) : eqII xs xs = true := decide_eq_true rfl
theorem eqII_eq {xs ys : List (List Int)} (h : eqII xs ys = true) : xs = ys := of_decide_eq_true h
set_option maxHeartbeats 400000 in
theorem l00Same_c (S T : Nat → Prop) (a b : Option Addr) (c c' : Nat) (xs ys : List Int) (w : World) (hx : SlI S w a xs) (hy : SlI T w b ys) :
    Calls Try.prog 102 #[.slice a xs.length c, .slice b ys.length c'] w (RetQ w (.bool (eqI xs ys))) := by
  have l1 := hx.len
  have l2 := hy.len
  unfold maxLen at l1 l2
  cases hl : ((xs.length : Int) != ys.length)
  · have hq : xs.length = ys.length := by simp at hl; omega
    have HQ := Lib.hid hq
    clear hq
    have i1 := hx.ix tabI.under tabI.size c
    have i2 := hy.ix tabI.under tabI.size c'
    go_enter Try.func102, Try.ntmps102
    go_wp2
    go_loopw [5] (fun i wr => ∃ k n : Nat, k ≤ xs.length ∧ i = .int .i64 k ∧ wr = w.drewN n ∧ (∀ j, j < k → nth xs j = nth ys j)) (fun i _ => xs.length - (intOf i).toNat)
    case atStart => exact ⟨0, 0, Nat.zero_le _, rfl, rfl, by omega⟩
    case round =>
        obtain ⟨k, n, hk, rfl, rfl, hj⟩ := hrel
        have HJ := Lib.hid hj
        clear hj
        by_cases hlt : k < xs.length
        · have hlt2 : k < ys.length := by have := HQ.out; omega
          have k2 : (k : Int) < ys.length := by omega
          have g1 := hx.cell k hlt
          have g2 := hy.cell k hlt2
          by_cases hp : nth xs k = nth ys k
          · have HP := Lib.hid hp
            rw [hp] at g1
            clear hp
            go_wp2
            go_quiet (fail)
            go_wp2
            go_roundw
            case rel => exact ⟨k + 1, _, by omega, by go_num, rfl, upto HJ.out HP.out⟩
            case measure => simp [intOf]; omega
          · go_wp2
            go_quiet (fail)
            go_wp2
            go_ret
            exact ⟨ret_bool (eqI_false hp).symm, _, by rw [World.drewN_drewN]⟩
        · go_wp2
          go_ret
          have e : k = xs.length := by omega
          exact ⟨ret_bool (eqI_true HQ.out (e ▸ HJ.out)).symm, n, rfl⟩
  · have hq : ¬ xs.length = ys.length := by simp at hl; omega
    have HQ := Lib.hid hq
    clear hq
    go_enter Try.func102, Try.ntmps102
    go_wp2
    go_ret
    exact ⟨ret_bool (eqI_len HQ.out).symm, 0, rfl⟩
set_option maxHeartbeats 400000 in
theorem slicesEqualI_c (S T : Nat → Prop) (a b : Option Addr) (c c' : Nat) (xs ys : List Int) (w : World) (hx : SlI S w a xs) (hy : SlI T w b ys) :
    Calls Try.prog 105 #[.slice a xs.length c, .slice b ys.length c'] w (RetQ w (.bool (eqI xs ys))) := by
  have l1 := hx.len
  have l2 := hy.len
  unfold maxLen at l1 l2
  cases hl : ((xs.length : Int) != ys.length)
  · have hq : xs.length = ys.length := by simp at hl; omega
    have HQ := Lib.hid hq
    clear hq
    have i1 := hx.ix tabI.under tabI.size c
    have i2 := hy.ix tabI.under tabI.size c'
    go_enter Try.func105, Try.ntmps105
    go_wp2
    go_loopw [5, 13] (fun _ i wr => ∃ k n : Nat, k ≤ xs.length ∧ i = .int .i64 k ∧ wr = w.drewN n ∧ (∀ j, j < k → nth xs j = nth ys j)) (fun _ i _ => xs.length - (intOf i).toNat)
    case atStart => exact ⟨0, 0, Nat.zero_le _, rfl, rfl, by omega⟩
    case round =>
        obtain ⟨k, n, hk, rfl, rfl, hj⟩ := hrel
        have HJ := Lib.hid hj
        clear hj
        by_cases hlt : k < xs.length
        · have hlt2 : k < ys.length := by have := HQ.out; omega
          have k2 : (k : Int) < ys.length := by omega
          have g1 := hx.cell k hlt
          have g2 := hy.cell k hlt2
          by_cases hp : nth xs k = nth ys k
          · have HP := Lib.hid hp
            rw [hp] at g1
            clear hp
            go_wp2
            go_quiet (fail)
            go_wp2
            go_roundw
            case rel => exact ⟨k + 1, _, by omega, by go_num, rfl, upto HJ.out HP.out⟩
            case measure => simp [intOf]; omega
          · go_wp2
            go_quiet (fail)
            go_wp2
            go_ret
            exact ⟨ret_bool (eqI_false hp).symm, _, by rw [World.drewN_drewN]⟩
        · go_wp2
          go_ret
          have e : k = xs.length := by omega
          exact ⟨ret_bool (eqI_true HQ.out (e ▸ HJ.out)).symm, n, rfl⟩
  · have hq : ¬ xs.length = ys.length := by simp at hl; omega
    have HQ := Lib.hid hq
    clear hq
    go_enter Try.func105, Try.ntmps105
    go_wp2
    go_ret
    exact ⟨ret_bool (eqI_len HQ.out).symm, 0, rfl⟩
set_option maxHeartbeats 800000 in
theorem eqInt64SS_c (S T : Nat → Prop) (a b : Option Addr) (c c' : Nat) (xs : List (List Int)) (w : World) (hx : SlII S w a xs) (hy : SlII T w b xs) :
    Calls Try.prog 21 #[.slice a xs.length c, .slice b xs.length c'] w (RetQ w (.bool true)) := by
  have l1 := hx.len
  unfold maxLen at l1
  have i1 := hx.ix tabII.under tabII.size c
  have i2 := hy.ix tabII.under tabII.size c'
  go_enter Try.func21, Try.ntmps21
  go_wp2
  go_loopw [5] (fun i wr => ∃ k n : Nat, k ≤ xs.length ∧ i = .int .i64 k ∧ wr = w.drewN n) (fun i _ => xs.length - (intOf i).toNat)
  case atStart => exact ⟨0, 0, Nat.zero_le _, rfl, rfl⟩
  case round =>
      obtain ⟨k, n, hk, rfl, rfl⟩ := hrel
      by_cases hlt : k < xs.length
      · obtain ⟨a1, c1, g1, h1⟩ := hx.cell k hlt
        obtain ⟨a2, c2, g2, h2⟩ := hy.cell k hlt
        have HC := Lib.hid fun m => eqInt64S_c S T a1 a2 c1 c2 _ _ (h1.below (below_drewN _ w m)) (h2.below (below_drewN _ w m))
        clear h1 h2
        go_wp2
        go_quiet (with_reducible exact stillQ2 (HC.out _))
        go_wp2
        go_roundw
        case rel => exact ⟨k + 1, _, by omega, by go_num, rfl⟩
        case measure => simp [intOf]; omega
      · go_wp2
        go_ret
        exact ⟨rfl, n, rfl⟩
theorem szInt64S_c (a : Option Addr) (n c : Nat) (left : Int) (w : World) (hn : n ≤ maxLen) (h0 : 0 ≤ left) (h1 : left ≤ 1048576) :
    Calls Try.prog 72 #[.slice a n c, .int .i64 left] w (RetP w (.int .i64 (if left < n then -1 else left - n))) := by
  unfold maxLen at hn
  by_cases h : left < n
  · rw [if_pos h]
    go_enter Try.func72, Try.ntmps72
    go_wp2
    go_ret
    exact ⟨rfl, rfl⟩
  · rw [if_neg h]
    go_enter Try.func72, Try.ntmps72
    go_wp2
    go_ret
    exact ⟨rfl, rfl⟩
/-- What is left when lists have been weighed, one by one; -1 if it isn't enough. -/
def szNext (left : Int) (xs : List Int) : Int := if left < xs.length then -1 else left - xs.length
def szII (left : Int) (xs : List (List Int)) : Int := if left < xs.length then -1 else (xs.foldl (fun l r => if l < 0 then l else szNext l r) (left - xs.length))
end Go.Proofs.Ytdcpdipakglnnaa
