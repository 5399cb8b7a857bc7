/- FnBagSums: whatever the input, the law returns true. No condition. -/
import Derived.Test.YthlbogmnnenkoaaDL
import Derived.Test.YthlbogmnnenkoaaBZ
import Derived.Test.YthlbogmnnenkoaaF
import Derived.Test.YthlbogmnnenkoaaQV
namespace Go.Proofs.Ythlbogmnnenkoaa.lawBagSums
open Go.ChangeShapes Go.WideShapes Go.ChangeAt Go.RowKit
set_option maxHeartbeats 4000000 in
set_option maxRecDepth 100000 in
theorem walk (a : Option Addr) (n c : Nat) (b : Option Addr) (m d : Nat) (w : World) (h1 : SlU (· < w.heap.size) w a n) (h2 : SlU (· < w.heap.size) w b m) :
    Calls Try.prog 7 #[.slice a n c, .slice b m d] w (RetV w (.bool true)) := by
  have C := Lib.hid (callsP (a2Long_c a b n c m d w h1.len h2.len))
  cases hq : (decide (3000 < n) || decide (3000 < m))
  rotate_left
  · rw [hq] at C
    clear hq
    go_enter Try.func7, Try.ntmps7
    go_wp2_with fail
    refine C.out.mono ?_
    rintro e w1 ⟨rfl, hb1⟩
    have HB := Lib.hid hb1
    clear hb1
    go_wp2
    go_ret
    exact ⟨rfl, HB.out⟩
  rw [hq] at C
  clear hq
  go_enter Try.func7, Try.ntmps7
  go_wp2_with fail
  refine C.out.mono ?_
  rintro e w1 ⟨rfl, hb1⟩
  have HB := Lib.hid hb1
  clear hb1 C
  have C := Lib.hid (A2Bags_c a n c w1 ((h1.below HB.out).any fun k hk => Nat.lt_of_lt_of_le hk HB.out.size))
  go_wp2_with fail
  refine C.out.mono ?_
  rintro e w2 ⟨xs, ys, a_a, c_a, a_b, c_b, rfl, hb2, s_a, s_b, p1, p2, p3, p4, p5⟩
  have T : Hid (TwoSmall xs ys) := Lib.hid ⟨p1, p2, by omega, p4, p5⟩
  have S_a := Lib.hid s_a
  have S_b := Lib.hid s_b
  replace HB := Lib.hid (bnext HB.out hb2 (Nat.le_refl _))
  clear hb2 C s_a s_b p1 p2 p3 p4 p5
  cases hw : withinS ys xs
  · have HW := Lib.hid hw
    have H7 : Hid ((takeS xs ys).2 = 4) := Lib.hid (by rw [T.out.seven, hw]; rfl)
    clear hw
    have C := implAddBags_c Any a_a a_b c_a c_b (xs) (ys) w2 S_a.out S_b.out
    rw [T.out.add] at C
    replace C := Lib.hid C
    go_wp2_with fail
    refine C.out.mono ?_
    rintro e w3 ⟨v_sum, F_sum, rfl, hb3, ho_sum, _, _⟩
    obtain ⟨a_sum, c_sum, rfl, s_sum⟩ := ho_sum.slA
    have S_sum := Lib.hid s_sum
    clear s_sum ho_sum
    replace S_a := Lib.hid (S_a.out.below hb3)
    replace S_b := Lib.hid (S_b.out.below hb3)
    replace HB := Lib.hid (bnext HB.out hb3 (Nat.le_refl _))
    clear hb3 C
    have C := implTakeBag_c Any a_sum a_b c_sum c_b (plusS xs ys 1) (ys) w3 S_sum.out S_b.out
    rw [T.out.back] at C
    replace C := Lib.hid C
    go_wp2_with fail
    refine C.out.mono ?_
    rintro e w4 ⟨v_back, F_back, rfl, hb4, ho_back, _, _⟩
    obtain ⟨a_back, c_back, rfl, s_back⟩ := ho_back.slA
    have S_back := Lib.hid s_back
    clear s_back ho_back
    replace S_a := Lib.hid (S_a.out.below hb4)
    replace S_b := Lib.hid (S_b.out.below hb4)
    replace S_sum := Lib.hid (S_sum.out.below hb4)
    replace HB := Lib.hid (bnext HB.out hb4 (Nat.le_refl _))
    clear hb4 C
    have C := implMeetBags_c Any a_a a_b c_a c_b (xs) (ys) w4 S_a.out S_b.out
    rw [T.out.meet] at C
    replace C := Lib.hid C
    go_wp2_with fail
    refine C.out.mono ?_
    rintro e w5 ⟨v_meet, F_meet, rfl, hb5, ho_meet, _, _⟩
    obtain ⟨a_meet, c_meet, rfl, s_meet⟩ := ho_meet.slA
    have S_meet := Lib.hid s_meet
    clear s_meet ho_meet
    replace S_a := Lib.hid (S_a.out.below hb5)
    replace S_b := Lib.hid (S_b.out.below hb5)
    replace S_sum := Lib.hid (S_sum.out.below hb5)
    replace S_back := Lib.hid (S_back.out.below hb5)
    replace HB := Lib.hid (bnext HB.out hb5 (Nat.le_refl _))
    clear hb5 C
    have C := implJoinBags_c Any a_a a_b c_a c_b (xs) (ys) w5 S_a.out S_b.out
    rw [T.out.join] at C
    replace C := Lib.hid C
    go_wp2_with fail
    refine C.out.mono ?_
    rintro e w6 ⟨v_join, F_join, rfl, hb6, ho_join, _, _⟩
    obtain ⟨a_join, c_join, rfl, s_join⟩ := ho_join.slA
    have S_join := Lib.hid s_join
    clear s_join ho_join
    replace S_a := Lib.hid (S_a.out.below hb6)
    replace S_b := Lib.hid (S_b.out.below hb6)
    replace S_sum := Lib.hid (S_sum.out.below hb6)
    replace S_back := Lib.hid (S_back.out.below hb6)
    replace S_meet := Lib.hid (S_meet.out.below hb6)
    replace HB := Lib.hid (bnext HB.out hb6 (Nat.le_refl _))
    clear hb6 C
    have C := implAddBags_c Any a_meet a_join c_meet c_join (zipF minI xs ys xs.length) (zipF maxI xs ys xs.length) w6 S_meet.out S_join.out
    rw [T.out.both] at C
    replace C := Lib.hid C
    go_wp2_with fail
    refine C.out.mono ?_
    rintro e w7 ⟨v_both, F_both, rfl, hb7, ho_both, _, _⟩
    obtain ⟨a_both, c_both, rfl, s_both⟩ := ho_both.slA
    have S_both := Lib.hid s_both
    clear s_both ho_both
    replace S_a := Lib.hid (S_a.out.below hb7)
    replace S_b := Lib.hid (S_b.out.below hb7)
    replace S_sum := Lib.hid (S_sum.out.below hb7)
    replace S_back := Lib.hid (S_back.out.below hb7)
    replace S_meet := Lib.hid (S_meet.out.below hb7)
    replace S_join := Lib.hid (S_join.out.below hb7)
    replace HB := Lib.hid (bnext HB.out hb7 (Nat.le_refl _))
    clear hb7 C
    have C := callsP (implIsWithin_c Any a_b a_a c_b c_a (ys) (xs) w7 S_b.out S_a.out)
    rw [T.out.within, HW.out] at C
    replace C := Lib.hid C
    go_wp2_with fail
    refine C.out.mono ?_
    rintro e w8 ⟨rfl, hb8⟩
    replace S_a := Lib.hid (S_a.out.below hb8)
    replace S_b := Lib.hid (S_b.out.below hb8)
    replace S_sum := Lib.hid (S_sum.out.below hb8)
    replace S_back := Lib.hid (S_back.out.below hb8)
    replace S_meet := Lib.hid (S_meet.out.below hb8)
    replace S_join := Lib.hid (S_join.out.below hb8)
    replace S_both := Lib.hid (S_both.out.below hb8)
    replace HB := Lib.hid (bnext HB.out hb8 (Nat.le_refl _))
    clear hb8 C
    have C := implTakeBag_c Any a_a a_b c_a c_b (xs) (ys) w8 S_a.out S_b.out
    rw [H7.out] at C
    replace C := Lib.hid C
    go_wp2_with fail
    refine C.out.mono ?_
    rintro e w9 ⟨v_tk, F_tk, rfl, hb9, ho_tk, _, _⟩
    obtain ⟨a_tk, c_tk, rfl, s_tk⟩ := ho_tk.slA
    have S_tk := Lib.hid s_tk
    clear s_tk ho_tk
    replace S_a := Lib.hid (S_a.out.below hb9)
    replace S_b := Lib.hid (S_b.out.below hb9)
    replace S_sum := Lib.hid (S_sum.out.below hb9)
    replace S_back := Lib.hid (S_back.out.below hb9)
    replace S_meet := Lib.hid (S_meet.out.below hb9)
    replace S_join := Lib.hid (S_join.out.below hb9)
    replace S_both := Lib.hid (S_both.out.below hb9)
    replace HB := Lib.hid (bnext HB.out hb9 (Nat.le_refl _))
    clear hb9 C
    have C := callsQ (a2Same_c Any Any a_back a_a c_back c_a (xs) (xs) w9 S_back.out S_a.out)
    rw [decide_eq_true rfl] at C
    replace C := Lib.hid C
    go_wp2_with fail
    refine C.out.mono ?_
    rintro e w10 ⟨rfl, hb10⟩
    replace S_a := Lib.hid (S_a.out.below hb10)
    replace S_b := Lib.hid (S_b.out.below hb10)
    replace S_sum := Lib.hid (S_sum.out.below hb10)
    replace S_back := Lib.hid (S_back.out.below hb10)
    replace S_meet := Lib.hid (S_meet.out.below hb10)
    replace S_join := Lib.hid (S_join.out.below hb10)
    replace S_both := Lib.hid (S_both.out.below hb10)
    replace S_tk := Lib.hid (S_tk.out.below hb10)
    replace HB := Lib.hid (bnext HB.out hb10 (Nat.le_refl _))
    clear hb10 C
    have C := callsQ (a2Same_c Any Any a_both a_sum c_both c_sum (plusS xs ys 1) (plusS xs ys 1) w10 S_both.out S_sum.out)
    rw [decide_eq_true rfl] at C
    replace C := Lib.hid C
    go_wp2_with fail
    refine C.out.mono ?_
    rintro e w11 ⟨rfl, hb11⟩
    replace S_a := Lib.hid (S_a.out.below hb11)
    replace S_b := Lib.hid (S_b.out.below hb11)
    replace S_sum := Lib.hid (S_sum.out.below hb11)
    replace S_back := Lib.hid (S_back.out.below hb11)
    replace S_meet := Lib.hid (S_meet.out.below hb11)
    replace S_join := Lib.hid (S_join.out.below hb11)
    replace S_both := Lib.hid (S_both.out.below hb11)
    replace S_tk := Lib.hid (S_tk.out.below hb11)
    replace HB := Lib.hid (bnext HB.out hb11 (Nat.le_refl _))
    clear hb11 C
    have C := callsQ (a2Same_c Any Any a_meet a_b c_meet c_b (zipF minI xs ys xs.length) (ys) w11 S_meet.out S_b.out)
    rw [← T.out.same, HW.out] at C
    replace C := Lib.hid C
    go_wp2_with fail
    refine C.out.mono ?_
    rintro e w12 ⟨rfl, hb12⟩
    replace S_a := Lib.hid (S_a.out.below hb12)
    replace S_b := Lib.hid (S_b.out.below hb12)
    replace S_sum := Lib.hid (S_sum.out.below hb12)
    replace S_back := Lib.hid (S_back.out.below hb12)
    replace S_meet := Lib.hid (S_meet.out.below hb12)
    replace S_join := Lib.hid (S_join.out.below hb12)
    replace S_both := Lib.hid (S_both.out.below hb12)
    replace S_tk := Lib.hid (S_tk.out.below hb12)
    replace HB := Lib.hid (bnext HB.out hb12 (Nat.le_refl _))
    clear hb12 C
    have hz9 := Hid.out HB |>.size
    have HU := Lib.hid (h2.below HB.out)
    have hxl8 : xs.length ≤ 8 := T.out.hi
    go_wp2
    go_loopw [21, 22] (fun v i wr => ∃ (k : Nat) (ws : List Int), k ≤ xs.length ∧ i = .int .i64 k ∧ Hid (ws.length = k) ∧ Hid (∀ j, j < ws.length → -4 ≤ nth ws j ∧ nth ws j ≤ 4) ∧ Hid (Below w12.heap.size w12 wr) ∧ Hid (Bld 2 wr w12.heap.size v (ws.map (.int .i64)))) (fun _ i _ => xs.length - (intOf i).toNat)
    case atStart => exact ⟨0, [], Nat.zero_le _, rfl, Lib.hid rfl, Lib.hid (by simp), Lib.hid ((Below.refl _ _).alloc (Nat.le_refl _) _), Lib.hid (Bld.empty 2 w12 _ (Nat.le_refl _))⟩
    case round =>
      obtain ⟨k, ws, hk, rfl, HWL, HWB, HBL, HBD⟩ := hrel
      by_cases hlt : k < xs.length
      · have C := Lib.hid (a2At_c _ b m d k 9 wr (HU.out.below HBL.out) (by omega) (by omega))
        go_wp2_with fail
        refine C.out.mono ?_
        rintro e w' ⟨x, ⟨rfl, rfl⟩, hx0, hx9⟩
        have hbl' := HBD.out.below (below_alloc wr (.cells #[.int .i64 (x - 4)] 2))
        have hzr := HBL.out.size
        clear C
        go_wp2_with (at_builtin; refine app_one rfl _ _ 34 rfl tabI rfl (by decide) w12.heap.size _ _ rfl hbl' wr.heap.size (.int .i64 (x - 4)) rfl rfl ?c1 ?c2 ?c3 ?_)
        case c1 => simp
        case c2 => have := HWL.out; simp; omega
        case c3 => simp; omega
        intro v' w3 hbl3 hb3
        have HBD3 : Hid (Bld 2 w3 w12.heap.size v' ((ws ++ [x - 4]).map (.int .i64))) := Lib.hid (by simpa using hbl3)
        have HBL3 : Hid (Below w12.heap.size w12 w3) := Lib.hid ((HBL.out.alloc hzr _).trans hb3)
        have HWB3 : Hid (∀ j, j < (ws ++ [x - 4]).length → -4 ≤ nth (ws ++ [x - 4]) j ∧ nth (ws ++ [x - 4]) j ≤ 4) := Lib.hid fun j hj => by
          by_cases e : j < ws.length
          · have := HWB.out j e; simpa [nth, List.getElem?_append_left e] using this
          · have e2 : j = ws.length := by simp at hj; omega
            subst e2; simp [nth]; omega
        clear hbl3 hb3 hbl'
        go_wp2
        go_roundw
        case rel => exact ⟨k + 1, ws ++ [x - 4], by omega, by go_num, Lib.hid (by have := HWL.out; simp; omega), HWB3, HBL3, HBD3⟩
        case measure => simp [intOf]; omega
      · have HWX : Hid (ws.length = xs.length) := Lib.hid (by have := HWL.out; omega)
        have HK : Hid (k = xs.length) := Lib.hid (by omega)
        obtain ⟨a_ws, c_ws, F_ws, rfl, ho_ws, _, _⟩ := HBD.out.ow (by have := HWX.out; unfold maxLen; omega)
        have S_ws := Lib.hid ho_ws.arg
        have hkk : ¬ (k : Int) < xs.length := by omega
        obtain ⟨e1, e2, e3, e4, u1, u2, u3, u4⟩ := T.out.weigh HWX.out (fun j hj => HWB.out j (by have := HWX.out; omega))
        obtain ⟨u, hu⟩ : ∃ u, u = weighS xs ws := ⟨_, rfl⟩
        obtain ⟨v, hv⟩ : ∃ v, v = weighS ys ws := ⟨_, rfl⟩
        rw [← hu] at e1 e4 u1 u2
        rw [← hv] at e2 e4 u3 u4
        rw [← e4] at e3
        obtain ⟨z1, z2, z3, z4, z5, z6⟩ := T.out.size
        obtain ⟨sa, hsa⟩ : ∃ s, s = sumS xs := ⟨_, rfl⟩
        obtain ⟨sb, hsb⟩ : ∃ s, s = sumS ys := ⟨_, rfl⟩
        rw [← hsa] at z2 z3 z4
        rw [← hsb] at z2 z5 z6
        rw [z2] at z1
        have E1 := Lib.hid e1
        have E2 := Lib.hid e2
        have E3 := Lib.hid e3
        have Z1 := Lib.hid z1
        have HSA := Lib.hid hsa
        have HSB := Lib.hid hsb
        clear e1 e2 e3 e4 hu hv z1 z2 hsa hsb ho_ws hk hlt HWL HBD HWB
        replace HB := Lib.hid (bnext HB.out HBL.out (Nat.le_refl _))
        replace S_a := Lib.hid (S_a.out.below HBL.out)
        replace S_b := Lib.hid (S_b.out.below HBL.out)
        replace S_sum := Lib.hid (S_sum.out.below HBL.out)
        replace S_back := Lib.hid (S_back.out.below HBL.out)
        replace S_meet := Lib.hid (S_meet.out.below HBL.out)
        replace S_join := Lib.hid (S_join.out.below HBL.out)
        replace S_both := Lib.hid (S_both.out.below HBL.out)
        replace S_tk := Lib.hid (S_tk.out.below HBL.out)
        clear HBL
        have C := implWeighBag_c Any a_a a_ws c_a c_ws (xs) (ws) wr S_a.out S_ws.out
        rw [E1.out] at C
        replace C := Lib.hid C
        go_wp2_with fail
        refine C.out.mono ?_
        rintro e w13 ⟨rfl, hb13⟩
        replace S_a := Lib.hid (S_a.out.below hb13)
        replace S_b := Lib.hid (S_b.out.below hb13)
        replace S_sum := Lib.hid (S_sum.out.below hb13)
        replace S_back := Lib.hid (S_back.out.below hb13)
        replace S_meet := Lib.hid (S_meet.out.below hb13)
        replace S_join := Lib.hid (S_join.out.below hb13)
        replace S_both := Lib.hid (S_both.out.below hb13)
        replace S_tk := Lib.hid (S_tk.out.below hb13)
        replace S_ws := Lib.hid (S_ws.out.below hb13)
        replace HB := Lib.hid (bnext HB.out hb13 (Nat.le_refl _))
        clear hb13 C
        have C := implWeighBag_c Any a_b a_ws c_b c_ws (ys) (ws) w13 S_b.out S_ws.out
        rw [E2.out] at C
        replace C := Lib.hid C
        go_wp2_with fail
        refine C.out.mono ?_
        rintro e w14 ⟨rfl, hb14⟩
        replace S_a := Lib.hid (S_a.out.below hb14)
        replace S_b := Lib.hid (S_b.out.below hb14)
        replace S_sum := Lib.hid (S_sum.out.below hb14)
        replace S_back := Lib.hid (S_back.out.below hb14)
        replace S_meet := Lib.hid (S_meet.out.below hb14)
        replace S_join := Lib.hid (S_join.out.below hb14)
        replace S_both := Lib.hid (S_both.out.below hb14)
        replace S_tk := Lib.hid (S_tk.out.below hb14)
        replace S_ws := Lib.hid (S_ws.out.below hb14)
        replace HB := Lib.hid (bnext HB.out hb14 (Nat.le_refl _))
        clear hb14 C
        have C := implWeighBag_c Any a_sum a_ws c_sum c_ws (plusS xs ys 1) (ws) w14 S_sum.out S_ws.out
        rw [E3.out] at C
        replace C := Lib.hid C
        go_wp2_with fail
        refine C.out.mono ?_
        rintro e w15 ⟨rfl, hb15⟩
        replace S_a := Lib.hid (S_a.out.below hb15)
        replace S_b := Lib.hid (S_b.out.below hb15)
        replace S_sum := Lib.hid (S_sum.out.below hb15)
        replace S_back := Lib.hid (S_back.out.below hb15)
        replace S_meet := Lib.hid (S_meet.out.below hb15)
        replace S_join := Lib.hid (S_join.out.below hb15)
        replace S_both := Lib.hid (S_both.out.below hb15)
        replace S_tk := Lib.hid (S_tk.out.below hb15)
        replace S_ws := Lib.hid (S_ws.out.below hb15)
        replace HB := Lib.hid (bnext HB.out hb15 (Nat.le_refl _))
        clear hb15 C
        have C := callsP (implBagSize_c Any a_sum c_sum (plusS xs ys 1) w15 S_sum.out)
        rw [Z1.out] at C
        replace C := Lib.hid C
        go_wp2_with fail
        refine C.out.mono ?_
        rintro e w16 ⟨rfl, hb16⟩
        replace S_a := Lib.hid (S_a.out.below hb16)
        replace S_b := Lib.hid (S_b.out.below hb16)
        replace S_sum := Lib.hid (S_sum.out.below hb16)
        replace S_back := Lib.hid (S_back.out.below hb16)
        replace S_meet := Lib.hid (S_meet.out.below hb16)
        replace S_join := Lib.hid (S_join.out.below hb16)
        replace S_both := Lib.hid (S_both.out.below hb16)
        replace S_tk := Lib.hid (S_tk.out.below hb16)
        replace S_ws := Lib.hid (S_ws.out.below hb16)
        replace HB := Lib.hid (bnext HB.out hb16 (Nat.le_refl _))
        clear hb16 C
        have C := callsP (a2Sum_c Any a_a c_a (xs) w16 S_a.out)
        rw [← HSA.out] at C
        replace C := Lib.hid C
        go_wp2_with fail
        refine C.out.mono ?_
        rintro e w17 ⟨rfl, hb17⟩
        replace S_a := Lib.hid (S_a.out.below hb17)
        replace S_b := Lib.hid (S_b.out.below hb17)
        replace S_sum := Lib.hid (S_sum.out.below hb17)
        replace S_back := Lib.hid (S_back.out.below hb17)
        replace S_meet := Lib.hid (S_meet.out.below hb17)
        replace S_join := Lib.hid (S_join.out.below hb17)
        replace S_both := Lib.hid (S_both.out.below hb17)
        replace S_tk := Lib.hid (S_tk.out.below hb17)
        replace S_ws := Lib.hid (S_ws.out.below hb17)
        replace HB := Lib.hid (bnext HB.out hb17 (Nat.le_refl _))
        clear hb17 C
        have C := callsP (a2Sum_c Any a_b c_b (ys) w17 S_b.out)
        rw [← HSB.out] at C
        replace C := Lib.hid C
        go_wp2_with fail
        refine C.out.mono ?_
        rintro e w18 ⟨rfl, hb18⟩
        replace S_a := Lib.hid (S_a.out.below hb18)
        replace S_b := Lib.hid (S_b.out.below hb18)
        replace S_sum := Lib.hid (S_sum.out.below hb18)
        replace S_back := Lib.hid (S_back.out.below hb18)
        replace S_meet := Lib.hid (S_meet.out.below hb18)
        replace S_join := Lib.hid (S_join.out.below hb18)
        replace S_both := Lib.hid (S_both.out.below hb18)
        replace S_tk := Lib.hid (S_tk.out.below hb18)
        replace S_ws := Lib.hid (S_ws.out.below hb18)
        replace HB := Lib.hid (bnext HB.out hb18 (Nat.le_refl _))
        clear hb18 C
        have C := callsP (a2Sum_c Any a_b c_b (ys) w18 S_b.out)
        rw [← HSB.out] at C
        replace C := Lib.hid C
        go_wp2_with fail
        refine C.out.mono ?_
        rintro e w19 ⟨rfl, hb19⟩
        replace S_a := Lib.hid (S_a.out.below hb19)
        replace S_b := Lib.hid (S_b.out.below hb19)
        replace S_sum := Lib.hid (S_sum.out.below hb19)
        replace S_back := Lib.hid (S_back.out.below hb19)
        replace S_meet := Lib.hid (S_meet.out.below hb19)
        replace S_join := Lib.hid (S_join.out.below hb19)
        replace S_both := Lib.hid (S_both.out.below hb19)
        replace S_tk := Lib.hid (S_tk.out.below hb19)
        replace S_ws := Lib.hid (S_ws.out.below hb19)
        replace HB := Lib.hid (bnext HB.out hb19 (Nat.le_refl _))
        clear hb19 C
        by_cases hs0 : sb = 0
        · have q0 : (sb == 0) = true := by simpa using hs0
          go_wp2
          go_ret
          exact ⟨rfl, HB.out⟩
        have q0 : (sb == 0) = false := by simpa using hs0
        obtain ⟨t, t0, t6, y1, y2, y3, y4, y5, y6⟩ := T.out.times (by rw [← HSB.out]; exact hs0)
        have Y1 := Lib.hid y1
        have Y2 := Lib.hid y2
        have Y4 := Lib.hid y4
        have Y5 := Lib.hid y5
        have Y6 := Lib.hid y6
        clear y1 y2 y3 y4 y5 y6 hs0
        have C := callsP (implTimesIn_c Any a_b a_a c_b c_a (ys) (xs) w19 S_b.out S_a.out)
        rw [Y1.out] at C
        replace C := Lib.hid C
        go_wp2_with fail
        refine C.out.mono ?_
        rintro e w20 ⟨rfl, hb20⟩
        replace S_a := Lib.hid (S_a.out.below hb20)
        replace S_b := Lib.hid (S_b.out.below hb20)
        replace S_sum := Lib.hid (S_sum.out.below hb20)
        replace S_back := Lib.hid (S_back.out.below hb20)
        replace S_meet := Lib.hid (S_meet.out.below hb20)
        replace S_join := Lib.hid (S_join.out.below hb20)
        replace S_both := Lib.hid (S_both.out.below hb20)
        replace S_tk := Lib.hid (S_tk.out.below hb20)
        replace S_ws := Lib.hid (S_ws.out.below hb20)
        replace HB := Lib.hid (bnext HB.out hb20 (Nat.le_refl _))
        clear hb20 C
        have C := implScaleBag_c t Any a_b c_b ys w20 S_b.out
        rw [Y2.out] at C
        replace C := Lib.hid C
        go_wp2_with fail
        refine C.out.mono ?_
        rintro e w21 ⟨v_sc, F_sc, rfl, hb21, ho_sc, _, _⟩
        obtain ⟨a_sc, c_sc, rfl, s_sc⟩ := ho_sc.slA
        have S_sc := Lib.hid s_sc
        clear s_sc ho_sc
        replace S_a := Lib.hid (S_a.out.below hb21)
        replace S_b := Lib.hid (S_b.out.below hb21)
        replace S_sum := Lib.hid (S_sum.out.below hb21)
        replace S_back := Lib.hid (S_back.out.below hb21)
        replace S_meet := Lib.hid (S_meet.out.below hb21)
        replace S_join := Lib.hid (S_join.out.below hb21)
        replace S_both := Lib.hid (S_both.out.below hb21)
        replace S_tk := Lib.hid (S_tk.out.below hb21)
        replace S_ws := Lib.hid (S_ws.out.below hb21)
        replace HB := Lib.hid (bnext HB.out hb21 (Nat.le_refl _))
        clear hb21 C
        have C := callsP (implIsWithin_c Any a_sc a_a c_sc c_a (plusS (List.replicate ys.length 0) ys t) (xs) w21 S_sc.out S_a.out)
        rw [Y4.out] at C
        replace C := Lib.hid C
        go_wp2_with fail
        refine C.out.mono ?_
        rintro e w22 ⟨rfl, hb22⟩
        replace S_a := Lib.hid (S_a.out.below hb22)
        replace S_b := Lib.hid (S_b.out.below hb22)
        replace S_sum := Lib.hid (S_sum.out.below hb22)
        replace S_back := Lib.hid (S_back.out.below hb22)
        replace S_meet := Lib.hid (S_meet.out.below hb22)
        replace S_join := Lib.hid (S_join.out.below hb22)
        replace S_both := Lib.hid (S_both.out.below hb22)
        replace S_tk := Lib.hid (S_tk.out.below hb22)
        replace S_ws := Lib.hid (S_ws.out.below hb22)
        replace S_sc := Lib.hid (S_sc.out.below hb22)
        replace HB := Lib.hid (bnext HB.out hb22 (Nat.le_refl _))
        clear hb22 C
        have C := implAddBags_c Any a_sc a_b c_sc c_b (plusS (List.replicate ys.length 0) ys t) (ys) w22 S_sc.out S_b.out
        rw [Y5.out] at C
        replace C := Lib.hid C
        go_wp2_with fail
        refine C.out.mono ?_
        rintro e w23 ⟨v_nx, F_nx, rfl, hb23, ho_nx, _, _⟩
        obtain ⟨a_nx, c_nx, rfl, s_nx⟩ := ho_nx.slA
        have S_nx := Lib.hid s_nx
        clear s_nx ho_nx
        replace S_a := Lib.hid (S_a.out.below hb23)
        replace S_b := Lib.hid (S_b.out.below hb23)
        replace S_sum := Lib.hid (S_sum.out.below hb23)
        replace S_back := Lib.hid (S_back.out.below hb23)
        replace S_meet := Lib.hid (S_meet.out.below hb23)
        replace S_join := Lib.hid (S_join.out.below hb23)
        replace S_both := Lib.hid (S_both.out.below hb23)
        replace S_tk := Lib.hid (S_tk.out.below hb23)
        replace S_ws := Lib.hid (S_ws.out.below hb23)
        replace S_sc := Lib.hid (S_sc.out.below hb23)
        replace HB := Lib.hid (bnext HB.out hb23 (Nat.le_refl _))
        clear hb23 C
        have C := callsP (implIsWithin_c Any a_nx a_a c_nx c_a (plusS (plusS (List.replicate ys.length 0) ys t) ys 1) (xs) w23 S_nx.out S_a.out)
        rw [Y6.out] at C
        replace C := Lib.hid C
        go_wp2_with fail
        refine C.out.mono ?_
        rintro e w24 ⟨rfl, hb24⟩
        replace S_a := Lib.hid (S_a.out.below hb24)
        replace S_b := Lib.hid (S_b.out.below hb24)
        replace S_sum := Lib.hid (S_sum.out.below hb24)
        replace S_back := Lib.hid (S_back.out.below hb24)
        replace S_meet := Lib.hid (S_meet.out.below hb24)
        replace S_join := Lib.hid (S_join.out.below hb24)
        replace S_both := Lib.hid (S_both.out.below hb24)
        replace S_tk := Lib.hid (S_tk.out.below hb24)
        replace S_ws := Lib.hid (S_ws.out.below hb24)
        replace S_sc := Lib.hid (S_sc.out.below hb24)
        replace S_nx := Lib.hid (S_nx.out.below hb24)
        replace HB := Lib.hid (bnext HB.out hb24 (Nat.le_refl _))
        clear hb24 C
        go_wp2
        go_ret
        exact ⟨rfl, HB.out⟩
  · have HW := Lib.hid hw
    have H7 : Hid ((takeS xs ys).2 = 0) := Lib.hid (by rw [T.out.seven, hw]; rfl)
    clear hw
    have C := implAddBags_c Any a_a a_b c_a c_b (xs) (ys) w2 S_a.out S_b.out
    rw [T.out.add] at C
    replace C := Lib.hid C
    go_wp2_with fail
    refine C.out.mono ?_
    rintro e w3 ⟨v_sum, F_sum, rfl, hb3, ho_sum, _, _⟩
    obtain ⟨a_sum, c_sum, rfl, s_sum⟩ := ho_sum.slA
    have S_sum := Lib.hid s_sum
    clear s_sum ho_sum
    replace S_a := Lib.hid (S_a.out.below hb3)
    replace S_b := Lib.hid (S_b.out.below hb3)
    replace HB := Lib.hid (bnext HB.out hb3 (Nat.le_refl _))
    clear hb3 C
    have C := implTakeBag_c Any a_sum a_b c_sum c_b (plusS xs ys 1) (ys) w3 S_sum.out S_b.out
    rw [T.out.back] at C
    replace C := Lib.hid C
    go_wp2_with fail
    refine C.out.mono ?_
    rintro e w4 ⟨v_back, F_back, rfl, hb4, ho_back, _, _⟩
    obtain ⟨a_back, c_back, rfl, s_back⟩ := ho_back.slA
    have S_back := Lib.hid s_back
    clear s_back ho_back
    replace S_a := Lib.hid (S_a.out.below hb4)
    replace S_b := Lib.hid (S_b.out.below hb4)
    replace S_sum := Lib.hid (S_sum.out.below hb4)
    replace HB := Lib.hid (bnext HB.out hb4 (Nat.le_refl _))
    clear hb4 C
    have C := implMeetBags_c Any a_a a_b c_a c_b (xs) (ys) w4 S_a.out S_b.out
    rw [T.out.meet] at C
    replace C := Lib.hid C
    go_wp2_with fail
    refine C.out.mono ?_
    rintro e w5 ⟨v_meet, F_meet, rfl, hb5, ho_meet, _, _⟩
    obtain ⟨a_meet, c_meet, rfl, s_meet⟩ := ho_meet.slA
    have S_meet := Lib.hid s_meet
    clear s_meet ho_meet
    replace S_a := Lib.hid (S_a.out.below hb5)
    replace S_b := Lib.hid (S_b.out.below hb5)
    replace S_sum := Lib.hid (S_sum.out.below hb5)
    replace S_back := Lib.hid (S_back.out.below hb5)
    replace HB := Lib.hid (bnext HB.out hb5 (Nat.le_refl _))
    clear hb5 C
    have C := implJoinBags_c Any a_a a_b c_a c_b (xs) (ys) w5 S_a.out S_b.out
    rw [T.out.join] at C
    replace C := Lib.hid C
    go_wp2_with fail
    refine C.out.mono ?_
    rintro e w6 ⟨v_join, F_join, rfl, hb6, ho_join, _, _⟩
    obtain ⟨a_join, c_join, rfl, s_join⟩ := ho_join.slA
    have S_join := Lib.hid s_join
    clear s_join ho_join
    replace S_a := Lib.hid (S_a.out.below hb6)
    replace S_b := Lib.hid (S_b.out.below hb6)
    replace S_sum := Lib.hid (S_sum.out.below hb6)
    replace S_back := Lib.hid (S_back.out.below hb6)
    replace S_meet := Lib.hid (S_meet.out.below hb6)
    replace HB := Lib.hid (bnext HB.out hb6 (Nat.le_refl _))
    clear hb6 C
    have C := implAddBags_c Any a_meet a_join c_meet c_join (zipF minI xs ys xs.length) (zipF maxI xs ys xs.length) w6 S_meet.out S_join.out
    rw [T.out.both] at C
    replace C := Lib.hid C
    go_wp2_with fail
    refine C.out.mono ?_
    rintro e w7 ⟨v_both, F_both, rfl, hb7, ho_both, _, _⟩
    obtain ⟨a_both, c_both, rfl, s_both⟩ := ho_both.slA
    have S_both := Lib.hid s_both
    clear s_both ho_both
    replace S_a := Lib.hid (S_a.out.below hb7)
    replace S_b := Lib.hid (S_b.out.below hb7)
    replace S_sum := Lib.hid (S_sum.out.below hb7)
    replace S_back := Lib.hid (S_back.out.below hb7)
    replace S_meet := Lib.hid (S_meet.out.below hb7)
    replace S_join := Lib.hid (S_join.out.below hb7)
    replace HB := Lib.hid (bnext HB.out hb7 (Nat.le_refl _))
    clear hb7 C
    have C := callsP (implIsWithin_c Any a_b a_a c_b c_a (ys) (xs) w7 S_b.out S_a.out)
    rw [T.out.within, HW.out] at C
    replace C := Lib.hid C
    go_wp2_with fail
    refine C.out.mono ?_
    rintro e w8 ⟨rfl, hb8⟩
    replace S_a := Lib.hid (S_a.out.below hb8)
    replace S_b := Lib.hid (S_b.out.below hb8)
    replace S_sum := Lib.hid (S_sum.out.below hb8)
    replace S_back := Lib.hid (S_back.out.below hb8)
    replace S_meet := Lib.hid (S_meet.out.below hb8)
    replace S_join := Lib.hid (S_join.out.below hb8)
    replace S_both := Lib.hid (S_both.out.below hb8)
    replace HB := Lib.hid (bnext HB.out hb8 (Nat.le_refl _))
    clear hb8 C
    have C := implTakeBag_c Any a_a a_b c_a c_b (xs) (ys) w8 S_a.out S_b.out
    rw [H7.out] at C
    replace C := Lib.hid C
    go_wp2_with fail
    refine C.out.mono ?_
    rintro e w9 ⟨v_tk, F_tk, rfl, hb9, ho_tk, _, _⟩
    obtain ⟨a_tk, c_tk, rfl, s_tk⟩ := ho_tk.slA
    have S_tk := Lib.hid s_tk
    clear s_tk ho_tk
    replace S_a := Lib.hid (S_a.out.below hb9)
    replace S_b := Lib.hid (S_b.out.below hb9)
    replace S_sum := Lib.hid (S_sum.out.below hb9)
    replace S_back := Lib.hid (S_back.out.below hb9)
    replace S_meet := Lib.hid (S_meet.out.below hb9)
    replace S_join := Lib.hid (S_join.out.below hb9)
    replace S_both := Lib.hid (S_both.out.below hb9)
    replace HB := Lib.hid (bnext HB.out hb9 (Nat.le_refl _))
    clear hb9 C
    have C := callsQ (a2Same_c Any Any a_back a_a c_back c_a (xs) (xs) w9 S_back.out S_a.out)
    rw [decide_eq_true rfl] at C
    replace C := Lib.hid C
    go_wp2_with fail
    refine C.out.mono ?_
    rintro e w10 ⟨rfl, hb10⟩
    replace S_a := Lib.hid (S_a.out.below hb10)
    replace S_b := Lib.hid (S_b.out.below hb10)
    replace S_sum := Lib.hid (S_sum.out.below hb10)
    replace S_back := Lib.hid (S_back.out.below hb10)
    replace S_meet := Lib.hid (S_meet.out.below hb10)
    replace S_join := Lib.hid (S_join.out.below hb10)
    replace S_both := Lib.hid (S_both.out.below hb10)
    replace S_tk := Lib.hid (S_tk.out.below hb10)
    replace HB := Lib.hid (bnext HB.out hb10 (Nat.le_refl _))
    clear hb10 C
    have C := callsQ (a2Same_c Any Any a_both a_sum c_both c_sum (plusS xs ys 1) (plusS xs ys 1) w10 S_both.out S_sum.out)
    rw [decide_eq_true rfl] at C
    replace C := Lib.hid C
    go_wp2_with fail
    refine C.out.mono ?_
    rintro e w11 ⟨rfl, hb11⟩
    replace S_a := Lib.hid (S_a.out.below hb11)
    replace S_b := Lib.hid (S_b.out.below hb11)
    replace S_sum := Lib.hid (S_sum.out.below hb11)
    replace S_back := Lib.hid (S_back.out.below hb11)
    replace S_meet := Lib.hid (S_meet.out.below hb11)
    replace S_join := Lib.hid (S_join.out.below hb11)
    replace S_both := Lib.hid (S_both.out.below hb11)
    replace S_tk := Lib.hid (S_tk.out.below hb11)
    replace HB := Lib.hid (bnext HB.out hb11 (Nat.le_refl _))
    clear hb11 C
    have C := callsQ (a2Same_c Any Any a_meet a_b c_meet c_b (zipF minI xs ys xs.length) (ys) w11 S_meet.out S_b.out)
    rw [← T.out.same, HW.out] at C
    replace C := Lib.hid C
    go_wp2_with fail
    refine C.out.mono ?_
    rintro e w12 ⟨rfl, hb12⟩
    replace S_a := Lib.hid (S_a.out.below hb12)
    replace S_b := Lib.hid (S_b.out.below hb12)
    replace S_sum := Lib.hid (S_sum.out.below hb12)
    replace S_back := Lib.hid (S_back.out.below hb12)
    replace S_meet := Lib.hid (S_meet.out.below hb12)
    replace S_join := Lib.hid (S_join.out.below hb12)
    replace S_both := Lib.hid (S_both.out.below hb12)
    replace S_tk := Lib.hid (S_tk.out.below hb12)
    replace HB := Lib.hid (bnext HB.out hb12 (Nat.le_refl _))
    clear hb12 C
    have hz9 := Hid.out HB |>.size
    have HU := Lib.hid (h2.below HB.out)
    have hxl8 : xs.length ≤ 8 := T.out.hi
    go_wp2
    go_loopw [21, 22] (fun v i wr => ∃ (k : Nat) (ws : List Int), k ≤ xs.length ∧ i = .int .i64 k ∧ Hid (ws.length = k) ∧ Hid (∀ j, j < ws.length → -4 ≤ nth ws j ∧ nth ws j ≤ 4) ∧ Hid (Below w12.heap.size w12 wr) ∧ Hid (Bld 2 wr w12.heap.size v (ws.map (.int .i64)))) (fun _ i _ => xs.length - (intOf i).toNat)
    case atStart => exact ⟨0, [], Nat.zero_le _, rfl, Lib.hid rfl, Lib.hid (by simp), Lib.hid ((Below.refl _ _).alloc (Nat.le_refl _) _), Lib.hid (Bld.empty 2 w12 _ (Nat.le_refl _))⟩
    case round =>
      obtain ⟨k, ws, hk, rfl, HWL, HWB, HBL, HBD⟩ := hrel
      by_cases hlt : k < xs.length
      · have C := Lib.hid (a2At_c _ b m d k 9 wr (HU.out.below HBL.out) (by omega) (by omega))
        go_wp2_with fail
        refine C.out.mono ?_
        rintro e w' ⟨x, ⟨rfl, rfl⟩, hx0, hx9⟩
        have hbl' := HBD.out.below (below_alloc wr (.cells #[.int .i64 (x - 4)] 2))
        have hzr := HBL.out.size
        clear C
        go_wp2_with (at_builtin; refine app_one rfl _ _ 34 rfl tabI rfl (by decide) w12.heap.size _ _ rfl hbl' wr.heap.size (.int .i64 (x - 4)) rfl rfl ?c1 ?c2 ?c3 ?_)
        case c1 => simp
        case c2 => have := HWL.out; simp; omega
        case c3 => simp; omega
        intro v' w3 hbl3 hb3
        have HBD3 : Hid (Bld 2 w3 w12.heap.size v' ((ws ++ [x - 4]).map (.int .i64))) := Lib.hid (by simpa using hbl3)
        have HBL3 : Hid (Below w12.heap.size w12 w3) := Lib.hid ((HBL.out.alloc hzr _).trans hb3)
        have HWB3 : Hid (∀ j, j < (ws ++ [x - 4]).length → -4 ≤ nth (ws ++ [x - 4]) j ∧ nth (ws ++ [x - 4]) j ≤ 4) := Lib.hid fun j hj => by
          by_cases e : j < ws.length
          · have := HWB.out j e; simpa [nth, List.getElem?_append_left e] using this
          · have e2 : j = ws.length := by simp at hj; omega
            subst e2; simp [nth]; omega
        clear hbl3 hb3 hbl'
        go_wp2
        go_roundw
        case rel => exact ⟨k + 1, ws ++ [x - 4], by omega, by go_num, Lib.hid (by have := HWL.out; simp; omega), HWB3, HBL3, HBD3⟩
        case measure => simp [intOf]; omega
      · have HWX : Hid (ws.length = xs.length) := Lib.hid (by have := HWL.out; omega)
        have HK : Hid (k = xs.length) := Lib.hid (by omega)
        obtain ⟨a_ws, c_ws, F_ws, rfl, ho_ws, _, _⟩ := HBD.out.ow (by have := HWX.out; unfold maxLen; omega)
        have S_ws := Lib.hid ho_ws.arg
        have hkk : ¬ (k : Int) < xs.length := by omega
        obtain ⟨e1, e2, e3, e4, u1, u2, u3, u4⟩ := T.out.weigh HWX.out (fun j hj => HWB.out j (by have := HWX.out; omega))
        obtain ⟨u, hu⟩ : ∃ u, u = weighS xs ws := ⟨_, rfl⟩
        obtain ⟨v, hv⟩ : ∃ v, v = weighS ys ws := ⟨_, rfl⟩
        rw [← hu] at e1 e4 u1 u2
        rw [← hv] at e2 e4 u3 u4
        rw [← e4] at e3
        obtain ⟨z1, z2, z3, z4, z5, z6⟩ := T.out.size
        obtain ⟨sa, hsa⟩ : ∃ s, s = sumS xs := ⟨_, rfl⟩
        obtain ⟨sb, hsb⟩ : ∃ s, s = sumS ys := ⟨_, rfl⟩
        rw [← hsa] at z2 z3 z4
        rw [← hsb] at z2 z5 z6
        rw [z2] at z1
        have E1 := Lib.hid e1
        have E2 := Lib.hid e2
        have E3 := Lib.hid e3
        have Z1 := Lib.hid z1
        have HSA := Lib.hid hsa
        have HSB := Lib.hid hsb
        clear e1 e2 e3 e4 hu hv z1 z2 hsa hsb ho_ws hk hlt HWL HBD HWB
        replace HB := Lib.hid (bnext HB.out HBL.out (Nat.le_refl _))
        replace S_a := Lib.hid (S_a.out.below HBL.out)
        replace S_b := Lib.hid (S_b.out.below HBL.out)
        replace S_sum := Lib.hid (S_sum.out.below HBL.out)
        replace S_back := Lib.hid (S_back.out.below HBL.out)
        replace S_meet := Lib.hid (S_meet.out.below HBL.out)
        replace S_join := Lib.hid (S_join.out.below HBL.out)
        replace S_both := Lib.hid (S_both.out.below HBL.out)
        replace S_tk := Lib.hid (S_tk.out.below HBL.out)
        clear HBL
        have C := implWeighBag_c Any a_a a_ws c_a c_ws (xs) (ws) wr S_a.out S_ws.out
        rw [E1.out] at C
        replace C := Lib.hid C
        go_wp2_with fail
        refine C.out.mono ?_
        rintro e w13 ⟨rfl, hb13⟩
        replace S_a := Lib.hid (S_a.out.below hb13)
        replace S_b := Lib.hid (S_b.out.below hb13)
        replace S_sum := Lib.hid (S_sum.out.below hb13)
        replace S_back := Lib.hid (S_back.out.below hb13)
        replace S_meet := Lib.hid (S_meet.out.below hb13)
        replace S_join := Lib.hid (S_join.out.below hb13)
        replace S_both := Lib.hid (S_both.out.below hb13)
        replace S_tk := Lib.hid (S_tk.out.below hb13)
        replace S_ws := Lib.hid (S_ws.out.below hb13)
        replace HB := Lib.hid (bnext HB.out hb13 (Nat.le_refl _))
        clear hb13 C
        have C := implWeighBag_c Any a_b a_ws c_b c_ws (ys) (ws) w13 S_b.out S_ws.out
        rw [E2.out] at C
        replace C := Lib.hid C
        go_wp2_with fail
        refine C.out.mono ?_
        rintro e w14 ⟨rfl, hb14⟩
        replace S_a := Lib.hid (S_a.out.below hb14)
        replace S_b := Lib.hid (S_b.out.below hb14)
        replace S_sum := Lib.hid (S_sum.out.below hb14)
        replace S_back := Lib.hid (S_back.out.below hb14)
        replace S_meet := Lib.hid (S_meet.out.below hb14)
        replace S_join := Lib.hid (S_join.out.below hb14)
        replace S_both := Lib.hid (S_both.out.below hb14)
        replace S_tk := Lib.hid (S_tk.out.below hb14)
        replace S_ws := Lib.hid (S_ws.out.below hb14)
        replace HB := Lib.hid (bnext HB.out hb14 (Nat.le_refl _))
        clear hb14 C
        have C := implWeighBag_c Any a_sum a_ws c_sum c_ws (plusS xs ys 1) (ws) w14 S_sum.out S_ws.out
        rw [E3.out] at C
        replace C := Lib.hid C
        go_wp2_with fail
        refine C.out.mono ?_
        rintro e w15 ⟨rfl, hb15⟩
        replace S_a := Lib.hid (S_a.out.below hb15)
        replace S_b := Lib.hid (S_b.out.below hb15)
        replace S_sum := Lib.hid (S_sum.out.below hb15)
        replace S_back := Lib.hid (S_back.out.below hb15)
        replace S_meet := Lib.hid (S_meet.out.below hb15)
        replace S_join := Lib.hid (S_join.out.below hb15)
        replace S_both := Lib.hid (S_both.out.below hb15)
        replace S_tk := Lib.hid (S_tk.out.below hb15)
        replace S_ws := Lib.hid (S_ws.out.below hb15)
        replace HB := Lib.hid (bnext HB.out hb15 (Nat.le_refl _))
        clear hb15 C
        have C := callsP (implBagSize_c Any a_sum c_sum (plusS xs ys 1) w15 S_sum.out)
        rw [Z1.out] at C
        replace C := Lib.hid C
        go_wp2_with fail
        refine C.out.mono ?_
        rintro e w16 ⟨rfl, hb16⟩
        replace S_a := Lib.hid (S_a.out.below hb16)
        replace S_b := Lib.hid (S_b.out.below hb16)
        replace S_sum := Lib.hid (S_sum.out.below hb16)
        replace S_back := Lib.hid (S_back.out.below hb16)
        replace S_meet := Lib.hid (S_meet.out.below hb16)
        replace S_join := Lib.hid (S_join.out.below hb16)
        replace S_both := Lib.hid (S_both.out.below hb16)
        replace S_tk := Lib.hid (S_tk.out.below hb16)
        replace S_ws := Lib.hid (S_ws.out.below hb16)
        replace HB := Lib.hid (bnext HB.out hb16 (Nat.le_refl _))
        clear hb16 C
        have C := callsP (a2Sum_c Any a_a c_a (xs) w16 S_a.out)
        rw [← HSA.out] at C
        replace C := Lib.hid C
        go_wp2_with fail
        refine C.out.mono ?_
        rintro e w17 ⟨rfl, hb17⟩
        replace S_a := Lib.hid (S_a.out.below hb17)
        replace S_b := Lib.hid (S_b.out.below hb17)
        replace S_sum := Lib.hid (S_sum.out.below hb17)
        replace S_back := Lib.hid (S_back.out.below hb17)
        replace S_meet := Lib.hid (S_meet.out.below hb17)
        replace S_join := Lib.hid (S_join.out.below hb17)
        replace S_both := Lib.hid (S_both.out.below hb17)
        replace S_tk := Lib.hid (S_tk.out.below hb17)
        replace S_ws := Lib.hid (S_ws.out.below hb17)
        replace HB := Lib.hid (bnext HB.out hb17 (Nat.le_refl _))
        clear hb17 C
        have C := callsP (a2Sum_c Any a_b c_b (ys) w17 S_b.out)
        rw [← HSB.out] at C
        replace C := Lib.hid C
        go_wp2_with fail
        refine C.out.mono ?_
        rintro e w18 ⟨rfl, hb18⟩
        replace S_a := Lib.hid (S_a.out.below hb18)
        replace S_b := Lib.hid (S_b.out.below hb18)
        replace S_sum := Lib.hid (S_sum.out.below hb18)
        replace S_back := Lib.hid (S_back.out.below hb18)
        replace S_meet := Lib.hid (S_meet.out.below hb18)
        replace S_join := Lib.hid (S_join.out.below hb18)
        replace S_both := Lib.hid (S_both.out.below hb18)
        replace S_tk := Lib.hid (S_tk.out.below hb18)
        replace S_ws := Lib.hid (S_ws.out.below hb18)
        replace HB := Lib.hid (bnext HB.out hb18 (Nat.le_refl _))
        clear hb18 C
        have C := callsP (a2Sum_c Any a_b c_b (ys) w18 S_b.out)
        rw [← HSB.out] at C
        replace C := Lib.hid C
        go_wp2_with fail
        refine C.out.mono ?_
        rintro e w19 ⟨rfl, hb19⟩
        replace S_a := Lib.hid (S_a.out.below hb19)
        replace S_b := Lib.hid (S_b.out.below hb19)
        replace S_sum := Lib.hid (S_sum.out.below hb19)
        replace S_back := Lib.hid (S_back.out.below hb19)
        replace S_meet := Lib.hid (S_meet.out.below hb19)
        replace S_join := Lib.hid (S_join.out.below hb19)
        replace S_both := Lib.hid (S_both.out.below hb19)
        replace S_tk := Lib.hid (S_tk.out.below hb19)
        replace S_ws := Lib.hid (S_ws.out.below hb19)
        replace HB := Lib.hid (bnext HB.out hb19 (Nat.le_refl _))
        clear hb19 C
        by_cases hs0 : sb = 0
        · have q0 : (sb == 0) = true := by simpa using hs0
          go_wp2
          go_ret
          exact ⟨rfl, HB.out⟩
        have q0 : (sb == 0) = false := by simpa using hs0
        obtain ⟨t, t0, t6, y1, y2, y3, y4, y5, y6⟩ := T.out.times (by rw [← HSB.out]; exact hs0)
        have Y1 := Lib.hid y1
        have Y2 := Lib.hid y2
        have Y4 := Lib.hid y4
        have Y5 := Lib.hid y5
        have Y6 := Lib.hid y6
        clear y1 y2 y3 y4 y5 y6 hs0
        have C := callsP (implTimesIn_c Any a_b a_a c_b c_a (ys) (xs) w19 S_b.out S_a.out)
        rw [Y1.out] at C
        replace C := Lib.hid C
        go_wp2_with fail
        refine C.out.mono ?_
        rintro e w20 ⟨rfl, hb20⟩
        replace S_a := Lib.hid (S_a.out.below hb20)
        replace S_b := Lib.hid (S_b.out.below hb20)
        replace S_sum := Lib.hid (S_sum.out.below hb20)
        replace S_back := Lib.hid (S_back.out.below hb20)
        replace S_meet := Lib.hid (S_meet.out.below hb20)
        replace S_join := Lib.hid (S_join.out.below hb20)
        replace S_both := Lib.hid (S_both.out.below hb20)
        replace S_tk := Lib.hid (S_tk.out.below hb20)
        replace S_ws := Lib.hid (S_ws.out.below hb20)
        replace HB := Lib.hid (bnext HB.out hb20 (Nat.le_refl _))
        clear hb20 C
        have C := implScaleBag_c t Any a_b c_b ys w20 S_b.out
        rw [Y2.out] at C
        replace C := Lib.hid C
        go_wp2_with fail
        refine C.out.mono ?_
        rintro e w21 ⟨v_sc, F_sc, rfl, hb21, ho_sc, _, _⟩
        obtain ⟨a_sc, c_sc, rfl, s_sc⟩ := ho_sc.slA
        have S_sc := Lib.hid s_sc
        clear s_sc ho_sc
        replace S_a := Lib.hid (S_a.out.below hb21)
        replace S_b := Lib.hid (S_b.out.below hb21)
        replace S_sum := Lib.hid (S_sum.out.below hb21)
        replace S_back := Lib.hid (S_back.out.below hb21)
        replace S_meet := Lib.hid (S_meet.out.below hb21)
        replace S_join := Lib.hid (S_join.out.below hb21)
        replace S_both := Lib.hid (S_both.out.below hb21)
        replace S_tk := Lib.hid (S_tk.out.below hb21)
        replace S_ws := Lib.hid (S_ws.out.below hb21)
        replace HB := Lib.hid (bnext HB.out hb21 (Nat.le_refl _))
        clear hb21 C
        have C := callsP (implIsWithin_c Any a_sc a_a c_sc c_a (plusS (List.replicate ys.length 0) ys t) (xs) w21 S_sc.out S_a.out)
        rw [Y4.out] at C
        replace C := Lib.hid C
        go_wp2_with fail
        refine C.out.mono ?_
        rintro e w22 ⟨rfl, hb22⟩
        replace S_a := Lib.hid (S_a.out.below hb22)
        replace S_b := Lib.hid (S_b.out.below hb22)
        replace S_sum := Lib.hid (S_sum.out.below hb22)
        replace S_back := Lib.hid (S_back.out.below hb22)
        replace S_meet := Lib.hid (S_meet.out.below hb22)
        replace S_join := Lib.hid (S_join.out.below hb22)
        replace S_both := Lib.hid (S_both.out.below hb22)
        replace S_tk := Lib.hid (S_tk.out.below hb22)
        replace S_ws := Lib.hid (S_ws.out.below hb22)
        replace S_sc := Lib.hid (S_sc.out.below hb22)
        replace HB := Lib.hid (bnext HB.out hb22 (Nat.le_refl _))
        clear hb22 C
        have C := implAddBags_c Any a_sc a_b c_sc c_b (plusS (List.replicate ys.length 0) ys t) (ys) w22 S_sc.out S_b.out
        rw [Y5.out] at C
        replace C := Lib.hid C
        go_wp2_with fail
        refine C.out.mono ?_
        rintro e w23 ⟨v_nx, F_nx, rfl, hb23, ho_nx, _, _⟩
        obtain ⟨a_nx, c_nx, rfl, s_nx⟩ := ho_nx.slA
        have S_nx := Lib.hid s_nx
        clear s_nx ho_nx
        replace S_a := Lib.hid (S_a.out.below hb23)
        replace S_b := Lib.hid (S_b.out.below hb23)
        replace S_sum := Lib.hid (S_sum.out.below hb23)
        replace S_back := Lib.hid (S_back.out.below hb23)
        replace S_meet := Lib.hid (S_meet.out.below hb23)
        replace S_join := Lib.hid (S_join.out.below hb23)
        replace S_both := Lib.hid (S_both.out.below hb23)
        replace S_tk := Lib.hid (S_tk.out.below hb23)
        replace S_ws := Lib.hid (S_ws.out.below hb23)
        replace S_sc := Lib.hid (S_sc.out.below hb23)
        replace HB := Lib.hid (bnext HB.out hb23 (Nat.le_refl _))
        clear hb23 C
        have C := callsP (implIsWithin_c Any a_nx a_a c_nx c_a (plusS (plusS (List.replicate ys.length 0) ys t) ys 1) (xs) w23 S_nx.out S_a.out)
        rw [Y6.out] at C
        replace C := Lib.hid C
        go_wp2_with fail
        refine C.out.mono ?_
        rintro e w24 ⟨rfl, hb24⟩
        replace S_a := Lib.hid (S_a.out.below hb24)
        replace S_b := Lib.hid (S_b.out.below hb24)
        replace S_sum := Lib.hid (S_sum.out.below hb24)
        replace S_back := Lib.hid (S_back.out.below hb24)
        replace S_meet := Lib.hid (S_meet.out.below hb24)
        replace S_join := Lib.hid (S_join.out.below hb24)
        replace S_both := Lib.hid (S_both.out.below hb24)
        replace S_tk := Lib.hid (S_tk.out.below hb24)
        replace S_ws := Lib.hid (S_ws.out.below hb24)
        replace S_sc := Lib.hid (S_sc.out.below hb24)
        replace S_nx := Lib.hid (S_nx.out.below hb24)
        replace HB := Lib.hid (bnext HB.out hb24 (Nat.le_refl _))
        clear hb24 C
        go_wp2
        go_ret
        exact ⟨rfl, HB.out⟩
set_option maxRecDepth 100000 in
theorem lifted (os : Os) (started : os.Started) (H : Type) (enc : TypeId × Value → H) :
    ReturnsInHanded {} Try.checked os 7 .any (Rows.fnBagSumsSpec.pre6 enc Try.prog Try.f7 Rows.fnBagSumsRow.domain false) (Rows.fnBagSumsSpec.post enc Try.prog Try.f7 false true false false) :=
  lift Try.func7 (by kernel_rfl) rfl rfl (by kernel_rfl : Try.prog.underlying 4 = some .bool) (by kernel_rfl) (fun ds h => by match ds, h with | [d0, d1], _ => rfl) started
    (ChangeSpec.witness6 (enc := enc) (C := Try.checked) false ⟨#[], #[.slice none 0 0, .slice none 0 0], []⟩ 8 (by kernel_rfl) (by kernel_rfl) (by kernel_rfl) (by kernel_rfl))
    (fun W base args ds p hval hA => by
      rw [Try.params7] at hA hval
      obtain ⟨v0, vs0, d0, ds0, p0, q0, hargs0, rfl, rfl, g0, r0⟩ := ChangeShapes.trodAll_cons hA
      obtain ⟨v1, vs1, d1, ds1, p1, q1, hargs1, rfl, rfl, g1, r1⟩ := ChangeShapes.trodAll_cons r0
      obtain ⟨hnil, rfl, rfl⟩ := ChangeShapes.trodAll_nil r1
      obtain rfl : args = #[v0, v1] := by cases args; simp_all
      obtain ⟨a0, n0, c0, rfl, h0⟩ := open_U Try.underlying76 Try.underlying5 (by kernel_rfl) (hval 0 _ _ rfl rfl) g0
      obtain ⟨a1, n1, c1, rfl, h1⟩ := open_U Try.underlying76 Try.underlying5 (by kernel_rfl) (hval 1 _ _ rfl rfl) g1
      exact walk a0 n0 c0 a1 n1 c1 W h0 h1)
end Go.Proofs.Ythlbogmnnenkoaa.lawBagSums
