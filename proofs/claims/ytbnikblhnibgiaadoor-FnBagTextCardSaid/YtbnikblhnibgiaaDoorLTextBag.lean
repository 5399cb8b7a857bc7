/- FnBagText: whatever the input, the law returns true. No condition. Written by mkftb.py. -/
import Derived.Test.YtbnikblhnibgiaaDoorTF
import Derived.Test.YtbnikblhnibgiaaDoorDL
import Derived.Test.YtbnikblhnibgiaaDoorNK
import Derived.Test.YtbnikblhnibgiaaDoorFE
import Derived.Test.YtbnikblhnibgiaaDoorF
import Derived.Test.YtbnikblhnibgiaaDoorQV
namespace Go.Proofs.YtbnikblhnibgiaaDoor.lawTextBag
open Go.ChangeShapes Go.WideShapes Go.ChangeAt Go.RowKit
set_option maxHeartbeats 4000000 in
set_option maxRecDepth 100000 in
theorem walk (a : Option Addr) (n c : Nat) (b : Option Addr) (m d : Nat) (w : World) (h1 : SlU (· < w.heap.size) w a n) (h2 : SlU (· < w.heap.size) w b m) (hlib : LibOk w) :
    Calls Tryd.prog 4 #[.slice a n c, .slice b m d] w (RetV w (.bool true)) := by
  have HLIB := Lib.hid hlib
  clear hlib
  have C := Lib.hid (callsP (a2Long_c a b n c m d w h1.len h2.len))
  cases hq : (decide (3000 < n) || decide (3000 < m))
  rotate_left
  · rw [hq] at C
    clear hq
    go_enter Tryd.func4, Tryd.ntmps4
    go_wp2_with fail
    refine C.out.mono ?_
    rintro e w1 ⟨rfl, hb1⟩
    have HB := Lib.hid hb1
    clear hb1
    go_wp2
    go_ret
    exact ⟨rfl, HB.out⟩
  rw [hq] at C
  clear hq
  go_enter Tryd.func4, Tryd.ntmps4
  go_wp2_with fail
  refine C.out.mono ?_
  rintro e w1 ⟨rfl, hb1⟩
  have HB := Lib.hid hb1
  clear hb1 C
  have C := Lib.hid (A2Bags_c a n c w1 ((h1.below HB.out).any fun k hk => Nat.lt_of_lt_of_le hk HB.out.size))
  go_wp2_with fail
  refine C.out.mono ?_
  rintro e w2 ⟨xs, ys, a_a, c_a, a_b, c_b, rfl, hb2, s_a, s_b, p1, p2, p3, p4, p5⟩
  obtain ⟨q1, q2, q3, q4, q5⟩ := text_facts p2 p3 p4
  obtain ⟨r1, r2, _, _, _⟩ := text_facts (b := ys) (by omega) (by omega) (fun j hj => by have := p5 j hj; omega)
  rw [← p1] at r2
  obtain ⟨tx, htx⟩ : ∃ t, t = bagT xs := ⟨_, rfl⟩
  obtain ⟨ty, hty⟩ : ∃ t, t = bagT ys := ⟨_, rfl⟩
  rw [← htx] at q1 q2 q3
  rw [← hty] at r1 r2
  have HTX := Lib.hid htx
  have HTY := Lib.hid hty
  have HX1 := Lib.hid q2
  have HY1 := Lib.hid r2
  have HX2 := Lib.hid q3
  have HX3 := Lib.hid q4
  have HX4 := Lib.hid q5
  have S_a := Lib.hid s_a
  have S_b := Lib.hid s_b
  replace HB := Lib.hid (bnext HB.out hb2 (Nat.le_refl _))
  clear hb2 C s_a s_b p1 p4 p5 htx hty q2 q3 q4 q5 r2
  have C := implBagText_d xs (v := .slice a_a xs.length c_a) w2 (Rd_I.2 ⟨_, _, rfl, S_a.out⟩) (HLIB.out.below HB.out).pow
  rw [← HTX.out] at C
  replace C := Lib.hid C
  go_wp2_with fail
  refine C.out.mono ?_
  rintro e w3 ⟨rfl, hb3⟩
  replace S_a := Lib.hid (S_a.out.below hb3)
  replace S_b := Lib.hid (S_b.out.below hb3)
  replace HB := Lib.hid (bnext HB.out hb3 (Nat.le_refl _))
  clear hb3 C
  have C := implReadBag_d (xs.length : Int) tx w3 (by omega) (HLIB.out.below HB.out)
  rw [HX1.out] at C
  replace C := Lib.hid C
  go_wp2_with fail
  refine C.out.mono ?_
  rintro e w4 ⟨v_x, F_x, rfl, hb4, ho_x, _, _⟩
  obtain ⟨a_x, c_x, rfl, s_x⟩ := ho_x.slA
  have S_x := Lib.hid s_x
  clear s_x ho_x
  replace S_a := Lib.hid (S_a.out.below hb4)
  replace S_b := Lib.hid (S_b.out.below hb4)
  replace HB := Lib.hid (bnext HB.out hb4 (Nat.le_refl _))
  clear hb4 C
  have C := implBagText_d ys (v := .slice a_b ys.length c_b) w4 (Rd_I.2 ⟨_, _, rfl, S_b.out⟩) (HLIB.out.below HB.out).pow
  rw [← HTY.out] at C
  replace C := Lib.hid C
  go_wp2_with fail
  refine C.out.mono ?_
  rintro e w5 ⟨rfl, hb5⟩
  replace S_a := Lib.hid (S_a.out.below hb5)
  replace S_b := Lib.hid (S_b.out.below hb5)
  replace S_x := Lib.hid (S_x.out.below hb5)
  replace HB := Lib.hid (bnext HB.out hb5 (Nat.le_refl _))
  clear hb5 C
  have C := implReadBag_d (xs.length : Int) ty w5 (by omega) (HLIB.out.below HB.out)
  rw [HY1.out] at C
  replace C := Lib.hid C
  go_wp2_with fail
  refine C.out.mono ?_
  rintro e w6 ⟨v_y, F_y, rfl, hb6, ho_y, _, _⟩
  obtain ⟨a_y, c_y, rfl, s_y⟩ := ho_y.slA
  have S_y := Lib.hid s_y
  clear s_y ho_y
  replace S_a := Lib.hid (S_a.out.below hb6)
  replace S_b := Lib.hid (S_b.out.below hb6)
  replace S_x := Lib.hid (S_x.out.below hb6)
  replace HB := Lib.hid (bnext HB.out hb6 (Nat.le_refl _))
  clear hb6 C
  have C := specBagText_d xs (v := .slice a_a xs.length c_a) w6 (Rd_I.2 ⟨_, _, rfl, S_a.out⟩)
  rw [← HTX.out] at C
  replace C := Lib.hid C
  go_wp2_with fail
  refine C.out.mono ?_
  rintro e w7 ⟨rfl, hb7⟩
  replace S_a := Lib.hid (S_a.out.below hb7)
  replace S_b := Lib.hid (S_b.out.below hb7)
  replace S_x := Lib.hid (S_x.out.below hb7)
  replace S_y := Lib.hid (S_y.out.below hb7)
  replace HB := Lib.hid (bnext HB.out hb7 (Nat.le_refl _))
  clear hb7 C
  have C := implReadBag_d (xs.length : Int) (tx ++ ⟨#[32]⟩) w7 (by rw [ByteArray.size_append]; have : (ByteArray.mk #[32]).size = 1 := rfl; omega) (HLIB.out.below HB.out)
  rw [HX2.out] at C
  replace C := Lib.hid C
  go_wp2_with fail
  refine C.out.mono ?_
  rintro e w8 ⟨v9, F9, rfl, hb8, ho9, _, _⟩
  obtain ⟨a_9, c_9, rfl, s_9⟩ := ho9.slA
  clear s_9 ho9
  replace S_a := Lib.hid (S_a.out.below hb8)
  replace S_b := Lib.hid (S_b.out.below hb8)
  replace S_x := Lib.hid (S_x.out.below hb8)
  replace S_y := Lib.hid (S_y.out.below hb8)
  replace HB := Lib.hid (bnext HB.out hb8 (Nat.le_refl _))
  clear hb8 C
  have C := callsQ (a2Same_c Any Any a_x a_a c_x c_a (xs) (xs) w8 S_x.out S_a.out)
  rw [decide_eq_true rfl] at C
  replace C := Lib.hid C
  go_wp2_with fail
  refine C.out.mono ?_
  rintro e w9 ⟨rfl, hb9⟩
  replace S_a := Lib.hid (S_a.out.below hb9)
  replace S_b := Lib.hid (S_b.out.below hb9)
  replace S_x := Lib.hid (S_x.out.below hb9)
  replace S_y := Lib.hid (S_y.out.below hb9)
  replace HB := Lib.hid (bnext HB.out hb9 (Nat.le_refl _))
  clear hb9 C
  have C := callsQ (a2Same_c Any Any a_y a_b c_y c_b (ys) (ys) w9 S_y.out S_b.out)
  rw [decide_eq_true rfl] at C
  replace C := Lib.hid C
  go_wp2_with fail
  refine C.out.mono ?_
  rintro e w10 ⟨rfl, hb10⟩
  replace S_a := Lib.hid (S_a.out.below hb10)
  replace S_b := Lib.hid (S_b.out.below hb10)
  replace S_x := Lib.hid (S_x.out.below hb10)
  replace S_y := Lib.hid (S_y.out.below hb10)
  replace HB := Lib.hid (bnext HB.out hb10 (Nat.le_refl _))
  clear hb10 C
  have C := callsP (validBag_c (xs.length : Int) Any a_x c_x xs w10 S_x.out)
  rw [HX3.out] at C
  replace C := Lib.hid C
  go_wp2_with fail
  refine C.out.mono ?_
  rintro e w11 ⟨rfl, hb11⟩
  replace S_a := Lib.hid (S_a.out.below hb11)
  replace S_b := Lib.hid (S_b.out.below hb11)
  replace S_x := Lib.hid (S_x.out.below hb11)
  replace S_y := Lib.hid (S_y.out.below hb11)
  replace HB := Lib.hid (bnext HB.out hb11 (Nat.le_refl _))
  clear hb11 C
  have C := callsP (validBag_c ((xs.length : Int) + 1) Any a_x c_x xs w11 S_x.out)
  rw [HX4.out] at C
  replace C := Lib.hid C
  go_wp2_with fail
  refine C.out.mono ?_
  rintro e w12 ⟨rfl, hb12⟩
  replace S_a := Lib.hid (S_a.out.below hb12)
  replace S_b := Lib.hid (S_b.out.below hb12)
  replace S_x := Lib.hid (S_x.out.below hb12)
  replace S_y := Lib.hid (S_y.out.below hb12)
  replace HB := Lib.hid (bnext HB.out hb12 (Nat.le_refl _))
  clear hb12 C
  go_wp2
  go_ret
  exact ⟨rfl, HB.out⟩
def laidL : List (String × DataW Unit) := Rows.fnBagTextRow.laid
theorem door_met (os : Os) (args : Array Value) : laidMetH Tryd.prog laidL ((World.laidAll Tryd.prog os laidL).forCall (fun _ _ => 0) ⟨#[], args, []⟩).memory :=
  by rw [MakeChecks.laidMetH_plain _ _ _ (by kernel_rfl)]; exact laidMet_laidAll _ (by kernel_rfl) (by kernel_rfl)
set_option maxRecDepth 100000 in
theorem lifted (os : Os) (started : os.Started) (H : Type) (enc : TypeId × Value → H) :
    ReturnsInHanded {} Tryd.checked os 4 .any (fun w args => (Rows.fnBagTextSpec.pre enc Tryd.prog Tryd.f4 [] false w args ∧ laidMetH Tryd.prog laidL w) ∧ sizedMet enc Tryd.prog Tryd.f4 (OpenSpec.ofChange Rows.fnBagTextSpec) false w args) (Rows.fnBagTextSpec.post enc Tryd.prog Tryd.f4 false true false false) :=
  liftShaped (lst := laidL) Tryd.func4 (by kernel_rfl) rfl rfl (by kernel_rfl : Tryd.prog.underlying 4 = some .bool) (by kernel_rfl) (fun ds h => by match ds, h with | [d0, d1], _ => rfl) started
    (ChangeSpec.witness_shaped (enc := enc) (C := Tryd.checked) (os := os) (X := fun w _ => laidMetH Tryd.prog laidL w) false (World.laidAll Tryd.prog os laidL) #[.slice none 0 0, .slice none 0 0] 8 (World.laidAll_os _ _ _) (World.shaped_of_ZipB (by kernel_rfl) (by kernel_rfl)) (by kernel_rfl) (by kernel_rfl) (by kernel_rfl) (door_met os _))
    (fun W base args ds p hval hA hL hSh => by
      rw [Tryd.params4] at hA hval
      obtain ⟨v0, vs0, d0, ds0, p0, q0, hargs0, rfl, rfl, g0, r0⟩ := ChangeShapes.trodAll_cons hA
      obtain ⟨v1, vs1, d1, ds1, p1, q1, hargs1, rfl, rfl, g1, r1⟩ := ChangeShapes.trodAll_cons r0
      obtain ⟨hnil, rfl, rfl⟩ := ChangeShapes.trodAll_nil r1
      obtain rfl : args = #[v0, v1] := by cases args; simp_all
      obtain ⟨a0, n0, c0, rfl, h0⟩ := open_U Tryd.underlying28 Tryd.underlying5 (by kernel_rfl) (hval 0 _ _ rfl rfl) g0
      obtain ⟨a1, n1, c1, rfl, h1⟩ := open_U Tryd.underlying28 Tryd.underlying5 (by kernel_rfl) (hval 1 _ _ rfl rfl) g1
      exact walk a0 n0 c0 a1 n1 c1 W h0 h1 (lib_ofBagText hL hSh))
end Go.Proofs.YtbnikblhnibgiaaDoor.lawTextBag
