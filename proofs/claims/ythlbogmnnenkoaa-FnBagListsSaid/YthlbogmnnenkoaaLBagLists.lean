/- FnBagLists: whatever the input, the law returns true. No condition. -/
import Derived.Test.YthlbogmnnenkoaaDM
import Derived.Test.YthlbogmnnenkoaaBU
import Derived.Test.YthlbogmnnenkoaaBW
import Derived.Test.YthlbogmnnenkoaaE
import Derived.Test.YthlbogmnnenkoaaF
namespace Go.Proofs.Ythlbogmnnenkoaa.lawBagLists
open Go.ChangeShapes Go.WideShapes Go.ChangeAt Go.RowKit
set_option maxHeartbeats 8000000 in
set_option maxRecDepth 100000 in
theorem walk (a : Option Addr) (n c : Nat) (b : Option Addr) (m d : Nat) (w : World) (h1 : SlU (· < w.heap.size) w a n) (h2 : SlU (· < w.heap.size) w b m) :
    Calls Try.prog 8 #[.slice a n c, .slice b m d] w (RetV w (.bool true)) := by
  have C := Lib.hid (callsP (a2Long_c a b n c m d w h1.len h2.len))
  cases hq : (decide (3000 < n) || decide (3000 < m))
  rotate_left
  · rw [hq] at C
    clear hq
    go_enter Try.func8, Try.ntmps8
    go_wp2_with fail
    refine C.out.mono ?_
    rintro e w1 ⟨rfl, hb1⟩
    have HB := Lib.hid hb1
    clear hb1
    go_wp2
    go_ret
    exact ⟨rfl, HB.out⟩
  rw [hq] at C
  clear hq
  go_enter Try.func8, Try.ntmps8
  go_wp2_with fail
  refine C.out.mono ?_
  rintro e w1 ⟨rfl, hb1⟩
  have HB := Lib.hid hb1
  clear hb1 C
  have C := Lib.hid (a2At_c _ a n c 0 4 w1 (h1.below HB.out) (by omega) (by omega))
  go_wp2_with fail
  refine C.out.mono ?_
  rintro e w2 ⟨x, ⟨rfl, rfl⟩, hx0, hx4⟩
  clear C
  obtain ⟨r, rfl⟩ : ∃ r : Nat, x = r := ⟨x.toNat, by omega⟩
  have hr4 : r < 4 := by omega
  have C := Lib.hid (a2At_c _ a n c 1 7 w1 (h1.below HB.out) (by omega) (by omega))
  go_wp2_with fail
  refine C.out.mono ?_
  rintro e w3 ⟨x, ⟨rfl, rfl⟩, hy0, hy7⟩
  clear C
  obtain ⟨l, rfl⟩ : ∃ l : Nat, x = l := ⟨x.toNat, by omega⟩
  have hl7 : l < 7 := by omega
  obtain ⟨s1, s2, s3⟩ := small_ok hr4 hl7
  have R1 := Lib.hid (ofSz_rises r l)
  have S1 := Lib.hid s1
  have S2 := Lib.hid s2
  have S3 := Lib.hid s3
  clear s1 s2 s3 hx0 hx4 hy0 hy7
  have C := implBagsOfSize_d (1 + (r : Int)) l w1
  rw [show bagsOfSizeS (1 + (r : Int)) l = (ofSz r l, 0) by rw [Int.add_comm]; exact bagsOf_small hr4 hl7] at C
  replace C := Lib.hid C
  obtain ⟨all, hall⟩ : ∃ all, all = ofSz r l := ⟨_, rfl⟩
  rw [← hall] at C R1 S1 S2
  clear hall
  go_wp2_with fail
  refine C.out.mono ?_
  rintro e w4 ⟨v, F, rfl, hb4, ho4, _, _⟩
  obtain ⟨a_l, c_l, rfl, s_l⟩ := ho4.slAA
  have SL := Lib.hid s_l
  replace HB := Lib.hid (bnext HB.out hb4 (Nat.le_refl _))
  have lal : all.length ≤ 100 := by have := S1.out; have := S3.out r hr4; omega
  clear hb4 ho4 s_l C
  go_wp2
  go_loopw [9, 10] (fun d i wr => ∃ k : Nat, k ≤ r ∧ i = .int .i64 ((k : Int) + 1) ∧ d = .int .i64 (dueB l k) ∧ w4 = wr) (fun _ i _ => r + 1 - (intOf i).toNat)
  case atStart => exact ⟨0, Nat.zero_le _, by simp, by simp [dueB], rfl⟩
  case round =>
    obtain ⟨k, hk, rfl, rfl, rfl⟩ := hrel
    by_cases hlt : k < r
    · have hd := S3.out k (by omega)
      have hp : 0 ≤ dueB l k * ((l : Int) + ((k : Int) + 1)) ∧ dueB l k * ((l : Int) + ((k : Int) + 1)) ≤ 1000 := by
        have : 0 ≤ (l : Int) + ((k : Int) + 1) ∧ (l : Int) + ((k : Int) + 1) ≤ 10 := by omega
        have h3 := Int.mul_le_mul hd.2 this.2 this.1 (by omega)
        have h4 := Int.mul_nonneg (show 0 ≤ dueB l k by omega) this.1
        omega
      have hlr : (k : Int) + 1 < 1 + (r : Int) := by omega
      have hk1 : ¬ (k : Int) + 1 = 0 := by omega
      go_wp2
      go_roundw
      case rel => exact ⟨k + 1, by omega, by go_num, by first | rfl | simp [dueB] | (simp only [dueB]; rfl), trivial⟩
      case measure => simp [intOf]; omega
    · have hkr : k = r := by omega
      have hnl : ¬ (k : Int) + 1 < 1 + (r : Int) := by omega
      have S1' : Hid (((all.length : Int) != dueB l k) = false) := Lib.hid (by rw [hkr, ← S1.out]; simp)
      have C := a2Rising_c a_l c_l (r + 1) all w4 SL.out R1.out
      rw [show (((r + 1 : Nat) : Int)) = 1 + (r : Int) by omega] at C
      replace C := Lib.hid C
      have q9 := S1'.out
      clear hkr hlt
      go_wp2_with fail
      refine C.out.mono ?_
      rintro e w5 ⟨rfl, hb5⟩
      replace HB := Lib.hid (bnext HB.out hb5 (Nat.le_refl _))
      replace SL := Lib.hid (SL.out.below hb5)
      have i1 := SL.out.ix tabII.under tabII.size c_l
      clear hb5 C q9 hnl hk
      go_wp2
      go_loopw [11] (fun i wr => ∃ k : Nat, k ≤ all.length ∧ i = .int .i64 k ∧ Hid (Below w5.heap.size w5 wr)) (fun i _ => all.length - (intOf i).toNat)
      case atStart => exact ⟨0, Nat.zero_le _, rfl, Lib.hid (Below.refl _ _)⟩
      case round =>
        obtain ⟨q, hq, rfl, HBL⟩ := hrel
        by_cases hlt : q < all.length
        · obtain ⟨a1, c1, g1, t1⟩ := (SL.out.below HBL.out).cell q hlt
          obtain ⟨y1, y2⟩ := S2.out (nthR all q) (by rw [nthR_lt hlt]; exact List.getElem_mem hlt)
          have C := callsP (a2Sum_c Any a1 c1 _ wr t1)
          rw [y1] at C
          replace C := Lib.hid C
          have T1 := Lib.hid t1
          have G1 := Lib.hid g1
          have Y2 := Lib.hid y2
          clear t1 y1 y2
          go_wp2_with fail
          refine C.out.mono ?_
          rintro e w6 ⟨rfl, hb6⟩
          replace g1 := (hb6.cell (World.block_lt_of_cell? wr _ G1.out)).trans G1.out
          have HBL6 := Lib.hid (bnext HBL.out hb6 (Nat.le_refl _))
          have D := callsP (specValidBag_c ((r : Int) + 1) Any a1 c1 _ w6 (T1.out.below hb6))
          rw [Y2.out, Int.add_comm] at D
          replace D := Lib.hid D
          clear hb6 C
          go_wp2_with fail
          refine D.out.mono ?_
          rintro e w7 ⟨rfl, hb7⟩
          have HBL7 := Lib.hid (bnext HBL6.out hb7 (Nat.le_refl _))
          clear hb7 D
          go_wp2
          go_roundw
          case rel => exact ⟨q + 1, by omega, by go_num, HBL7⟩
          case measure => simp [intOf]; omega
        · replace HB := Lib.hid (bnext HB.out HBL.out (Nat.le_refl _))
          clear HBL SL i1 hq
          have C := Lib.hid (A2Bags_c b m d wr ((h2.below HB.out).any fun k hk => Nat.lt_of_lt_of_le hk HB.out.size))
          go_wp2_with fail
          refine C.out.mono ?_
          rintro e w8 ⟨xs, ys, a_a, c_a, a_b, c_b, rfl, hb8, s_a, _, p1, p2, p3, p4, p5⟩
          have SA := Lib.hid s_a
          have PB := Lib.hid p4
          replace HB := Lib.hid (bnext HB.out hb8 (Nat.le_refl _))
          clear hb8 C s_a p1 p4 p5
          have C := specPartsOf_d xs w8 (Rd_I.2 ⟨a_a, c_a, rfl, SA.out⟩)
          rw [bag_small p2 p3 PB.out] at C
          have HD0 := fun wx (h : SlI Any wx a_a xs) => implPartsOf_d xs wx (Rd_I.2 ⟨a_a, c_a, rfl, h⟩)
          rw [bag_small p2 p3 PB.out] at HD0
          by_cases hll : (partsS xs).length ≤ 2000
          rotate_left
          · rw [lim, if_neg hll] at C HD0
            replace C := Lib.hid C
            replace HD0 := Lib.hid HD0
            clear hll
            go_wp2_with fail
            refine C.out.mono ?_
            rintro e w9 ⟨v9, F9, rfl, hb9, ho9, _, _⟩
            obtain ⟨a9, c9, rfl, _⟩ := ho9.slAA
            have D := Lib.hid (HD0.out w9 (SA.out.below hb9))
            replace HB := Lib.hid (bnext HB.out hb9 (Nat.le_refl _))
            clear hb9 ho9 C HD0
            go_wp2_with fail
            refine D.out.mono ?_
            rintro e w10 ⟨v10, F10, rfl, hb10, ho10, _, _⟩
            obtain ⟨a10, c10, rfl, _⟩ := ho10.slAA
            replace HB := Lib.hid (bnext HB.out hb10 (Nat.le_refl _))
            clear hb10 ho10 D
            go_wp2
            go_ret
            exact ⟨rfl, HB.out⟩
          · rw [lim, if_pos hll] at C HD0
            replace C := Lib.hid C
            replace HD0 := Lib.hid HD0
            have R2 := Lib.hid (partsS_rises xs)
            have P2 := Lib.hid (partsS_count xs (fun j hj => (PB.out j hj).1))
            have W2 := Lib.hid (fun x hx => part_within (x := x) p2 p3 PB.out hx)
            obtain ⟨parts, hpp⟩ : ∃ ps, ps = partsS xs := ⟨_, rfl⟩
            rw [← hpp] at C HD0 R2 P2 W2 hll
            clear hpp
            go_wp2_with fail
            refine C.out.mono ?_
            rintro e w9 ⟨v9, F9, rfl, hb9, ho9, _, _⟩
            obtain ⟨a9, c9, rfl, _⟩ := ho9.slAA
            have D := Lib.hid (HD0.out w9 (SA.out.below hb9))
            replace HB := Lib.hid (bnext HB.out hb9 (Nat.le_refl _))
            replace SA := Lib.hid (SA.out.below hb9)
            clear hb9 ho9 C HD0
            go_wp2_with fail
            refine D.out.mono ?_
            rintro e w10 ⟨v10, F10, rfl, hb10, ho10, _, _⟩
            obtain ⟨a10, c10, rfl, s10⟩ := ho10.slAA
            replace HB := Lib.hid (bnext HB.out hb10 (Nat.le_refl _))
            replace SA := Lib.hid (SA.out.below hb10)
            have SP := Lib.hid s10
            have i2 := SA.out.ix tabI.under tabI.size c_a
            clear hb10 ho10 D s10
            go_wp2
            go_loopw [9, 18] (fun d i wr => ∃ k : Nat, k ≤ xs.length ∧ i = .int .i64 k ∧ d = .int .i64 (prodS (xs.take k)) ∧ w10 = wr) (fun _ i _ => xs.length - (intOf i).toNat)
            case atStart => exact ⟨0, Nat.zero_le _, rfl, by simp [prodS], rfl⟩
            case round =>
              obtain ⟨k2, hk2, rfl, rfl, rfl⟩ := hrel
              by_cases hlt2 : k2 < xs.length
              · have g1 := SA.out.cell k2 hlt2
                have b1 := PB.out k2 hlt2
                have b2 := prodS_bd PB.out p3 (k := k2) (by omega)
                have b3 := prodS_bd PB.out p3 (k := k2 + 1) (by omega)
                have e3 := prodS_take xs k2 hlt2
                rw [e3] at b3
                have E3 := Lib.hid e3
                clear e3
                go_wp2
                go_roundw
                case rel => exact ⟨k2 + 1, by omega, by go_num, by rw [E3.out], trivial⟩
                case measure => simp [intOf]; omega
              · have P3 : Hid (((parts.length : Int) != prodS (xs.take k2)) = false) := Lib.hid (by
                  have e : xs.take k2 = xs := List.take_of_length_le (by omega)
                  rw [e, ← P2.out]; simp)
                have q9 := P3.out
                have C := Lib.hid (a2Rising_c a10 c10 xs.length parts w10 SP.out R2.out)
                clear i2 hk2
                go_wp2_with fail
                refine C.out.mono ?_
                rintro e w11 ⟨rfl, hb11⟩
                replace HB := Lib.hid (bnext HB.out hb11 (Nat.le_refl _))
                replace SA := Lib.hid (SA.out.below hb11)
                replace SP := Lib.hid (SP.out.below hb11)
                have i3 := SP.out.ix tabII.under tabII.size c10
                clear hb11 C q9
                go_wp2
                go_loopw [19, 20, 21] (fun i _ _ wr => ∃ k : Nat, k ≤ parts.length ∧ i = .int .i64 k ∧ Hid (Below w11.heap.size w11 wr)) (fun i _ _ _ => parts.length - (intOf i).toNat)
                case atStart => exact ⟨0, Nat.zero_le _, rfl, Lib.hid (Below.refl _ _)⟩
                case round =>
                  obtain ⟨q, hq, rfl, HBL⟩ := hrel
                  by_cases hlt : q < parts.length
                  · obtain ⟨a1, c1, g1, t1⟩ := (SP.out.below HBL.out).cell q hlt
                    have C := callsP (implIsWithin_c Any a1 a_a c1 c_a _ xs wr t1 (SA.out.below HBL.out))
                    rw [W2.out (nthR parts q) (by rw [nthR_lt hlt]; exact List.getElem_mem hlt)] at C
                    replace C := Lib.hid C
                    clear t1
                    go_wp2_with fail
                    refine C.out.mono ?_
                    rintro e w12 ⟨rfl, hb12⟩
                    have HBL2 := Lib.hid (bnext HBL.out hb12 (Nat.le_refl _))
                    clear hb12 C
                    go_wp2
                    go_roundw
                    case rel => exact ⟨q + 1, by omega, by go_num, HBL2⟩
                    case measure => simp [intOf]; omega
                  · replace HB := Lib.hid (bnext HB.out HBL.out (Nat.le_refl _))
                    go_wp2
                    go_ret
                    exact ⟨rfl, HB.out⟩
set_option maxRecDepth 100000 in
theorem lifted (os : Os) (started : os.Started) (H : Type) (enc : TypeId × Value → H) :
    ReturnsInHanded {} Try.checked os 8 .any (Rows.fnBagListsSpec.pre6 enc Try.prog Try.f8 Rows.fnBagListsRow.domain false) (Rows.fnBagListsSpec.post enc Try.prog Try.f8 false true false false) :=
  lift Try.func8 (by kernel_rfl) rfl rfl (by kernel_rfl : Try.prog.underlying 4 = some .bool) (by kernel_rfl) (fun ds h => by match ds, h with | [d0, d1], _ => rfl) started
    (ChangeSpec.witness6 (enc := enc) (C := Try.checked) false ⟨#[], #[.slice none 0 0, .slice none 0 0], []⟩ 8 (by kernel_rfl) (by kernel_rfl) (by kernel_rfl) (by kernel_rfl))
    (fun W base args ds p hval hA => by
      rw [Try.params8] at hA hval
      obtain ⟨v0, vs0, d0, ds0, p0, q0, hargs0, rfl, rfl, g0, r0⟩ := ChangeShapes.trodAll_cons hA
      obtain ⟨v1, vs1, d1, ds1, p1, q1, hargs1, rfl, rfl, g1, r1⟩ := ChangeShapes.trodAll_cons r0
      obtain ⟨hnil, rfl, rfl⟩ := ChangeShapes.trodAll_nil r1
      obtain rfl : args = #[v0, v1] := by cases args; simp_all
      obtain ⟨a0, n0, c0, rfl, h0⟩ := open_U Try.underlying76 Try.underlying5 (by kernel_rfl) (hval 0 _ _ rfl rfl) g0
      obtain ⟨a1, n1, c1, rfl, h1⟩ := open_U Try.underlying76 Try.underlying5 (by kernel_rfl) (hval 1 _ _ rfl rfl) g1
      exact walk a0 n0 c0 a1 n1 c1 W h0 h1)
end Go.Proofs.Ythlbogmnnenkoaa.lawBagLists
