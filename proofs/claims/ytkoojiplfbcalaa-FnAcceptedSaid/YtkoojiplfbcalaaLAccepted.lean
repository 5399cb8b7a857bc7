/- FnAccepted: whatever the input, the law returns true. No condition. -/
import Derived.Test.YtkoojiplfbcalaaAV
import Derived.Test.YtkoojiplfbcalaaF
import Derived.Test.YtkoojiplfbcalaaRM
namespace Go.Proofs.Ytkoojiplfbcalaa.lawAccepted
open Go.ChangeShapes Go.WideShapes Go.ChangeAt Go.RowKit
theorem Bld.one (E : Nat) (w : World) (B : Nat) (x : Int) (h : B ≤ w.heap.size) : Bld E (w.alloc (.cells #[.int .i64 x] E)) B (.slice (some ⟨w.heap.size, 0, none⟩) 1 1) (([x] : List Int).map (.int .i64)) :=
  ⟨by simp, .inr ⟨w.heap.size, 1, _, rfl, h, heap_alloc_new w _, by simp, by simp [maxLen], by simp, by simp⟩⟩
theorem Ow.cfgVal {w : World} {cs : List Cfg} {v : Value} {F : List Nat} (h : Ow w (dCS cs) v F) : ∃ a c, v = .slice a cs.length c := by
  obtain ⟨a, m, c, rfl, hl, _⟩ := h
  have : cs.length = m := by
    have h2 : ∀ cs : List Cfg, (cs.flatMap Cfg.ds).length = cs.length * 2 := by
      intro cs
      induction cs with
      | nil => rfl
      | cons o os ih => simp only [List.flatMap_cons, List.length_append, ih, List.length_cons]; simp [Cfg.ds]; omega
    rw [h2] at hl; omega
  exact ⟨a, c, by rw [this]⟩
theorem regsN_one (n : Int) : regsN 1 n = [n] := rfl
theorem regsN_more (k : Nat) (n : Int) (hk : 1 ≤ k) : regsN (k + 1) n = regsN k n ++ [0] := by
  unfold regsN
  rw [List.replicate_succ', List.set_append, if_pos (show 0 < (List.replicate k (0 : Int)).length by rw [List.length_replicate]; omega)]
set_option maxHeartbeats 8000000 in
set_option maxRecDepth 100000 in
theorem walk (a : Option Addr) (n c : Nat) (b0 : Option Addr) (m d : Nat) (w : World) (h1 : SlU (· < w.heap.size) w a n) (h2 : SlU (· < w.heap.size) w b0 m) :
    Calls Try.prog 5 #[.slice a n c, .slice b0 m d] w (RetV w (.bool true)) := by
  have C := Lib.hid (f6big_c a n c w h1.len)
  have C' := Lib.hid (f6big_c b0 m d w h2.len)
  cases hq : decide (4096 < n)
  rotate_left
  · rw [hq] at C
    clear hq
    go_enter Try.func5, Try.ntmps5
    go_wp2_with fail
    refine C.out.mono ?_
    rintro e w1 ⟨rfl, rfl⟩
    go_wp2
    go_ret
    exact ⟨rfl, Below.refl _ _⟩
  cases hr : decide (4096 < m)
  rotate_left
  · rw [hq] at C
    rw [hr] at C'
    clear hq hr
    go_enter Try.func5, Try.ntmps5
    go_wp2_with fail
    refine C.out.mono ?_
    rintro e w1 ⟨rfl, rfl⟩
    go_wp2_with fail
    refine C'.out.mono ?_
    rintro e w1 ⟨rfl, rfl⟩
    go_wp2
    go_ret
    exact ⟨rfl, Below.refl _ _⟩
  rw [hq] at C
  rw [hr] at C'
  clear hq hr
  go_enter Try.func5, Try.ntmps5
  go_wp2_with fail
  refine C.out.mono ?_
  rintro e w1 ⟨rfl, rfl⟩
  go_wp2_with fail
  refine C'.out.mono ?_
  rintro e w1 ⟨rfl, rfl⟩
  clear C C'
  have C := Lib.hid (P6Program_c a n c w h1)
  go_wp2_with fail
  refine C.out.mono ?_
  rintro e w2 ⟨R, os, v, rs, vr, rfl, hb2, ho2, hr2, hd2, _, _⟩
  obtain ⟨ao, co, rfl, hso⟩ := Rd_O.1 ho2
  obtain ⟨ar, cr, rfl, hsr⟩ := Rd_I.1 hr2
  have hR := hd2.r
  obtain ⟨M, rfl⟩ : ∃ M : Nat, R = (M : Int) := ⟨R.toNat, by omega⟩
  have HM : Hid (1 ≤ M ∧ M ≤ 2) := Lib.hid (by omega)
  obtain ⟨w3, hw3⟩ : ∃ z, z = w2.alloc (.cells #[.int .i64 M, .slice ao os.length co] 59) := ⟨_, rfl⟩
  have hb3 : Below w2.heap.size w2 w3 := by rw [hw3]; exact below_alloc _ _
  have c0 : w3.cell? ⟨w2.heap.size, 0, none⟩ = some (.int .i64 M) := by rw [hw3]; simp [go_sem]
  have c1 : w3.cell? ⟨w2.heap.size, 1, none⟩ = some (.slice ao os.length co) := by rw [hw3]; simp [go_sem]
  have hz3 : w3.heap.size = w2.heap.size + 1 := by rw [hw3]; simp
  have HB3 : Hid (Below w.heap.size w w3) := Lib.hid (hb2.trans (hb3.mono hb2.size))
  have HO3 : Hid (Rd Any w3 (dO os) (.slice ao os.length co)) := Lib.hid (ho2.below hb3)
  have C := Lib.hid (P6Pick_c b0 m d 16 w3 ((h2.below HB3.out).any fun k hk => Nat.lt_of_lt_of_le hk HB3.out.size) (by omega))
  have HD := Lib.hid hd2
  have HZ3 := Lib.hid hz3
  have HX := Lib.hid (fun steps hs => accept_law (steps := steps) hd2.valid hd2.plain hs)
  rw [hw3] at C
  clear h1 h2 hb2 ho2 hr2 hd2 hso hsr hR hb3 hz3
  go_wp2_with fail
  refine C.out.mono ?_
  rintro e w4 ⟨steps, rfl, hs0, hs1, hb4⟩
  rw [← hw3] at hb4
  have zc : w2.heap.size < w3.heap.size := by rw [HZ3.out]; omega
  replace c0 := (bcell1 hb4 zc).trans c0
  replace c1 := (bcell1 hb4 zc).trans c1
  have HB4 := Lib.hid (bnext HB3.out hb4 (Nat.le_refl _))
  have HO4 : Hid (Rd Any w4 (dO os) (.slice ao os.length co)) := Lib.hid (HO3.out.below hb4)
  have HZ4 : Hid (w2.heap.size < w4.heap.size) := Lib.hid (Nat.lt_of_lt_of_le zc hb4.size)
  obtain ⟨hx1, hx2⟩ := HX.out steps (by omega)
  have C := implAcceptedUpTo_d M os 4 steps w4 HO4.out
  have C' := specAcceptedUpTo_d M os 4 steps (vo := .slice ao os.length co)
  obtain ⟨A, hA⟩ : ∃ A, A = (acceptedS M os 4 steps).1 := ⟨_, rfl⟩
  have hAl : A.length ≤ 1000 := by
    rw [hA, acceptedS]
    split
    · split
      · have := accTo_len (accF M os steps) ((4 : Int).toNat + 1); simp at this ⊢; omega
      · simp
    · simp
  rw [hx1, ← hA] at C C'
  replace C := Lib.hid C
  have CC := Lib.hid C'
  have HX2 := Lib.hid hx2
  have HA := Lib.hid hA
  have HAL := Lib.hid hAl
  clear C' hx1 hx2 hA hAl hb4 HX hw3 hs0 hs1 zc
  go_wp2_with fail
  refine C.out.mono ?_
  rintro e w5 ⟨v5, F5, rfl, hb5, ho5, _, _⟩
  obtain ⟨a5, k5, rfl, s5⟩ := ho5.slA
  replace c0 := (bcell1 hb5 HZ4.out).trans c0
  replace c1 := (bcell1 hb5 HZ4.out).trans c1
  have HB5 := Lib.hid (bnext HB4.out hb5 (Nat.le_refl _))
  have HO5 : Hid (Rd Any w5 (dO os) (.slice ao os.length co)) := Lib.hid (HO4.out.below hb5)
  have HZ5 : Hid (w2.heap.size < w5.heap.size) := Lib.hid (Nat.lt_of_lt_of_le HZ4.out hb5.size)
  have S5 := Lib.hid s5
  clear hb5 ho5 s5 C
  have C := Lib.hid (CC.out w5 HO5.out)
  go_wp2_with fail
  refine C.out.mono ?_
  rintro e w6 ⟨v6, F6, rfl, hb6, ho6, _, _⟩
  obtain ⟨a6, k6, rfl, s6⟩ := ho6.slA
  replace c0 := (bcell1 hb6 HZ5.out).trans c0
  replace c1 := (bcell1 hb6 HZ5.out).trans c1
  have HB6 := Lib.hid (bnext HB5.out hb6 (Nat.le_refl _))
  have HO6 : Hid (Rd Any w6 (dO os) (.slice ao os.length co)) := Lib.hid (HO5.out.below hb6)
  have HZ6 : Hid (w2.heap.size < w6.heap.size) := Lib.hid (Nat.lt_of_lt_of_le HZ5.out hb6.size)
  have S6 := Lib.hid s6
  have S56 := Lib.hid (S5.out.below hb6)
  clear hb6 ho6 s6 C
  have C := Lib.hid (f6ints_c a5 a6 k5 k6 A w6 S56.out S6.out)
  go_wp2_with fail
  refine C.out.mono ?_
  rintro e w7 ⟨rfl, hb7⟩
  replace c0 := (bcell1 hb7 HZ6.out).trans c0
  replace c1 := (bcell1 hb7 HZ6.out).trans c1
  have HB7 := Lib.hid (bnext HB6.out hb7 (Nat.le_refl _))
  have HO7 : Hid (Rd Any w7 (dO os) (.slice ao os.length co)) := Lib.hid (HO6.out.below hb7)
  have HZ7 : Hid (w2.heap.size < w7.heap.size) := Lib.hid (Nat.lt_of_lt_of_le HZ6.out hb7.size)
  have S7 := Lib.hid (S6.out.below hb7)
  have K0 := Lib.hid c0
  have K1 := Lib.hid c1
  clear hb7 C S56 S5 S6 HO3 HO4 HO5 HO6 HB3 HB4 HB5 HB6 HZ4 HZ5 HZ6 HZ3 c0 c1 CC
  go_wp2
  go_loopw [12, 13, 14, 15, 16, 17, 18, 19] (fun i _ _ _ _ _ _ _ wr => ∃ k : Nat, k ≤ 5 ∧ i = .int .i64 k ∧ Hid (Below w7.heap.size w7 wr)) (fun i _ _ _ _ _ _ _ _ => 5 - (intOf i).toNat)
  case atStart => exact ⟨0, by omega, rfl, Lib.hid (Below.refl _ _)⟩
  case round =>
    obtain ⟨k, hk, rfl, HB⟩ := hrel
    by_cases hlt : k ≤ 4
    · have hki : (k : Int) ≤ 4 := by omega
      obtain ⟨wA, hwA⟩ : ∃ z, z = wr.alloc (.cells #[.int .i64 (k : Int)] 2) := ⟨_, rfl⟩
      have HBA : Hid (Below w7.heap.size w7 wA) := Lib.hid (by rw [hwA]; exact HB.out.trans ((below_alloc wr _).mono HB.out.size))
      have HL0 : Hid (Bld 2 wA w7.heap.size (.slice (some ⟨wr.heap.size, 0, none⟩) 1 1) ((regsN 1 k).map (.int .i64))) := Lib.hid (by rw [hwA]; exact Bld.one 2 wr w7.heap.size k HB.out.size)
      rw [hwA] at HBA HL0
      clear hwA wA
      go_wp2
      go_loopw [13, 14] (fun g i w8 => ∃ q : Nat, 1 ≤ q ∧ q ≤ M ∧ i = .int .i64 q ∧ Hid (Below w7.heap.size w7 w8) ∧ Hid (Bld 2 w8 w7.heap.size g ((regsN q k).map (.int .i64)))) (fun _ i _ => M - (intOf i).toNat)
      case atStart => exact ⟨1, Nat.le_refl _, HM.out.1, rfl, HBA, HL0⟩
      case round =>
        obtain ⟨q, hq1, hqM, rfl, HBq, HLq⟩ := hrel
        have g0 := (bcell1 HBq.out HZ7.out).trans K0.out
        have g1 := (bcell1 HBq.out HZ7.out).trans K1.out
        by_cases hlq : q < M
        · have hqi : (q : Int) < M := by omega
          have hq2 : q ≤ 1 := by have := HM.out; omega
          have hb6 := below_alloc wr (.cells #[.int .i64 0] 2)
          have hbl6 := Lib.hid (HLq.out.below hb6)
          have HB9 : Hid (Below w7.heap.size w7 (wr.alloc (.cells #[.int .i64 0] 2))) := Lib.hid (HBq.out.trans (hb6.mono HBq.out.size))
          have hz8 : Hid (w7.heap.size ≤ wr.heap.size) := Lib.hid HBq.out.size
          clear hb6
          go_wp2_with (at_builtin; refine app_one rfl _ _ 22 rfl tabI rfl (by decide) w7.heap.size _ _ rfl hbl6.out wr.heap.size (.int .i64 0) rfl rfl ?c1 ?c2 ?c3 ?_)
          case c1 => simp
          case c2 => simp [regsN_len]; have := HM.out; omega
          case c3 => have := hz8.out; simp; omega
          intro v' w10 hbl7 hb7
          have HL7 : Hid (Bld 2 w10 w7.heap.size v' ((regsN (q + 1) k).map (.int .i64))) := Lib.hid (by rw [regsN_more q k hq1]; simpa using hbl7)
          have HB10 : Hid (Below w7.heap.size w7 w10) := Lib.hid (HB9.out.trans hb7)
          clear hbl7 hb7 hbl6 HB9 HBq HLq
          go_wp2
          go_roundw
          case rel => exact ⟨q + 1, by omega, by omega, by go_num, HB10, HL7⟩
          case measure => simp [intOf]; omega
        · have hqm : q = M := by omega
          have hqi : ¬ (q : Int) < M := by omega
          obtain ⟨a9, k9, F9, rfl, ho9, _, _⟩ := HLq.out.ow (by rw [regsN_len]; have := HM.out; unfold maxLen; omega)
          rw [hqm] at ho9
          have hrl : (regsN q k).length = (regsN M k).length := by rw [hqm]
          obtain ⟨p1, p2, p3⟩ := HX2.out k hlt
          rw [show (M : Int).toNat = M by omega] at p1 p2 p3
          have HO8 : Hid (Rd Any wr (dO os) (.slice ao os.length co)) := Lib.hid (HO7.out.below HBq.out)
          have C := implRunProgram_d M os (regsN M k) steps wr HO8.out ho9.rdA
          have C' := fun (vr : Value) wx h1 h2 => implNextConfigs_d M os (runP M os (regsN M k) steps).1.pc (runP M os (regsN M k) steps).1.regs (vo := .slice ao os.length co) (vr := vr) wx h1 h2
          obtain ⟨X, hX⟩ : ∃ X, X = (runP M os (regsN M k) steps).1 := ⟨_, rfl⟩
          obtain ⟨T, hT⟩ : ∃ T, T = (runP M os (regsN M k) steps).2.1 := ⟨_, rfl⟩
          rw [p1, ← hX, ← hT, ← hrl] at C
          rw [← hX] at p2 p3 C'
          obtain ⟨N, hN⟩ : ∃ N, N = (nextConfigsS M os X.pc X.regs).1 := ⟨_, rfl⟩
          rw [p2, ← hN] at C'
          rw [← hN, ← HA.out] at p3
          have HEQ : Hid (((N.length : Int) == 0) = (((A.count (k : Int) : Nat) : Int) == 1)) := Lib.hid (by rw [Bool.eq_iff_iff]; simp only [beq_iff_eq]; constructor <;> intro h <;> omega)
          replace C := Lib.hid C
          have CC := Lib.hid C'
          have hz8 : Hid (w2.heap.size < wr.heap.size) := Lib.hid (Nat.lt_of_lt_of_le HZ7.out HBq.out.size)
          clear p1 p2 p3 C' hX hT hN ho9 hrl hqm
          go_wp2_with fail
          refine C.out.mono ?_
          rintro e w10 hret
          obtain ⟨a10, k10, F10, rfl, hb10, ho10, _, _⟩ := hret.cfg
          have HR10 := Lib.hid ho10.rdA
          have HB10 : Hid (Below w7.heap.size w7 w10) := Lib.hid (bnext HBq.out hb10 (Nat.le_refl _))
          replace g0 := (bcell1 hb10 hz8.out).trans g0
          replace g1 := (bcell1 hb10 hz8.out).trans g1
          have HO10 : Hid (Rd Any w10 (dO os) (.slice ao os.length co)) := Lib.hid (HO8.out.below hb10)
          have hz10 : Hid (w2.heap.size < w10.heap.size) := Lib.hid (Nat.lt_of_lt_of_le hz8.out hb10.size)
          clear hret hb10 ho10 C HBq HLq HO8
          obtain ⟨w11, hw11⟩ : ∃ z, z = w10.alloc (.cells #[.int .i64 X.pc, .slice a10 X.regs.length k10] 66) := ⟨_, rfl⟩
          have hb11 : Below w10.heap.size w10 w11 := by rw [hw11]; exact below_alloc _ _
          have C := Lib.hid (CC.out _ w11 (HO10.out.below hb11) (HR10.out.below hb11))
          have HB11 : Hid (Below w7.heap.size w7 w11) := Lib.hid (bnext HB10.out hb11 (Nat.le_refl _))
          have G0 := Lib.hid ((bcell1 hb11 hz10.out).trans g0)
          have G1 := Lib.hid ((bcell1 hb11 hz10.out).trans g1)
          have g0a := fun Y => (bcell1 (i := 0) (below_alloc w10 Y) hz10.out).trans g0
          have g1a := fun Y => (bcell1 (i := 1) (below_alloc w10 Y) hz10.out).trans g1
          rw [hw11] at C
          have HW11 := Lib.hid hw11
          clear hb11 hw11 CC HO10 HR10
          go_wp2_with fail
          refine C.out.mono ?_
          rintro e w12 ⟨v12, F12, rfl, hb12, ho12, _, _⟩
          rw [← HW11.out] at hb12
          obtain ⟨a12, k12, rfl⟩ := Ow.cfgVal ho12
          have HB12 : Hid (Below w7.heap.size w7 w12) := Lib.hid (bnext HB11.out hb12 (Nat.le_refl _))
          clear hb12 ho12 C g0 g1 g0a g1a
          have C := Lib.hid (f6only_c a6 k6 A k w12 (S7.out.below HB12.out) HAL.out)
          go_wp2_with fail
          refine C.out.mono ?_
          rintro e w13 ⟨a13, k13, rfl, hb13, _⟩
          have HB13 : Hid (Below w7.heap.size w7 w13) := Lib.hid (bnext HB12.out hb13 (Nat.le_refl _))
          clear hb13 C
          have hne := HEQ.out
          cases hv : ((N.length : Int) == 0)
          all_goals
            have hv2 := hne.symm.trans hv
            clear hne
            go_wp2
            go_roundw
            case rel => exact ⟨k + 1, by omega, by go_num, HB13⟩
            case measure => simp [intOf]; omega
    · obtain rfl : k = 5 := by omega
      go_wp2
      go_ret
      exact ⟨rfl, bnext HB7.out HB.out (Nat.le_refl _)⟩
set_option maxRecDepth 100000 in
theorem lifted (os : Os) (started : os.Started) (H : Type) (enc : TypeId × Value → H) :
    ReturnsInHanded {} Try.checked os 5 .any (Rows.fnAcceptedSpec.pre6 enc Try.prog Try.f5 Rows.fnAcceptedRow.domain false) (Rows.fnAcceptedSpec.post enc Try.prog Try.f5 false true false false) :=
  lift Try.func5 (by kernel_rfl) rfl rfl (by kernel_rfl : Try.prog.underlying 4 = some .bool) (by kernel_rfl) (fun ds h => by match ds, h with | [d0, d1], _ => rfl) started
    (ChangeSpec.witness6 (enc := enc) (C := Try.checked) false ⟨#[], #[.slice none 0 0, .slice none 0 0], []⟩ 8 (by kernel_rfl) (by kernel_rfl) (by kernel_rfl) (by kernel_rfl))
    (fun W base args ds p hval hA => by
      rw [Try.params5] at hA hval
      obtain ⟨v0, vs0, d0, ds0, p0, q0, hargs0, rfl, rfl, g0, r0⟩ := ChangeShapes.trodAll_cons hA
      obtain ⟨v1, vs1, d1, ds1, p1, q1, hargs1, rfl, rfl, g1, r1⟩ := ChangeShapes.trodAll_cons r0
      obtain ⟨hnil, rfl, rfl⟩ := ChangeShapes.trodAll_nil r1
      obtain rfl : args = #[v0, v1] := by cases args; simp_all
      obtain ⟨a0, n0, c0, rfl, h0⟩ := open_U Try.underlying45 Try.underlying5 (by kernel_rfl) (hval 0 _ _ rfl rfl) g0
      obtain ⟨a1, n1, c1, rfl, h1⟩ := open_U Try.underlying45 Try.underlying5 (by kernel_rfl) (hval 1 _ _ rfl rfl) g1
      exact walk a0 n0 c0 a1 n1 c1 W h0 h1)
end Go.Proofs.Ytkoojiplfbcalaa.lawAccepted
