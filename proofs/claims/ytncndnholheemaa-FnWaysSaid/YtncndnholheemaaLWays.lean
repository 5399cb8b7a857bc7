/- FnWays: whatever the input, the law returns true. No condition. -/
import Derived.Test.YtncndnholheemaaKW
import Derived.Test.YtncndnholheemaaF
import Derived.Test.YtncndnholheemaaRM
import Derived.Test.YtncndnholheemaaBW
namespace Go.Proofs.Ytncndnholheemaa.lawWays
open Go.ChangeShapes Go.WideShapes Go.ChangeAt Go.RowKit
theorem slOneW {wx : World} {b : Nat} {x : Int} (h : wx.cell? ⟨b, 0, none⟩ = some (.int .i64 x)) : SlI Any wx (some ⟨b, 0, none⟩) [x] :=
  ⟨by simp [maxLen], fun _ => ⟨trivial, b, 0, rfl⟩, fun i hi => by
    have : i = 0 := by simpa using hi
    subst this; simpa [adr, blk, ofs, nth] using h⟩
theorem Ow.cfgVal {w : World} {cs : List Cfg} {v : Value} {F : List Nat} (h : Ow w (dCS cs) v F) : ∃ a c, v = .slice a cs.length c ∧ Rd Any w (dCS cs) (.slice a cs.length c) := by
  have h2 := h.rdA
  obtain ⟨a, c, rfl, _⟩ := Rd_CS h2
  exact ⟨a, c, rfl, h2⟩
set_option maxHeartbeats 8000000 in
set_option maxRecDepth 100000 in
theorem walk (a : Option Addr) (n c : Nat) (b0 : Option Addr) (m d : Nat) (w : World) (h1 : SlU (· < w.heap.size) w a n) (h2 : SlU (· < w.heap.size) w b0 m) :
    Calls Try.prog 5 #[.slice a n c, .slice b0 m d] w (RetV w (.bool true)) := by
  have C := Lib.hid (f6big_c a n c w h1.len)
  have C' := Lib.hid (f6big_c b0 m d w h2.len)
  cases hq : decide (4096 < n)
  rotate_left
  · rw [hq] at C
    clear hq
    go_enter Try.func5, Try.ntmps5
    go_wp2_with fail
    refine C.out.mono ?_
    rintro e w1 ⟨rfl, rfl⟩
    go_wp2
    go_ret
    exact ⟨rfl, Below.refl _ _⟩
  cases hr : decide (4096 < m)
  rotate_left
  · rw [hq] at C
    rw [hr] at C'
    clear hq hr
    go_enter Try.func5, Try.ntmps5
    go_wp2_with fail
    refine C.out.mono ?_
    rintro e w1 ⟨rfl, rfl⟩
    go_wp2_with fail
    refine C'.out.mono ?_
    rintro e w1 ⟨rfl, rfl⟩
    go_wp2
    go_ret
    exact ⟨rfl, Below.refl _ _⟩
  rw [hq] at C
  rw [hr] at C'
  clear hq hr
  go_enter Try.func5, Try.ntmps5
  go_wp2_with fail
  refine C.out.mono ?_
  rintro e w1 ⟨rfl, rfl⟩
  go_wp2_with fail
  refine C'.out.mono ?_
  rintro e w1 ⟨rfl, rfl⟩
  clear C C'
  have C := Lib.hid (P6Program_c a n c w h1)
  go_wp2_with fail
  refine C.out.mono ?_
  rintro e w2 ⟨R, os, v, rs, vr, rfl, hb2, ho2, hr2, hd2, hl2, hv2⟩
  obtain ⟨ao, co, rfl, hso⟩ := Rd_O.1 ho2
  obtain ⟨ar, cr, rfl, hsr⟩ := Rd_I.1 hr2
  have hR := hd2.r
  obtain ⟨w3, hw3⟩ : ∃ z, z = w2.alloc (.cells #[.int .i64 R, .slice ao os.length co] 52) := ⟨_, rfl⟩
  have hb3 : Below w2.heap.size w2 w3 := by rw [hw3]; exact below_alloc _ _
  have c0 : w3.cell? ⟨w2.heap.size, 0, none⟩ = some (.int .i64 R) := by rw [hw3]; simp [go_sem]
  have c1 : w3.cell? ⟨w2.heap.size, 1, none⟩ = some (.slice ao os.length co) := by rw [hw3]; simp [go_sem]
  have hz3 : w2.heap.size < w3.heap.size := by rw [hw3]; simp
  have HB3 : Hid (Below w.heap.size w w3) := Lib.hid (hb2.trans (hb3.mono hb2.size))
  have HO3 : Hid (Rd Any w3 (dO os) (.slice ao os.length co)) := Lib.hid (ho2.below hb3)
  have HR3 : Hid (Rd Any w3 (dI rs) (.slice ar rs.length cr)) := Lib.hid (hr2.below hb3)
  have C := Lib.hid (P6Pick_c b0 m d 8 w3 ((h2.below HB3.out).any fun k hk => Nat.lt_of_lt_of_le hk HB3.out.size) (by omega))
  have HX := Lib.hid (fun (s : Nat) (hs : s ≤ 7) => ways_law hd2 hl2 hv2 hs)
  have hrl : 0 < rs.length := by omega
  rw [hw3] at C
  clear h1 h2 hb2 ho2 hr2 hd2 hso hsr hR hb3 hl2 hv2
  go_wp2_with fail
  refine C.out.mono ?_
  rintro e w4 ⟨stp, rfl, hs0, hs1, hb4⟩
  rw [← hw3] at hb4
  obtain ⟨s, rfl⟩ : ∃ s : Nat, stp = s := ⟨stp.toNat, by omega⟩
  have hs7 : s ≤ 7 := by omega
  have hwr : IntKind.i64.wrap ((s : Int) + 1) = ((s + 1 : Nat) : Int) := by rw [wrap_64]; unfold wrap64; omega
  have HW := HX.out s hs7
  obtain ⟨few, hfew⟩ : ∃ l, l = (haltValuesS R os rs s).1 := ⟨_, rfl⟩
  obtain ⟨many, hmany⟩ : ∃ l, l = (haltValuesS R os rs (s + 1 : Nat)).1 := ⟨_, rfl⟩
  have w1 := HW.few
  have w2' := HW.many
  have w3' := HW.one
  have w4' := HW.stop
  have w5' := HW.len1
  have w6' := HW.len2
  rw [← hfew] at w3' w5'
  rw [← hmany] at w3' w4' w6'
  have HF1 := Lib.hid (implHaltValues_d R os rs s (vo := .slice ao os.length co) (vr := .slice ar rs.length cr))
  have HF2 := Lib.hid (implHaltValues_d R os rs (s + 1 : Nat) (vo := .slice ao os.length co) (vr := .slice ar rs.length cr))
  have HF3 := Lib.hid (specHaltValues_d R os rs (s + 1 : Nat) (vo := .slice ao os.length co) (vr := .slice ar rs.length cr))
  rw [w1, ← hfew] at HF1
  rw [w2', ← hmany] at HF2 HF3
  have HONE := Lib.hid w3'
  have HSTOP := Lib.hid w4'
  have HL1 := Lib.hid w5'
  have HL2 := Lib.hid w6'
  have HWR := Lib.hid hwr
  clear hfew hmany w1 w2' w3' w4' w5' w6' HW hwr
  have hc1 : ((s : Int) + 1) = ((s + 1 : Nat) : Int) := by omega
  obtain ⟨s1, hs1'⟩ : ∃ x, x = s + 1 := ⟨_, rfl⟩
  rw [← hs1'] at HF2 HF3 HWR hc1
  have hw1 : wrap64 (s1 : Int) = s1 := by unfold wrap64; omega
  clear hs1' hs0 hs1 hs7
  replace c0 := (bcell1 hb4 hz3).trans c0
  replace c1 := (bcell1 hb4 hz3).trans c1
  have HB4 := Lib.hid (bnext HB3.out hb4 (Nat.le_refl _))
  have HO4 : Hid (Rd Any w4 (dO os) (.slice ao os.length co)) := Lib.hid (HO3.out.below hb4)
  have HR4 : Hid (Rd Any w4 (dI rs) (.slice ar rs.length cr)) := Lib.hid (HR3.out.below hb4)
  have hz4 : w2.heap.size < w4.heap.size := Nat.lt_of_lt_of_le hz3 hb4.size
  have C := Lib.hid (HF1.out w4 HO4.out HR4.out)
  clear hb4 HB3 HO3 HR3 hw3 hz3
  go_wp2_with fail
  refine C.out.mono ?_
  rintro e w5 ⟨v5, F5, rfl, hb5, ho5, _, _⟩
  obtain ⟨a5, k5, rfl, s5⟩ := ho5.slA
  replace c0 := (bcell1 hb5 hz4).trans c0
  replace c1 := (bcell1 hb5 hz4).trans c1
  have HB5 := Lib.hid (bnext HB4.out hb5 (Nat.le_refl _))
  have HO5 : Hid (Rd Any w5 (dO os) (.slice ao os.length co)) := Lib.hid (HO4.out.below hb5)
  have HR5 : Hid (Rd Any w5 (dI rs) (.slice ar rs.length cr)) := Lib.hid (HR4.out.below hb5)
  have hz5 : w2.heap.size < w5.heap.size := Nat.lt_of_lt_of_le hz4 hb5.size
  clear C
  have S5 := Lib.hid s5
  clear hb5 ho5 s5
  have C := Lib.hid (HF2.out w5 HO5.out HR5.out)
  go_wp2_with fail
  try rw [hw1]
  refine C.out.mono ?_
  rintro e w6 ⟨v6, F6, rfl, hb6, ho6, _, _⟩
  obtain ⟨a6, k6, rfl, s6⟩ := ho6.slA
  replace c0 := (bcell1 hb6 hz5).trans c0
  replace c1 := (bcell1 hb6 hz5).trans c1
  have HB6 := Lib.hid (bnext HB5.out hb6 (Nat.le_refl _))
  have HO6 : Hid (Rd Any w6 (dO os) (.slice ao os.length co)) := Lib.hid (HO5.out.below hb6)
  have HR6 : Hid (Rd Any w6 (dI rs) (.slice ar rs.length cr)) := Lib.hid (HR5.out.below hb6)
  have hz6 : w2.heap.size < w6.heap.size := Nat.lt_of_lt_of_le hz5 hb6.size
  clear C
  have S6 := Lib.hid s6
  have S56 := Lib.hid (S5.out.below hb6)
  clear hb6 ho6 s6
  have C := Lib.hid (HF3.out w6 HO6.out HR6.out)
  go_wp2_with fail
  try rw [hw1]
  refine C.out.mono ?_
  rintro e w7 ⟨v7, F7, rfl, hb7, ho7, _, _⟩
  obtain ⟨a7, k7, rfl, s7⟩ := ho7.slA
  replace c0 := (bcell1 hb7 hz6).trans c0
  replace c1 := (bcell1 hb7 hz6).trans c1
  have HB7 := Lib.hid (bnext HB6.out hb7 (Nat.le_refl _))
  have HO7 : Hid (Rd Any w7 (dO os) (.slice ao os.length co)) := Lib.hid (HO6.out.below hb7)
  have HR7 : Hid (Rd Any w7 (dI rs) (.slice ar rs.length cr)) := Lib.hid (HR6.out.below hb7)
  have hz7 : w2.heap.size < w7.heap.size := Nat.lt_of_lt_of_le hz6 hb7.size
  clear C
  have S7 := Lib.hid s7
  have S57 := Lib.hid (S56.out.below hb7)
  have S67 := Lib.hid (S6.out.below hb7)
  clear hb7 ho7 s7
  have C := Lib.hid (f6ints_c a6 a7 k6 k7 many w7 S67.out S7.out)
  go_wp2_with fail
  refine C.out.mono ?_
  rintro e w8 ⟨rfl, hb8⟩
  replace c0 := (bcell1 hb8 hz7).trans c0
  replace c1 := (bcell1 hb8 hz7).trans c1
  have HB8 := Lib.hid (bnext HB7.out hb8 (Nat.le_refl _))
  have HO8 : Hid (Rd Any w8 (dO os) (.slice ao os.length co)) := Lib.hid (HO7.out.below hb8)
  have HR8 : Hid (Rd Any w8 (dI rs) (.slice ar rs.length cr)) := Lib.hid (HR7.out.below hb8)
  have hz8 : w2.heap.size < w8.heap.size := Nat.lt_of_lt_of_le hz7 hb8.size
  clear C
  have S58 := Lib.hid (S57.out.below hb8)
  have S8 := Lib.hid (S7.out.below hb8)
  have K0 := Lib.hid c0
  have K1 := Lib.hid c1
  clear hb8 C S5 S6 S56 S57 S67 S7 HF1 HF2 HF3 c0 c1 HX HWR hc1
  have hfl : few.length ≤ 200 := HL1.out
  have i5 := S58.out.ix tabI.under tabI.size k5
  go_wp2
  go_loopw [14] (fun i wr => ∃ k : Nat, k ≤ few.length ∧ i = .int .i64 k ∧ Hid (Below w8.heap.size w8 wr)) (fun i _ => few.length - (intOf i).toNat)
  case atStart => exact ⟨0, by omega, rfl, Lib.hid (Below.refl _ _)⟩
  case round =>
    obtain ⟨k, hk, rfl, HB⟩ := hrel
    obtain ⟨wo, hwo⟩ : ∃ z, z = wr := ⟨_, rfl⟩
    subst hwo
    by_cases hlt : k < few.length
    · have hki : (k : Int) < few.length := by omega
      have j5 := fun w' => i5 (k : Int) w' (by omega) hki
      simp only [Int.toNat_natCast] at j5
      have g5 := (S58.out.below HB.out).cell k hlt
      have hone := HONE.out k hlt
      obtain ⟨y, hy⟩ : ∃ y, y = nth few k := ⟨_, rfl⟩
      rw [← hy] at g5 hone
      have C := f6only_c a7 k7 many y wo (S8.out.below HB.out) (by have := HL2.out; omega)
      rw [hone] at C
      replace C := Lib.hid C
      clear hone hy
      go_wp2_with fail
      refine C.out.mono ?_
      rintro e w13 ⟨a13, k13, rfl, hb13, _⟩
      have HB13 : Hid (Below w8.heap.size w8 w13) := Lib.hid (bnext HB.out hb13 (Nat.le_refl _))
      clear hb13 C
      go_wp2
      go_roundw
      case rel => exact ⟨k + 1, by omega, by go_num, HB13⟩
      case measure => simp [intOf]; omega
    · have g0 := (bcell1 HB.out hz8).trans K0.out
      have g1 := (bcell1 HB.out hz8).trans K1.out
      have hz9 : w2.heap.size < wo.heap.size := Nat.lt_of_lt_of_le hz8 HB.out.size
      have HO9 : Hid (Rd Any wo (dO os) (.slice ao os.length co)) := Lib.hid (HO8.out.below HB.out)
      have HR9 : Hid (Rd Any wo (dI rs) (.slice ar rs.length cr)) := Lib.hid (HR8.out.below HB.out)
      have HB9 : Hid (Below w.heap.size w wo) := Lib.hid (bnext HB8.out HB.out (Nat.le_refl _))
      have S9 := Lib.hid (S8.out.below HB.out)
      have HN1 := Lib.hid (implNextConfigs_d R os 0 rs (vo := .slice ao os.length co) (vr := .slice ar rs.length cr))
      have HN2 := Lib.hid (specNextConfigs_d R os 0 rs (vo := .slice ao os.length co) (vr := .slice ar rs.length cr))
      have hnl : (nextConfigsS R os 0 rs).1.length ≤ 2 := by
        unfold nextConfigsS
        split
        · split
          · exact (nextS_small _ _ _).1
          · simp
        · simp
      obtain ⟨N, hN⟩ : ∃ N, N = (nextConfigsS R os 0 rs).1 := ⟨_, rfl⟩
      obtain ⟨Q, hQ⟩ : ∃ Q, Q = (nextConfigsS R os 0 rs).2 := ⟨_, rfl⟩
      rw [← hN] at HN1 HN2 HSTOP hnl
      rw [← hQ] at HN1 HN2
      clear hN hQ
      have C := Lib.hid (HN1.out wo HO9.out HR9.out)
      go_wp2_with fail
      refine C.out.mono ?_
      rintro e w10 ⟨v10, F10, rfl, hb10, ho10, _, _⟩
      obtain ⟨a10, k10, rfl, r10⟩ := Ow.cfgVal ho10
      replace g0 := (bcell1 hb10 hz9).trans g0
      replace g1 := (bcell1 hb10 hz9).trans g1
      have HB10 : Hid (Below w.heap.size w w10) := Lib.hid (bnext HB9.out hb10 (Nat.le_refl _))
      have RN10 := Lib.hid r10
      have S10 := Lib.hid (S9.out.below hb10)
      have HR10 : Hid (Rd Any w10 (dI rs) (.slice ar rs.length cr)) := Lib.hid (HR9.out.below hb10)
      have C := Lib.hid (HN2.out w10 (HO9.out.below hb10) HR10.out)
      have hz10 : w2.heap.size < w10.heap.size := Nat.lt_of_lt_of_le hz9 hb10.size
      clear hb10 ho10 r10
      go_wp2_with fail
      refine C.out.mono ?_
      rintro e w11 ⟨v11, F11, rfl, hb11, ho11, _, _⟩
      obtain ⟨a11, k11, rfl, r11⟩ := Ow.cfgVal ho11
      have HB11 : Hid (Below w.heap.size w w11) := Lib.hid (bnext HB10.out hb11 (Nat.le_refl _))
      have S11 := Lib.hid (S10.out.below hb11)
      obtain ⟨_, _, er, hrs11⟩ := Rd_I.1 (HR10.out.below hb11)
      cases er
      have C := Lib.hid (f6configs_c a10 a11 k10 k11 N w11 (RN10.out.below hb11) r11)
      have HRS := Lib.hid hrs11
      clear hb11 ho11 r11 RN10 hrs11
      go_wp2_with fail
      refine C.out.mono ?_
      rintro e w12 ⟨rfl, hb12⟩
      have HB12 : Hid (Below w.heap.size w w12) := Lib.hid (bnext HB11.out hb12 (Nat.le_refl _))
      have S12 := Lib.hid (S11.out.below hb12)
      have HRS12 := Lib.hid (HRS.out.below hb12)
      clear hb12
      have q0 := HRS12.out.cell 0 hrl
      have hrl2 : (0 : Int) < rs.length := by omega
      have j0 := fun w' => HRS12.out.ix tabI.under tabI.size cr 0 w' (by omega) hrl2
      simp only [show (0 : Int).toNat = 0 from rfl] at j0
      by_cases hN0 : N.length = 0
      · have hst := HSTOP.out hN0
        have hng : ¬ (0 : Int) < N.length := by omega
        obtain ⟨x0, hx0⟩ : ∃ x, x = nth rs 0 := ⟨_, rfl⟩
        rw [← hx0] at q0 hst
        have S13 : Hid (SlI Any w12 a7 [x0]) := Lib.hid (by rw [← hst]; exact S12.out)
        have hml : many.length = 1 := by rw [hst]; rfl
        have HML := Lib.hid hml
        have HB13 : Hid (Below w.heap.size w (w12.alloc (.cells #[.int .i64 x0] 2))) := Lib.hid (HB12.out.alloc HB12.out.size _)
        have C := Lib.hid (f6ints_c a7 (some ⟨w12.heap.size, 0, none⟩) k7 1 [x0] (w12.alloc (.cells #[.int .i64 x0] 2)) (S13.out.below (below_alloc _ _)) (slOneW (by simp [go_sem])))
        rw [hml]
        clear hml hst hx0
        go_wp2_with fail
        refine C.out.mono ?_
        rintro e w14 ⟨rfl, hb14⟩
        have HB14 := Lib.hid (bnext HB13.out hb14 (Nat.le_refl _))
        clear hb14
        go_wp2
        go_ret
        exact ⟨rfl, HB14.out⟩
      · have hng : (0 : Int) < N.length := by omega
        go_wp2
        go_ret
        exact ⟨rfl, HB12.out⟩
set_option maxRecDepth 100000 in
theorem lifted (os : Os) (started : os.Started) (H : Type) (enc : TypeId × Value → H) :
    ReturnsInHanded {} Try.checked os 5 .any (Rows.fnWaysSpec.pre6 enc Try.prog Try.f5 Rows.fnWaysRow.domain false) (Rows.fnWaysSpec.post enc Try.prog Try.f5 false true false false) :=
  lift Try.func5 (by kernel_rfl) rfl rfl (by kernel_rfl : Try.prog.underlying 4 = some .bool) (by kernel_rfl) (fun ds h => by match ds, h with | [d0, d1], _ => rfl) started
    (ChangeSpec.witness6 (enc := enc) (C := Try.checked) false ⟨#[], #[.slice none 0 0, .slice none 0 0], []⟩ 8 (by kernel_rfl) (by kernel_rfl) (by kernel_rfl) (by kernel_rfl))
    (fun W base args ds p hval hA => by
      rw [Try.params5] at hA hval
      obtain ⟨v0, vs0, d0, ds0, p0, q0, hargs0, rfl, rfl, g0, r0⟩ := ChangeShapes.trodAll_cons hA
      obtain ⟨v1, vs1, d1, ds1, p1, q1, hargs1, rfl, rfl, g1, r1⟩ := ChangeShapes.trodAll_cons r0
      obtain ⟨hnil, rfl, rfl⟩ := ChangeShapes.trodAll_nil r1
      obtain rfl : args = #[v0, v1] := by cases args; simp_all
      obtain ⟨a0, n0, c0, rfl, h0⟩ := open_U Try.underlying22 Try.underlying5 (by kernel_rfl) (hval 0 _ _ rfl rfl) g0
      obtain ⟨a1, n1, c1, rfl, h1⟩ := open_U Try.underlying22 Try.underlying5 (by kernel_rfl) (hval 1 _ _ rfl rfl) g1
      exact walk a0 n0 c0 a1 n1 c1 W h0 h1)
end Go.Proofs.Ytncndnholheemaa.lawWays
