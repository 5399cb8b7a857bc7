/- FnPrograms: whatever the input, the law returns true. No condition. Written by mkfpr.py. -/
import Derived.Test.YtbnikblhnibgiaaGreatDoorZ6
import Derived.Test.YtbnikblhnibgiaaGreatDoorZ10
import Derived.Test.YtbnikblhnibgiaaGreatDoorZ5
import Derived.Test.YtbnikblhnibgiaaGreatDoorZ11
namespace Go.Proofs.YtbnikblhnibgiaaGreatDoor.lawPrograms
open Go.ChangeShapes Go.WideShapes Go.ChangeAt Go.RowKit
theorem slOneW {wx : World} {b : Nat} {x : Int} (h : wx.cell? ⟨b, 0, none⟩ = some (.int .i64 x)) : SlI Any wx (some ⟨b, 0, none⟩) [x] :=
  ⟨by simp [maxLen], fun _ => ⟨trivial, b, 0, rfl⟩, fun i hi => by
    have : i = 0 := by simpa using hi
    subst this; simpa [adr, blk, ofs, nth] using h⟩
theorem samePS_refl (R : Int) (os : List Ord) : samePS R os R os = true := by
  unfold samePS
  rw [eqOS_true rfl (fun j _ => by simp [ordB])]
  simp
theorem setPr (w : World) (b : Nat) (v0 v1 : Value) {u0 u1 : Value} (h0 : w.cell? ⟨b, 0, none⟩ = some u0) (h1 : w.cell? ⟨b, 1, none⟩ = some u1) :
    ((w.setCell ⟨b, 0, none⟩ v0).setCell ⟨b, 1, none⟩ v1).cell? ⟨b, 0, none⟩ = some v0 ∧ ((w.setCell ⟨b, 0, none⟩ v0).setCell ⟨b, 1, none⟩ v1).cell? ⟨b, 1, none⟩ = some v1 ∧ (w.setCell ⟨b, 0, none⟩ v0).cell? ⟨b, 0, none⟩ = some v0 := setP2 w b v0 v1 h0 h1
set_option maxHeartbeats 1000000 in
theorem f6configP_c (S T : Nat → Prop) (x : Cfg) (a b : Option Addr) (c c' : Nat) (w : World) (hx : SlI S w a x.regs) (hy : SlI T w b x.regs) :
    Calls Tryz.prog 13 #[.agg #[.int .i64 x.pc, .slice a x.regs.length c], .agg #[.int .i64 x.pc, .slice b x.regs.length c']] w (RetV w (.bool true)) := by
  have hb0 : Below w.heap.size w ((w.alloc (.cells #[.int .i64 x.pc, .slice a x.regs.length c] 35)).alloc (.cells #[.int .i64 x.pc, .slice b x.regs.length c'] 35)) := (below_alloc _ _).alloc (by simp) _
  have HE := Lib.hid (f6ints_c a b c c' x.regs _ (hx.below hb0).any (hy.below hb0).any)
  have HB := Lib.hid hb0
  clear hb0 hx hy
  go_enter Tryz.func13, Tryz.ntmps13
  go_wp2_with fail
  refine HE.out.mono ?_
  rintro e w' ⟨rfl, hb⟩
  have HB2 := Lib.hid (bnext HB.out hb (Nat.le_refl _))
  clear hb
  go_wp2
  go_ret
  exact ⟨rfl, HB2.out⟩
set_option maxHeartbeats 16000000 in
set_option maxRecDepth 100000 in
theorem walk (a : Option Addr) (n c : Nat) (b0 : Option Addr) (m d : Nat) (w : World) (h1 : SlU (· < w.heap.size) w a n) (h2 : SlU (· < w.heap.size) w b0 m) (hlib : LibOk w) :
    Calls Tryz.prog 3 #[.slice a n c, .slice b0 m d] w (RetV w (.bool true)) := by
  have HLIB := Lib.hid hlib
  clear hlib
  have C := Lib.hid (f6big_c a n c w h1.len)
  have C' := Lib.hid (f6big_c b0 m d w h2.len)
  cases hq : decide (4096 < n)
  rotate_left
  · rw [hq] at C
    clear hq
    go_enter Tryz.func3, Tryz.ntmps3
    go_wp2_with fail
    refine C.out.mono ?_
    rintro e w1 ⟨rfl, rfl⟩
    go_wp2
    go_ret
    exact ⟨rfl, Below.refl _ _⟩
  cases hr : decide (4096 < m)
  rotate_left
  · rw [hq] at C
    rw [hr] at C'
    clear hq hr
    go_enter Tryz.func3, Tryz.ntmps3
    go_wp2_with fail
    refine C.out.mono ?_
    rintro e w1 ⟨rfl, rfl⟩
    go_wp2_with fail
    refine C'.out.mono ?_
    rintro e w1 ⟨rfl, rfl⟩
    go_wp2
    go_ret
    exact ⟨rfl, Below.refl _ _⟩
  rw [hq] at C
  rw [hr] at C'
  clear hq hr
  go_enter Tryz.func3, Tryz.ntmps3
  go_wp2_with fail
  refine C.out.mono ?_
  rintro e w1 ⟨rfl, rfl⟩
  go_wp2_with fail
  refine C'.out.mono ?_
  rintro e w1 ⟨rfl, rfl⟩
  clear C C'
  have C := Lib.hid (P6Program_c a n c w h1)
  clear h1
  go_wp2_with fail
  refine C.out.mono ?_
  rintro e w2 ⟨R, os, v, rs, vr, rfl, hb2, ho2, hr2, hd2, hl2, hv2⟩
  obtain ⟨ao, co, rfl, hso⟩ := Rd_O.1 ho2
  obtain ⟨ar, cr, rfl, hsr⟩ := Rd_I.1 hr2
  have HO := Lib.hid hso.any
  have HRS := Lib.hid hsr.any
  have HB := Lib.hid hb2
  have hvp := hd2.valid
  have hrg : regsOk R rs = true := by
    simp only [regsOk, Bool.and_eq_true, beq_iff_eq]
    refine ⟨hl2, allB_true fun j hj => ?_⟩
    have := hv2 j
    simp [cntOk, inRg]; omega
  have HLW := Lib.hid (fun (s : Nat) (hs : s ≤ 50) => programs_law (steps := s) hvp hd2.plain hrg (m := 3) (by omega) (fun j => (hv2 j).2) hs)
  have HTO := Lib.hid (fun (i : Nat) (hi : 3 + (i : Int) ≤ 999) => (tr_ok (R := R) hvp hrg (m := 3) (by omega) (fun j => (hv2 j).2) i hi).ok)
  have HR1 : Hid (1 ≤ R) := Lib.hid hd2.r.1
  have hol : os.length ≤ 4 := hd2.n.2
  have HVP := Lib.hid hvp
  obtain ⟨t, ht⟩ : ∃ t, t = textB R os := ⟨_, rfl⟩
  have hts : t.size ≤ 100 := by
    rw [ht, textB, if_pos hvp]
    have := progT_size R os os.length
    omega
  have HRP : Hid (readProgS t.data.toList = ((R, os), 0)) := Lib.hid (by rw [ht, text_L hvp]; exact readProg_some (spec_text hvp))
  have HT := Lib.hid ht
  clear ho2 hr2 hb2 hso hsr hvp hrg ht hd2 hl2 hv2
  have C := implProgramText_d R os (vo := .slice ao os.length co) (w2.alloc (.cells #[.int .i64 R, .slice ao os.length co] 26)) (Rd_O.2 ⟨_, _, rfl, (HO.out.below (below_alloc _ _))⟩)
  rw [← HT.out] at C
  replace C := Lib.hid C
  go_wp2_with fail
  refine C.out.mono ?_
  rintro e w3 ⟨rfl, hb⟩
  have hbn := (below_alloc w2 (.cells #[.int .i64 R, .slice ao os.length co] 26)).trans (hb.mono (by simp))
  have p0n : w3.cell? ⟨w2.heap.size, 0, none⟩ = some (.int .i64 R) := by rw [bcell1 hb (by simp)]; simp [go_sem]
  have p1n : w3.cell? ⟨w2.heap.size, 1, none⟩ = some (.slice ao os.length co) := by rw [bcell1 hb (by simp)]; simp [go_sem]
  have lt_w2 : w2.heap.size < w3.heap.size := by have := hb.size; simp at this; omega
  have p0 := p0n
  clear p0n
  have p1 := p1n
  clear p1n
  replace HO := Lib.hid (HO.out.below hbn)
  replace HRS := Lib.hid (HRS.out.below hbn)
  replace HB := Lib.hid (bnext HB.out hbn (Nat.le_refl _))
  clear C
  clear hb hbn
  have C := implReadProgram_d t w3 (by omega) (HLIB.out.below HB.out)
  rw [HRP.out] at C
  replace C := Lib.hid C
  go_wp2_with fail
  refine C.out.mono ?_
  rintro e w4 ⟨vs, F4, rfl, hb, hoo, _, _⟩
  have hbn := hb
  replace p0 := (bcell1 hbn lt_w2).trans p0
  replace p1 := (bcell1 hbn lt_w2).trans p1
  replace lt_w2 := Nat.lt_of_lt_of_le lt_w2 hbn.size
  replace HO := Lib.hid (HO.out.below hbn)
  replace HRS := Lib.hid (HRS.out.below hbn)
  replace HB := Lib.hid (bnext HB.out hbn (Nat.le_refl _))
  clear C
  have hvl := owA_len _ _ _ hoo
  obtain ⟨e0, e1, rfl⟩ : ∃ e0 e1, vs = [e0, e1] := (by match vs, hvl with | [e0, e1], _ => exact ⟨e0, e1, rfl⟩)
  obtain ⟨_, _, ⟨ev, _⟩, hr0, rfl⟩ := hoo
  subst ev
  obtain ⟨_, _, ho4, _, rfl⟩ := hr0
  obtain ⟨a4, c4, rfl, hs4⟩ := Rd_O.1 ho4.rdA
  have HQ := Lib.hid hs4.any
  clear hb hbn ho4 hs4 hvl
  have C := Lib.hid (P6Pick_c b0 m d 16 (w4.alloc (.cells #[.int .i64 R, .slice a4 os.length c4] 26)) ((h2.below (bnext HB.out (below_alloc _ _) (Nat.le_refl _))).any fun k hk => Nat.lt_of_lt_of_le hk (bnext HB.out (below_alloc _ _) (Nat.le_refl _)).size) (by omega))
  go_wp2_with fail
  refine C.out.mono ?_
  rintro e w5 ⟨stp, rfl, hs0, hs1, hb⟩
  have hbn := (below_alloc w4 (.cells #[.int .i64 R, .slice a4 os.length c4] 26)).trans (hb.mono (by simp))
  have q0n : w5.cell? ⟨w4.heap.size, 0, none⟩ = some (.int .i64 R) := by rw [bcell1 hb (by simp)]; simp [go_sem]
  have q1n : w5.cell? ⟨w4.heap.size, 1, none⟩ = some (.slice a4 os.length c4) := by rw [bcell1 hb (by simp)]; simp [go_sem]
  replace p0 := (bcell1 hbn lt_w2).trans p0
  replace p1 := (bcell1 hbn lt_w2).trans p1
  replace lt_w2 := Nat.lt_of_lt_of_le lt_w2 hbn.size
  have lt_w4 : w4.heap.size < w5.heap.size := by have := hb.size; simp at this; omega
  have q0 := q0n
  clear q0n
  have q1 := q1n
  clear q1n
  replace HO := Lib.hid (HO.out.below hbn)
  replace HRS := Lib.hid (HRS.out.below hbn)
  replace HQ := Lib.hid (HQ.out.below hbn)
  replace HB := Lib.hid (bnext HB.out hbn (Nat.le_refl _))
  clear C
  clear hb hbn h2
  obtain ⟨s, rfl⟩ : ∃ s : Nat, stp = s := ⟨stp.toNat, by omega⟩
  have hs15 : s ≤ 15 := by omega
  obtain ⟨n, hns, l1, l2, l3, l4, l5, l6⟩ := HLW.out s (by omega)
  have hcf9 := HTO.out n (by omega)
  obtain ⟨cf, hcf⟩ : ∃ x, x = tr os rs n := ⟨_, rfl⟩
  rw [← hcf] at l1 l2 l4 l5 l6 hcf9
  have hcl : 1 ≤ cf.regs.length := by
    have h1 := HR1.out
    simp [confOk, regsOk] at hcf9
    omega
  have HCF := Lib.hid hcf
  have L2 := Lib.hid l2
  have L3 := Lib.hid l3
  have L4 := Lib.hid l4
  have L5 := Lib.hid l5
  have L6 := Lib.hid l6
  have L1 := Lib.hid l1
  clear hs0 hs1 l1 l2 l3 l4 l5 l6 hcf hcf9 HLW
  have C := implRunProgram_l R os rs s (vo := .slice ao os.length co) (vr := .slice ar rs.length cr) w5 (Rd_O.2 ⟨_, _, rfl, HO.out⟩) (Rd_I.2 ⟨_, _, rfl, HRS.out⟩)
  rw [L1.out] at C
  replace C := Lib.hid C
  go_wp2_with fail
  refine C.out.mono ?_
  rintro e w6 ⟨vs, F4, rfl, hb, hoo, _, _⟩
  have hbn := hb
  replace p0 := (bcell1 hbn lt_w2).trans p0
  replace p1 := (bcell1 hbn lt_w2).trans p1
  replace q0 := (bcell1 hbn lt_w4).trans q0
  replace q1 := (bcell1 hbn lt_w4).trans q1
  replace lt_w2 := Nat.lt_of_lt_of_le lt_w2 hbn.size
  replace lt_w4 := Nat.lt_of_lt_of_le lt_w4 hbn.size
  replace HO := Lib.hid (HO.out.below hbn)
  replace HRS := Lib.hid (HRS.out.below hbn)
  replace HQ := Lib.hid (HQ.out.below hbn)
  replace HB := Lib.hid (bnext HB.out hbn (Nat.le_refl _))
  clear C
  have hvl := owA_len _ _ _ hoo
  obtain ⟨e0, e1, rfl⟩ : ∃ e0 e1, vs = [e0, e1] := (by match vs, hvl with | [e0, e1], _ => exact ⟨e0, e1, rfl⟩)
  obtain ⟨_, _, ⟨ev, _⟩, hr0, rfl⟩ := hoo
  subst ev
  obtain ⟨_, _, ho4, _, rfl⟩ := hr0
  obtain ⟨a6, c6, rfl, hs4⟩ := Rd_I.1 ho4.rdA
  have H6 := Lib.hid hs4.any
  clear hb hbn ho4 hs4 hvl
  have C := specRunProgram_l R os rs s (vo := .slice ao os.length co) (vr := .slice ar rs.length cr) (w6.alloc (.cells #[.int .i64 cf.pc, .slice a6 cf.regs.length c6] 35)) (Rd_O.2 ⟨_, _, rfl, (HO.out.below (below_alloc _ _))⟩) (Rd_I.2 ⟨_, _, rfl, (HRS.out.below (below_alloc _ _))⟩)
  rw [L1.out] at C
  replace C := Lib.hid C
  go_wp2_with fail
  refine C.out.mono ?_
  rintro e w7 ⟨vs, F4, rfl, hb, hoo, _, _⟩
  have hbn := (below_alloc w6 (.cells #[.int .i64 cf.pc, .slice a6 cf.regs.length c6] 35)).trans (hb.mono (by simp))
  have c0n : w7.cell? ⟨w6.heap.size, 0, none⟩ = some (.int .i64 cf.pc) := by rw [bcell1 hb (by simp)]; simp [go_sem]
  have c1n : w7.cell? ⟨w6.heap.size, 1, none⟩ = some (.slice a6 cf.regs.length c6) := by rw [bcell1 hb (by simp)]; simp [go_sem]
  replace p0 := (bcell1 hbn lt_w2).trans p0
  replace p1 := (bcell1 hbn lt_w2).trans p1
  replace q0 := (bcell1 hbn lt_w4).trans q0
  replace q1 := (bcell1 hbn lt_w4).trans q1
  replace lt_w2 := Nat.lt_of_lt_of_le lt_w2 hbn.size
  replace lt_w4 := Nat.lt_of_lt_of_le lt_w4 hbn.size
  have lt_w6 : w6.heap.size < w7.heap.size := by have := hb.size; simp at this; omega
  have c0 := c0n
  clear c0n
  have c1 := c1n
  clear c1n
  replace HO := Lib.hid (HO.out.below hbn)
  replace HRS := Lib.hid (HRS.out.below hbn)
  replace HQ := Lib.hid (HQ.out.below hbn)
  replace H6 := Lib.hid (H6.out.below hbn)
  replace HB := Lib.hid (bnext HB.out hbn (Nat.le_refl _))
  clear C
  have hvl := owA_len _ _ _ hoo
  obtain ⟨e0, e1, rfl⟩ : ∃ e0 e1, vs = [e0, e1] := (by match vs, hvl with | [e0, e1], _ => exact ⟨e0, e1, rfl⟩)
  obtain ⟨_, _, ⟨ev, _⟩, hr0, rfl⟩ := hoo
  subst ev
  obtain ⟨_, _, ho4, _, rfl⟩ := hr0
  obtain ⟨a7, c7, rfl, hs4⟩ := Rd_I.1 ho4.rdA
  have H7 := Lib.hid hs4.any
  clear hb hbn ho4 hs4 hvl
  have C := specSameProgram_c R R Any ao a4 co c4 os os (w7.alloc (.cells #[.int .i64 cf.pc, .slice a7 cf.regs.length c7] 35)) (HO.out.below (below_alloc _ _)) (HQ.out.below (below_alloc _ _))
  rw [samePS_refl] at C
  replace C := Lib.hid C
  go_wp2_with fail
  refine C.out.mono ?_
  rintro e w8 ⟨rfl, hb⟩
  have hbn := (below_alloc w7 (.cells #[.int .i64 cf.pc, .slice a7 cf.regs.length c7] 35)).trans (hb.mono (by simp))
  have m0n : w8.cell? ⟨w7.heap.size, 0, none⟩ = some (.int .i64 cf.pc) := by rw [bcell1 hb (by simp)]; simp [go_sem]
  have m1n : w8.cell? ⟨w7.heap.size, 1, none⟩ = some (.slice a7 cf.regs.length c7) := by rw [bcell1 hb (by simp)]; simp [go_sem]
  replace p0 := (bcell1 hbn lt_w2).trans p0
  replace p1 := (bcell1 hbn lt_w2).trans p1
  replace q0 := (bcell1 hbn lt_w4).trans q0
  replace q1 := (bcell1 hbn lt_w4).trans q1
  replace c0 := (bcell1 hbn lt_w6).trans c0
  replace c1 := (bcell1 hbn lt_w6).trans c1
  replace lt_w2 := Nat.lt_of_lt_of_le lt_w2 hbn.size
  replace lt_w4 := Nat.lt_of_lt_of_le lt_w4 hbn.size
  replace lt_w6 := Nat.lt_of_lt_of_le lt_w6 hbn.size
  have lt_w7 : w7.heap.size < w8.heap.size := by have := hb.size; simp at this; omega
  have m0 := m0n
  clear m0n
  have m1 := m1n
  clear m1n
  replace HO := Lib.hid (HO.out.below hbn)
  replace HRS := Lib.hid (HRS.out.below hbn)
  replace HQ := Lib.hid (HQ.out.below hbn)
  replace H6 := Lib.hid (H6.out.below hbn)
  replace H7 := Lib.hid (H7.out.below hbn)
  replace HB := Lib.hid (bnext HB.out hbn (Nat.le_refl _))
  clear C
  clear hb hbn
  have C := implValidProgram_c R Any ao co os w8 HO.out
  rw [HVP.out] at C
  replace C := Lib.hid C
  go_wp2_with fail
  refine C.out.mono ?_
  rintro e w9 ⟨rfl, hb⟩
  have hbn := hb
  replace p0 := (bcell1 hbn lt_w2).trans p0
  replace p1 := (bcell1 hbn lt_w2).trans p1
  replace q0 := (bcell1 hbn lt_w4).trans q0
  replace q1 := (bcell1 hbn lt_w4).trans q1
  replace c0 := (bcell1 hbn lt_w6).trans c0
  replace c1 := (bcell1 hbn lt_w6).trans c1
  replace m0 := (bcell1 hbn lt_w7).trans m0
  replace m1 := (bcell1 hbn lt_w7).trans m1
  replace lt_w2 := Nat.lt_of_lt_of_le lt_w2 hbn.size
  replace lt_w4 := Nat.lt_of_lt_of_le lt_w4 hbn.size
  replace lt_w6 := Nat.lt_of_lt_of_le lt_w6 hbn.size
  replace lt_w7 := Nat.lt_of_lt_of_le lt_w7 hbn.size
  replace HO := Lib.hid (HO.out.below hbn)
  replace HRS := Lib.hid (HRS.out.below hbn)
  replace HQ := Lib.hid (HQ.out.below hbn)
  replace H6 := Lib.hid (H6.out.below hbn)
  replace H7 := Lib.hid (H7.out.below hbn)
  replace HB := Lib.hid (bnext HB.out hbn (Nat.le_refl _))
  clear C
  clear hb hbn
  have C := Lib.hid (f6configP_c Any Any cf a6 a7 c6 c7 w9 H6.out H7.out)
  go_wp2_with fail
  refine C.out.mono ?_
  rintro e wA ⟨rfl, hb⟩
  have hbn := hb
  replace p0 := (bcell1 hbn lt_w2).trans p0
  replace p1 := (bcell1 hbn lt_w2).trans p1
  replace q0 := (bcell1 hbn lt_w4).trans q0
  replace q1 := (bcell1 hbn lt_w4).trans q1
  replace c0 := (bcell1 hbn lt_w6).trans c0
  replace c1 := (bcell1 hbn lt_w6).trans c1
  replace m0 := (bcell1 hbn lt_w7).trans m0
  replace m1 := (bcell1 hbn lt_w7).trans m1
  replace lt_w2 := Nat.lt_of_lt_of_le lt_w2 hbn.size
  replace lt_w4 := Nat.lt_of_lt_of_le lt_w4 hbn.size
  replace lt_w6 := Nat.lt_of_lt_of_le lt_w6 hbn.size
  replace lt_w7 := Nat.lt_of_lt_of_le lt_w7 hbn.size
  replace HO := Lib.hid (HO.out.below hbn)
  replace HRS := Lib.hid (HRS.out.below hbn)
  replace HQ := Lib.hid (HQ.out.below hbn)
  replace H6 := Lib.hid (H6.out.below hbn)
  replace H7 := Lib.hid (H7.out.below hbn)
  replace HB := Lib.hid (bnext HB.out hbn (Nat.le_refl _))
  clear C
  clear hb hbn q0 q1 c0 c1
  have P0 := Lib.hid p0
  have P1 := Lib.hid p1
  have M0 := Lib.hid m0
  have M1 := Lib.hid m1
  have LW2 := Lib.hid lt_w2
  have HRW : Hid (SlI (· ≠ wA.heap.size) wA ar rs) := Lib.hid ⟨HRS.out.len, fun h0 => ⟨fun e => by have h9 := World.block_lt_of_cell? wA _ (HRS.out.cell 0 h0); simp [adr] at h9; omega, (HRS.out.ptr h0).2⟩, HRS.out.cell⟩
  have LW7 := Lib.hid lt_w7
  clear p0 p1 m0 m1 lt_w2 lt_w7 lt_w4 lt_w6
  go_wp2
  go_loopw [17] (fun i wr => ∃ (k : Nat) (a : Option Addr) (c : Nat), k ≤ n ∧ i = .int .i64 k ∧ Hid (Below wA.heap.size wA wr) ∧ Hid (wA.heap.size < wr.heap.size) ∧ Hid (wr.cell? ⟨wA.heap.size, 0, none⟩ = some (.int .i64 (tr os rs k).pc)) ∧ Hid (wr.cell? ⟨wA.heap.size, 1, none⟩ = some (.slice a (tr os rs k).regs.length c)) ∧ Hid (∀ i, wr.frozen? ⟨wA.heap.size, i, none⟩ = false) ∧ Hid (SlI (· ≠ wA.heap.size) wr a (tr os rs k).regs)) (fun i _ => n - (intOf i).toNat)
  case atStart => exact ⟨0, ar, cr, Nat.zero_le _, rfl, Lib.hid (below_alloc _ _), Lib.hid (by simp), Lib.hid (by simp [go_sem, tr]), Lib.hid (by simp [go_sem, tr]), Lib.hid (fun i => by simp [go_sem]), Lib.hid (HRW.out.below (below_alloc _ _))⟩
  case round =>
    obtain ⟨wo, hwo⟩ : ∃ wo, wo = wr := ⟨_, rfl⟩
    obtain ⟨k, a9, c9, hk, rfl, HBW, HLT, HN0, HN1, HNF, HNS⟩ := hrel
    subst hwo
    have p0 := (bcell1 HBW.out LW2.out).trans P0.out
    have p1 := (bcell1 HBW.out LW2.out).trans P1.out
    have n0 := HN0.out
    have n1 := HN1.out
    have C := implNextConfigs_d R os (tr os rs k).pc (tr os rs k).regs (vo := .slice ao os.length co) (vr := .slice a9 (tr os rs k).regs.length c9) wo (Rd_O.2 ⟨_, _, rfl, HO.out.below HBW.out⟩) (Rd_I.2 ⟨_, _, rfl, HNS.out.any⟩)
    by_cases hlt : k < n
    · rw [L3.out k hlt] at C
      have hlt' : (k : Int) < n := by omega
      obtain ⟨cx, hcx⟩ : ∃ x, x = tr os rs k := ⟨_, rfl⟩
      obtain ⟨cy, hcy⟩ : ∃ x, x = tr os rs (k + 1) := ⟨_, rfl⟩
      rw [← hcx] at n0 n1 C
      rw [← hcy] at C
      have HCY := Lib.hid hcy
      replace C := Lib.hid C
      clear hcx hcy
      go_wp2_with fail
      refine C.out.mono ?_
      rintro e wx ⟨v, F, rfl, hb, ho, _, hF⟩
      obtain ⟨a5, k5, rfl, hcs⟩ := Rd_CS (Ow.rd _ _ _ ho)
      obtain ⟨g5, o5, rfl⟩ := hcs.ptr (by simp)
      have x0 := hcs.c0 0 (by simp)
      obtain ⟨a8, c8, x1, hs8⟩ := hcs.c1 0 (by simp)
      simp only [nthCfg, List.getD_cons_zero, adr, blk, ofs, Nat.zero_mul, Nat.zero_add, Nat.add_zero] at x0 x1 hs8
      replace n0 := (bcell1 hb HLT.out).trans n0
      replace n1 := (bcell1 hb HLT.out).trans n1
      have f0 := (hb.frozen (p := ⟨wA.heap.size, 0, none⟩) HLT.out).trans (HNF.out 0)
      have f1 := (hb.frozen (p := ⟨wA.heap.size, 1, none⟩) HLT.out).trans (HNF.out 1)
      have hs9 : SlI (· ≠ wA.heap.size) wx a8 cy.regs := ⟨hs8.len, fun h0 => ⟨fun e => by have := hF _ (hs8.ptr h0).1; have := HLT.out; omega, (hs8.ptr h0).2⟩, hs8.cell⟩
      have HS9 := Lib.hid ((hs9.set_other (i := 0) (u := .int .i64 cy.pc)).set_other (i := 1) (u := .slice a8 cy.regs.length c8))
      have HBX : Hid (Below wA.heap.size wA wx) := Lib.hid (bnext HBW.out hb (Nat.le_refl _))
      have HLX : Hid (wA.heap.size < wx.heap.size) := Lib.hid (Nat.lt_of_lt_of_le HLT.out hb.size)
      have HSA := Lib.hid (setPr wx wA.heap.size (.int .i64 cy.pc) (.slice a8 cy.regs.length c8) n0 n1)
      have HFX : Hid (∀ i, wx.frozen? ⟨wA.heap.size, i, none⟩ = false) := Lib.hid (fun i => (hb.frozen (p := ⟨wA.heap.size, i, none⟩) HLT.out).trans (HNF.out i))
      have i5 := fun w' => ix_of (P := Tryz.prog) tabConfigSM.under tabConfigSM.size (a := some ⟨g5, o5, none⟩) (n := 1) (fun _ => ⟨g5, o5, rfl⟩) k5 0 w' (by omega) (by omega)
      simp only [adr, blk, ofs, show Int.toNat 0 = 0 from rfl, Nat.zero_mul, Nat.add_zero] at i5
      have e1 : [cy].length = 1 := rfl
      rw [e1]
      clear e1 hcs hs8 hs9 hb ho hF C
      go_wp2
      go_roundw
      case rel => exact ⟨k + 1, a8, c8, by omega, by go_num, Lib.hid ((HBX.out.setCell (Nat.le_refl _) _).setCell (Nat.le_refl _) _), Lib.hid (by rw [(Exc.setCell _ _ _).size, (Exc.setCell _ _ _).size]; exact HLX.out), Lib.hid (by rw [← HCY.out]; exact HSA.out.1), Lib.hid (by rw [← HCY.out]; exact HSA.out.2.1), Lib.hid (fun i => by rw [World.frozen?_setCell, World.frozen?_setCell]; exact HFX.out i), Lib.hid (by rw [← HCY.out]; exact HS9.out)⟩
      case measure => simp [intOf]; omega
    · obtain rfl : k = n := by omega
      rw [← HCF.out] at n0 n1 C HNS
      obtain ⟨L, hL⟩ : ∃ L, L = (nextConfigsS R os cf.pc cf.regs).1 := ⟨_, rfl⟩
      have hL5 := L5.out
      rw [← hL] at hL5
      have e4 : nextConfigsS R os cf.pc cf.regs = (L, 0) := Prod.ext hL.symm L4.out
      rw [e4] at C
      replace C := Lib.hid C
      have HL5 := Lib.hid hL5
      have hkn : ¬ (k : Int) < k := by omega
      clear hL e4 hL5 hlt hkn
      go_wp2_with fail
      refine C.out.mono ?_
      rintro e wx ⟨v, F, rfl, hb, ho, _, hF⟩
      obtain ⟨a5, k5, rfl, hcs⟩ := Rd_CS (Ow.rd _ _ _ ho)
      have hLm : L.length ≤ maxLen := hcs.len
      unfold maxLen at hLm
      clear hcs ho hF
      replace p0 := (bcell1 hb (Nat.lt_of_lt_of_le LW2.out HBW.out.size)).trans p0
      replace p1 := (bcell1 hb (Nat.lt_of_lt_of_le LW2.out HBW.out.size)).trans p1
      have HBX : Hid (Below wA.heap.size wA wx) := Lib.hid (bnext HBW.out hb (Nat.le_refl _))
      have HLX : Hid (wA.heap.size < wx.heap.size) := Lib.hid (Nat.lt_of_lt_of_le HLT.out hb.size)
      replace n0 := (bcell1 hb HLT.out).trans n0
      replace n1 := (bcell1 hb HLT.out).trans n1
      have HNX := Lib.hid (HNS.out.any.below hb)
      clear hb C
      have C := implHaltValues_d R os rs s (vo := .slice ao os.length co) (vr := .slice ar rs.length cr) wx (Rd_O.2 ⟨_, _, rfl, HO.out.below HBX.out⟩) (Rd_I.2 ⟨_, _, rfl, HRS.out.below HBX.out⟩)
      rw [L6.out] at C
      obtain ⟨V, hV⟩ : ∃ V, V = if haltS os cf.pc = true then [nth cf.regs 0] else ([] : List Int) := ⟨_, rfl⟩
      rw [← hV] at C
      have HV := Lib.hid hV
      replace C := Lib.hid C
      clear hV
      go_wp2_with fail
      refine C.out.mono ?_
      rintro e wy ⟨v, F, rfl, hb, ho, _, hF⟩
      obtain ⟨a3, k3, rfl, hs3⟩ := ho.slA
      have HS3 := Lib.hid hs3
      have HBY : Hid (Below wA.heap.size wA wy) := Lib.hid (bnext HBX.out hb (Nat.le_refl _))
      replace n0 := (bcell1 hb HLX.out).trans n0
      replace n1 := (bcell1 hb HLX.out).trans n1
      have m0 := (bcell1 HBY.out LW7.out).trans M0.out
      have m1 := (bcell1 HBY.out LW7.out).trans M1.out
      have HNY := Lib.hid (HNX.out.below hb)
      have HLY : Hid (wA.heap.size < wy.heap.size) := Lib.hid (Nat.lt_of_lt_of_le HLX.out hb.size)
      clear hb C ho hF hs3 p0 p1
      have C := Lib.hid (f6configP_c Any Any cf a9 a7 c9 c7 wy HNY.out (H7.out.below HBY.out))
      cases hh : haltS os cf.pc
      · have hVe : V = [] := by rw [HV.out, hh]; rfl
        have hL0 : 0 < L.length := by
          have h1 := HL5.out
          rw [hh] at h1
          rcases Nat.eq_zero_or_pos L.length with h2 | h2
          · have h3 := h1.1 h2; cases h3
          · exact h2
        have hL0' : (0 : Int) < L.length := by omega
        have hns' : ¬ (k : Int) < s := by
          intro h1
          have h2 := L2.out (by omega)
          rw [hh] at h2; cases h2
        subst hVe
        clear hh
        go_wp2_with fail
        refine C.out.mono ?_
        rintro e wz ⟨rfl, hb⟩
        have HBZ : Hid (Below wA.heap.size wA wz) := Lib.hid (bnext HBY.out hb (Nat.le_refl _))
        clear hb C
        go_wp2
        go_ret
        exact ⟨rfl, bnext HB.out HBZ.out (Nat.le_refl _)⟩
      · have hVe : V = [nth cf.regs 0] := by rw [HV.out, hh]; rfl
        have hL0 : L.length = 0 := by
          have h1 := HL5.out
          rw [hh] at h1
          exact h1.2 rfl
        have hL0' : ¬ (0 : Int) < L.length := by omega
        have i7 := fun w' => H7.out.ix tabI.under tabI.size c7 0 w' (by omega) (by omega)
        simp only [show Int.toNat 0 = 0 from rfl, Nat.zero_mul, Nat.add_zero] at i7
        have hy0 := (H7.out.below HBY.out).cell 0 (by omega)
        obtain ⟨y, hy⟩ : ∃ y, y = nth cf.regs 0 := ⟨_, rfl⟩
        rw [← hy] at hVe hy0
        subst hVe
        clear hh hy
        by_cases hn2 : (k : Int) < s
        all_goals
          go_wp2_with fail
          refine C.out.mono ?_
          rintro e wz ⟨rfl, hb⟩
          have HBZ : Hid (Below wA.heap.size wA wz) := Lib.hid (bnext HBY.out hb (Nat.le_refl _))
          have hlt7 : wA.heap.size ≤ wy.heap.size := Nat.le_of_lt HLY.out
          have m1z := (bcell1 HBZ.out LW7.out).trans M1.out
          have hyz := (H7.out.below HBZ.out).cell 0 (by omega)
          have hy0w := (H7.out.below HBY.out).cell 0 (by omega)
          rw [hy0w] at hy0
          have hye : nth cf.regs 0 = y := by injection hy0 with h1; injection h1
          rw [hye] at hyz
          have CF := Lib.hid (f6ints_c a3 (some ⟨wz.heap.size, 0, none⟩) k3 1 [y] (wz.alloc (.cells #[.int .i64 y] 2)) ((HS3.out.below hb).below (below_alloc _ _)) (slOneW (by simp [go_sem])))
          clear hb C hy0w hy0 hye m0 m1 n0 n1
          go_wp2_with fail
          refine CF.out.mono ?_
          rintro e wq ⟨rfl, hbq⟩
          have HBQ : Hid (Below w.heap.size w wq) := Lib.hid (bnext (bnext HB.out HBZ.out (Nat.le_refl _)) ((below_alloc _ _).trans (hbq.mono (by simp))) (Nat.le_refl _))
          clear hbq CF
          go_wp2
          go_ret
          exact ⟨rfl, HBQ.out⟩
def laidL : List (String × DataW Unit) := Rows.fnProgramsRow.laid
theorem door_met (os : Os) (args : Array Value) : laidMetH Tryz.prog laidL ((World.laidAll Tryz.prog os laidL).forCall (fun _ _ => 0) ⟨#[], args, []⟩).memory :=
  by rw [MakeChecks.laidMetH_plain _ _ _ (by kernel_rfl)]; exact laidMet_laidAll _ (by kernel_rfl) (by kernel_rfl)
set_option maxRecDepth 100000 in
theorem lifted (os : Os) (started : os.Started) (H : Type) (enc : TypeId × Value → H) :
    ReturnsInHanded {} Tryz.checked os 3 .any (fun w args => (Rows.fnProgramsSpec.pre enc Tryz.prog Tryz.f3 [] false w args ∧ laidMetH Tryz.prog laidL w) ∧ sizedMet enc Tryz.prog Tryz.f3 (OpenSpec.ofChange Rows.fnProgramsSpec) false w args) (Rows.fnProgramsSpec.post enc Tryz.prog Tryz.f3 false true false false) :=
  liftShaped (lst := laidL) Tryz.func3 (by kernel_rfl) rfl rfl (by kernel_rfl : Tryz.prog.underlying 4 = some .bool) (by kernel_rfl) (fun ds h => by match ds, h with | [d0, d1], _ => rfl) started
    (ChangeSpec.witness_shaped (enc := enc) (C := Tryz.checked) (os := os) (X := fun w _ => laidMetH Tryz.prog laidL w) false (World.laidAll Tryz.prog os laidL) #[.slice none 0 0, .slice none 0 0] 8 (World.laidAll_os _ _ _) (World.shaped_of_ZipB (by kernel_rfl) (by kernel_rfl)) (by kernel_rfl) (by kernel_rfl) (by kernel_rfl) (door_met os _))
    (fun W base args ds p hval hA hL hSh => by
      rw [Tryz.params3] at hA hval
      obtain ⟨v0, vs0, d0, ds0, p0, q0, hargs0, rfl, rfl, g0, r0⟩ := ChangeShapes.trodAll_cons hA
      obtain ⟨v1, vs1, d1, ds1, p1, q1, hargs1, rfl, rfl, g1, r1⟩ := ChangeShapes.trodAll_cons r0
      obtain ⟨hnil, rfl, rfl⟩ := ChangeShapes.trodAll_nil r1
      obtain rfl : args = #[v0, v1] := by cases args; simp_all
      obtain ⟨a0, n0, c0, rfl, h0⟩ := open_U Tryz.underlying22 Tryz.underlying5 (by kernel_rfl) (hval 0 _ _ rfl rfl) g0
      obtain ⟨a1, n1, c1, rfl, h1⟩ := open_U Tryz.underlying22 Tryz.underlying5 (by kernel_rfl) (hval 1 _ _ rfl rfl) g1
      exact walk a0 n0 c0 a1 n1 c1 W h0 h1 (lib_ofPrograms hL hSh))
end Go.Proofs.YtbnikblhnibgiaaGreatDoor.lawPrograms

/- FnPrograms: whatever the input, the law returns true. No condition: the statement. -/
namespace Go.Proofs.YtbnikblhnibgiaaGreatDoor.lawPrograms
open Go.ChangeShapes Go.WideShapes Go.ChangeAt Go.RowKit
theorem said : Rows.FnProgramsSaid :=
  OpenClaim.holds_of_wide 3 Tryz.f3 rfl rfl rfl rfl rfl rfl rfl ⟨rfl, rfl, rfl, rfl, rfl⟩ rfl rfl rfl rfl rfl (by kernel_rfl) Tryz.func3 (by kernel_rfl)
    (of_decide_eq_true (by kernel_rfl)) (by unfold Func.isWrapper; first | (rw [if_pos (by decide +kernel)]; kernel_rfl) | (rw [if_neg (by decide +kernel)]; exact ⟨rfl, rfl⟩))
    (fun os started H enc _ => lifted os started H enc)

theorem proved : Rows.FnProgramsCardSaid :=
  Claim7.holds_tied_plain_at .later [] Rows.fnProgramsCard.laidKinds true Rows.fnProgramsCard.stood.harness Rows.fnProgramsCard.stood.looks
    said (fun _ h => by cases h) (by kernel_rfl) (fun _ h => by cases h) fnPrograms_row_tie rfl ⟨rfl, rfl⟩ (by kernel_rfl) rfl
    (fun f fn hf hfn => by
      obtain rfl : f = 3 := Option.some.inj ((show Tryz.prog.funcNamed "loop.example/g01116/laws.FnPrograms" = some 3 by kernel_rfl).symm.trans hf) |>.symm
      obtain rfl : fn = Tryz.f3 := (Option.some.inj (Tryz.func3.symm.trans hfn)).symm
      exact ⟨by kernel_rfl, fun j t ht => by
        rw [Tryz.params3] at ht
        have hm : t ∈ Tryz.f3.params.toList := by rw [Tryz.params3]; simpa using Array.mem_of_getElem? ht
        have hall : (Tryz.f3.params.toList.all fun u => !Tryz.prog.wantsStandIn u) = true := by kernel_rfl
        exact (show Tryz.prog.wantsStandIn t = false by simpa using List.all_eq_true.1 hall t hm)⟩)
    (by kernel_rfl)
end Go.Proofs.YtbnikblhnibgiaaGreatDoor.lawPrograms
