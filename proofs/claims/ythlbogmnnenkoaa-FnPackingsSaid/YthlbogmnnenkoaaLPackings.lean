/- FnPackings: whatever the input, the law returns true. No condition. -/
import Derived.Test.YthlbogmnnenkoaaPZ
import Derived.Test.YthlbogmnnenkoaaF
namespace Go.Proofs.Ythlbogmnnenkoaa.lawPackings
open Go.ChangeShapes Go.WideShapes Go.ChangeAt Go.RowKit
set_option maxHeartbeats 8000000 in
set_option maxRecDepth 100000 in
theorem walk (a : Option Addr) (n c : Nat) (b0 : Option Addr) (m d : Nat) (w : World) (h1 : SlU (· < w.heap.size) w a n) (h2 : SlU (· < w.heap.size) w b0 m) :
    Calls Try.prog 9 #[.slice a n c, .slice b0 m d] w (RetV w (.bool true)) := by
  have C := Lib.hid (callsP (a2Long_c a b0 n c m d w h1.len h2.len))
  cases hq : (decide (3000 < n) || decide (3000 < m))
  rotate_left
  · rw [hq] at C
    clear hq
    go_enter Try.func9, Try.ntmps9
    go_wp2_with fail
    refine C.out.mono ?_
    rintro e w1 ⟨rfl, hb1⟩
    have HB := Lib.hid hb1
    clear hb1
    go_wp2
    go_ret
    exact ⟨rfl, HB.out⟩
  rw [hq] at C
  clear hq
  go_enter Try.func9, Try.ntmps9
  go_wp2_with fail
  refine C.out.mono ?_
  rintro e w1 ⟨rfl, hb1⟩
  have HB := Lib.hid hb1
  clear hb1 C
  have C := Lib.hid (A2Parts_c a n c w1 ((h1.below HB.out).any fun k hk => Nat.lt_of_lt_of_le hk HB.out.size))
  go_wp2_with fail
  refine C.out.mono ?_
  rintro e w2 ⟨b, ps, a_b, c_b, a_p, c_p, rfl, hbn, s_b, s_p, hbp⟩
  have SB := Lib.hid s_b
  have SP := Lib.hid s_p
  have HBP := Lib.hid hbp
  have hpl3 : ps.length ≤ 3 := hbp.pl
  have HBG := Lib.hid hbp.ok.1
  have HAS := Lib.hid hbp.ok.2.1
  replace HB := Lib.hid (bnext HB.out hbn (Nat.le_refl _))
  clear hbn C s_b s_p hbp
  have C := Lib.hid (A2Counts_c b0 m d ps.length w2 ((h2.below HB.out).any fun k hk => Nat.lt_of_lt_of_le hk HB.out.size) (by omega))
  go_wp2_with fail
  refine C.out.mono ?_
  rintro e w3 ⟨cs, a_c, c_c, rfl, hbn, s_c, hcl, hcb⟩
  have SC := Lib.hid s_c
  have HCL := Lib.hid hcl
  have HCB : Hid (∀ i, 0 ≤ nth cs i ∧ nth cs i ≤ 1000) := Lib.hid (fun i => nth_all (p := fun x => 0 ≤ x ∧ x ≤ 1000) (by omega) (fun i hi => by have := hcb i hi; omega) i)
  replace SB := Lib.hid (SB.out.below hbn)
  replace SP := Lib.hid (SP.out.below hbn)
  replace HB := Lib.hid (bnext HB.out hbn (Nat.le_refl _))
  clear hbn C s_c hcl hcb
  have HMX := Lib.hid (fun wx (h : SlI Any wx a_b b) (h' : SlII Any wx a_p ps) => implMaximalPackings_d b ps wx (Rd_I.2 ⟨a_b, c_b, rfl, h⟩) (Rd_II.2 ⟨a_p, c_p, rfl, h'⟩) (by omega))
  have HSM := Lib.hid (fun wx (h : SlI Any wx a_b b) (h' : SlII Any wx a_p ps) => specMaximalPackings_d b ps wx (Rd_I.2 ⟨a_b, c_b, rfl, h⟩) (Rd_II.2 ⟨a_p, c_p, rfl, h'⟩))
  have HEX := Lib.hid (fun wx (h : SlI Any wx a_b b) (h' : SlII Any wx a_p ps) => implExactPackings_d b ps wx (Rd_I.2 ⟨a_b, c_b, rfl, h⟩) (Rd_II.2 ⟨a_p, c_p, rfl, h'⟩) (by omega))
  have HGR := Lib.hid (fun wx (h : SlI Any wx a_b b) (h' : SlII Any wx a_p ps) => implGreedyPacking_d b ps wx (Rd_I.2 ⟨a_b, c_b, rfl, h⟩) (Rd_II.2 ⟨a_p, c_p, rfl, h'⟩) (by omega))
  have HIP := Lib.hid (fun wx (h : SlI Any wx a_b b) (h' : SlII Any wx a_p ps) (cs : List Int) ac cc (h2 : SlI Any wx ac cs) => implIsPacking_d b ps cs wx (Rd_I.2 ⟨a_b, c_b, rfl, h⟩) (Rd_II.2 ⟨a_p, c_p, rfl, h'⟩) (Rd_I.2 ⟨ac, cc, rfl, h2⟩))
  have HPK := Lib.hid (fun wx (h' : SlII Any wx a_p ps) (cs : List Int) (_h : cs.length = ps.length) ac cc (h2 : SlI Any wx ac cs) => implPackedBag_d ps cs wx (Rd_II.2 ⟨a_p, c_p, rfl, h'⟩) (Rd_I.2 ⟨ac, cc, rfl, h2⟩))
  obtain ⟨gr, hgr⟩ : ∃ g, g = (greedyTo b ps ps.length).1 := ⟨_, rfl⟩
  have HGRD := Lib.hid hgr
  obtain ⟨yes, hyes⟩ : ∃ y, y = decide (cs ∈ packs (maxP ps) ps b) := ⟨_, rfl⟩
  have HYES := Lib.hid hyes
  clear hgr hyes
  by_cases hll : (packs (maxP ps) ps b).length ≤ 2000
  rotate_left
  · have HLL := Lib.hid hll
    obtain ⟨le, hle⟩ : ∃ l, l = lim (packs (exactP ps) ps b) := ⟨_, rfl⟩
    have HEL := Lib.hid hle
    clear hll hle
    have C := HSM.out w3 SB.out SP.out
    rw [HBP.out.lim maxP, lim, if_neg HLL.out] at C
    replace C := Lib.hid C
    go_wp2_with fail
    refine C.out.mono ?_
    rintro e w4 ⟨v_m, F_m, rfl, hbn, ho_m, _, _⟩
    obtain ⟨a_m, c_m, rfl, s_m⟩ := ho_m.slAA
    have SM := Lib.hid s_m
    clear ho_m s_m C
    replace SB := Lib.hid (SB.out.below hbn)
    replace SP := Lib.hid (SP.out.below hbn)
    replace SC := Lib.hid (SC.out.below hbn)
    replace HB := Lib.hid (bnext HB.out hbn (Nat.le_refl _))
    clear hbn
    have C := HMX.out w4 SB.out SP.out
    rw [HBP.out.lim maxP, lim, if_neg HLL.out] at C
    replace C := Lib.hid C
    go_wp2_with fail
    refine C.out.mono ?_
    rintro e w5 ⟨v_a, F_a, rfl, hbn, ho_a, _, _⟩
    obtain ⟨a_a, c_a, rfl, s_a⟩ := ho_a.slAA
    have SA := Lib.hid s_a
    clear ho_a s_a C
    replace SB := Lib.hid (SB.out.below hbn)
    replace SP := Lib.hid (SP.out.below hbn)
    replace SC := Lib.hid (SC.out.below hbn)
    replace SM := Lib.hid (SM.out.below hbn)
    replace HB := Lib.hid (bnext HB.out hbn (Nat.le_refl _))
    clear hbn
    have C := HEX.out w5 SB.out SP.out
    rw [HBP.out.lim exactP, ← HEL.out] at C
    replace C := Lib.hid C
    go_wp2_with fail
    refine C.out.mono ?_
    rintro e w6 ⟨v_e, F_e, rfl, hbn, ho_e, _, _⟩
    obtain ⟨a_e, c_e, rfl, s_e⟩ := ho_e.slAA
    have SE := Lib.hid s_e
    clear ho_e s_e C
    replace SB := Lib.hid (SB.out.below hbn)
    replace SP := Lib.hid (SP.out.below hbn)
    replace SC := Lib.hid (SC.out.below hbn)
    replace SM := Lib.hid (SM.out.below hbn)
    replace SA := Lib.hid (SA.out.below hbn)
    replace HB := Lib.hid (bnext HB.out hbn (Nat.le_refl _))
    clear hbn
    have C := HGR.out w6 SB.out SP.out
    rw [HBP.out.greedy, ← HGRD.out] at C
    replace C := Lib.hid C
    go_wp2_with fail
    refine C.out.mono ?_
    rintro e w7 ⟨v_g, F_g, rfl, hbn, ho_g, _, _⟩
    obtain ⟨a_g, c_g, rfl, s_g⟩ := ho_g.slA
    have SG := Lib.hid s_g
    clear ho_g s_g C
    replace SB := Lib.hid (SB.out.below hbn)
    replace SP := Lib.hid (SP.out.below hbn)
    replace SC := Lib.hid (SC.out.below hbn)
    replace SM := Lib.hid (SM.out.below hbn)
    replace SA := Lib.hid (SA.out.below hbn)
    replace SE := Lib.hid (SE.out.below hbn)
    replace HB := Lib.hid (bnext HB.out hbn (Nat.le_refl _))
    clear hbn
    have C := HIP.out w7 SB.out SP.out cs a_c c_c SC.out
    rw [isPacking_mem HBG.out HAS.out HCL.out HCB.out, ← HYES.out] at C
    replace C := Lib.hid C
    go_wp2_with fail
    refine C.out.mono ?_
    rintro e w8 ⟨rfl, hbn⟩
    clear C
    replace SB := Lib.hid (SB.out.below hbn)
    replace SP := Lib.hid (SP.out.below hbn)
    replace SC := Lib.hid (SC.out.below hbn)
    replace SM := Lib.hid (SM.out.below hbn)
    replace SA := Lib.hid (SA.out.below hbn)
    replace SE := Lib.hid (SE.out.below hbn)
    replace SG := Lib.hid (SG.out.below hbn)
    replace HB := Lib.hid (bnext HB.out hbn (Nat.le_refl _))
    clear hbn
    go_wp2
    go_ret
    exact ⟨rfl, HB.out⟩
  · have HLL := Lib.hid hll
    have HEF := Lib.hid (exact_filter HBG.out HAS.out)
    have hle : (packs (exactP ps) ps b).length ≤ 2000 := by
      rw [HEF.out]; exact Nat.le_trans (List.length_filter_le _ _) hll
    have HLE := Lib.hid hle
    have HR1 := Lib.hid (packs_rises (maxP ps) ps b)
    have HR2 := Lib.hid (packs_rises (exactP ps) ps b)
    have HGM := Lib.hid (greedy_mem HBG.out HAS.out)
    obtain ⟨all, hall⟩ : ∃ l, l = packs (maxP ps) ps b := ⟨_, rfl⟩
    obtain ⟨ex, hex⟩ : ∃ l, l = packs (exactP ps) ps b := ⟨_, rfl⟩
    have HALL := Lib.hid hall
    have HEXD := Lib.hid hex
    have HSUB : Hid (∀ x, x ∈ all → x ∈ packs (maxP ps) ps b) := Lib.hid (fun x hx => by rw [← hall]; exact hx)
    have hall2 : all.length ≤ 2000 := by rw [hall]; exact hll
    have hex2 : ex.length ≤ 2000 := by rw [hex]; exact hle
    clear hll hle hall hex
    have C := HSM.out w3 SB.out SP.out
    rw [HBP.out.lim maxP, lim, if_pos HLL.out, ← HALL.out] at C
    replace C := Lib.hid C
    go_wp2_with fail
    refine C.out.mono ?_
    rintro e w4 ⟨v_m, F_m, rfl, hbn, ho_m, _, _⟩
    obtain ⟨a_m, c_m, rfl, s_m⟩ := ho_m.slAA
    have SM := Lib.hid s_m
    clear ho_m s_m C
    replace SB := Lib.hid (SB.out.below hbn)
    replace SP := Lib.hid (SP.out.below hbn)
    replace SC := Lib.hid (SC.out.below hbn)
    replace HB := Lib.hid (bnext HB.out hbn (Nat.le_refl _))
    clear hbn
    have C := HMX.out w4 SB.out SP.out
    rw [HBP.out.lim maxP, lim, if_pos HLL.out, ← HALL.out] at C
    replace C := Lib.hid C
    go_wp2_with fail
    refine C.out.mono ?_
    rintro e w5 ⟨v_a, F_a, rfl, hbn, ho_a, _, _⟩
    obtain ⟨a_a, c_a, rfl, s_a⟩ := ho_a.slAA
    have SA := Lib.hid s_a
    clear ho_a s_a C
    replace SB := Lib.hid (SB.out.below hbn)
    replace SP := Lib.hid (SP.out.below hbn)
    replace SC := Lib.hid (SC.out.below hbn)
    replace SM := Lib.hid (SM.out.below hbn)
    replace HB := Lib.hid (bnext HB.out hbn (Nat.le_refl _))
    clear hbn
    have C := HEX.out w5 SB.out SP.out
    rw [HBP.out.lim exactP, lim, if_pos HLE.out, ← HEXD.out] at C
    replace C := Lib.hid C
    go_wp2_with fail
    refine C.out.mono ?_
    rintro e w6 ⟨v_e, F_e, rfl, hbn, ho_e, _, _⟩
    obtain ⟨a_e, c_e, rfl, s_e⟩ := ho_e.slAA
    have SE := Lib.hid s_e
    clear ho_e s_e C
    replace SB := Lib.hid (SB.out.below hbn)
    replace SP := Lib.hid (SP.out.below hbn)
    replace SC := Lib.hid (SC.out.below hbn)
    replace SM := Lib.hid (SM.out.below hbn)
    replace SA := Lib.hid (SA.out.below hbn)
    replace HB := Lib.hid (bnext HB.out hbn (Nat.le_refl _))
    clear hbn
    have C := HGR.out w6 SB.out SP.out
    rw [HBP.out.greedy, ← HGRD.out] at C
    replace C := Lib.hid C
    go_wp2_with fail
    refine C.out.mono ?_
    rintro e w7 ⟨v_g, F_g, rfl, hbn, ho_g, _, _⟩
    obtain ⟨a_g, c_g, rfl, s_g⟩ := ho_g.slA
    have SG := Lib.hid s_g
    clear ho_g s_g C
    replace SB := Lib.hid (SB.out.below hbn)
    replace SP := Lib.hid (SP.out.below hbn)
    replace SC := Lib.hid (SC.out.below hbn)
    replace SM := Lib.hid (SM.out.below hbn)
    replace SA := Lib.hid (SA.out.below hbn)
    replace SE := Lib.hid (SE.out.below hbn)
    replace HB := Lib.hid (bnext HB.out hbn (Nat.le_refl _))
    clear hbn
    have C := HIP.out w7 SB.out SP.out cs a_c c_c SC.out
    rw [isPacking_mem HBG.out HAS.out HCL.out HCB.out, ← HYES.out] at C
    replace C := Lib.hid C
    go_wp2_with fail
    refine C.out.mono ?_
    rintro e w8 ⟨rfl, hbn⟩
    clear C
    replace SB := Lib.hid (SB.out.below hbn)
    replace SP := Lib.hid (SP.out.below hbn)
    replace SC := Lib.hid (SC.out.below hbn)
    replace SM := Lib.hid (SM.out.below hbn)
    replace SA := Lib.hid (SA.out.below hbn)
    replace SE := Lib.hid (SE.out.below hbn)
    replace SG := Lib.hid (SG.out.below hbn)
    replace HB := Lib.hid (bnext HB.out hbn (Nat.le_refl _))
    clear hbn
    have HXF : Hid (ex = all.filter (zRest b ps)) := Lib.hid (by rw [HEXD.out, HEF.out, HALL.out]; rfl)
    have C := Lib.hid (a2Rising_c a_a c_a ps.length all w8 SA.out (by rw [HALL.out]; exact HR1.out))
    go_wp2_with fail
    refine C.out.mono ?_
    rintro e w9 ⟨rfl, hbn⟩
    replace SB := Lib.hid (SB.out.below hbn)
    replace SP := Lib.hid (SP.out.below hbn)
    replace SC := Lib.hid (SC.out.below hbn)
    replace SA := Lib.hid (SA.out.below hbn)
    replace SE := Lib.hid (SE.out.below hbn)
    replace SG := Lib.hid (SG.out.below hbn)
    replace HB := Lib.hid (bnext HB.out hbn (Nat.le_refl _))
    clear hbn C
    have C := Lib.hid (a2Rising_c a_e c_e ps.length ex w9 SE.out (by rw [HEXD.out]; exact HR2.out))
    go_wp2_with fail
    refine C.out.mono ?_
    rintro e w10 ⟨rfl, hbn⟩
    replace SB := Lib.hid (SB.out.below hbn)
    replace SP := Lib.hid (SP.out.below hbn)
    replace SC := Lib.hid (SC.out.below hbn)
    replace SA := Lib.hid (SA.out.below hbn)
    replace SE := Lib.hid (SE.out.below hbn)
    replace SG := Lib.hid (SG.out.below hbn)
    replace HB := Lib.hid (bnext HB.out hbn (Nat.le_refl _))
    clear hbn C
    have C := a2Has_c a_a a_g c_a c_g all gr w10 SA.out SG.out
    rw [decide_eq_true (show gr ∈ all by rw [HGRD.out, HALL.out]; exact HGM.out)] at C
    replace C := Lib.hid C
    go_wp2_with fail
    refine C.out.mono ?_
    rintro e w11 ⟨rfl, hbn⟩
    replace SB := Lib.hid (SB.out.below hbn)
    replace SP := Lib.hid (SP.out.below hbn)
    replace SC := Lib.hid (SC.out.below hbn)
    replace SA := Lib.hid (SA.out.below hbn)
    replace SE := Lib.hid (SE.out.below hbn)
    replace SG := Lib.hid (SG.out.below hbn)
    replace HB := Lib.hid (bnext HB.out hbn (Nat.le_refl _))
    clear hbn C
    have C := a2Has_c a_a a_c c_a c_c all cs w11 SA.out SC.out
    rw [show decide (cs ∈ all) = yes by rw [HALL.out, HYES.out]] at C
    replace C := Lib.hid C
    go_wp2_with fail
    refine C.out.mono ?_
    rintro e w12 ⟨rfl, hbn⟩
    replace SB := Lib.hid (SB.out.below hbn)
    replace SP := Lib.hid (SP.out.below hbn)
    replace SC := Lib.hid (SC.out.below hbn)
    replace SA := Lib.hid (SA.out.below hbn)
    replace SE := Lib.hid (SE.out.below hbn)
    replace SG := Lib.hid (SG.out.below hbn)
    replace HB := Lib.hid (bnext HB.out hbn (Nat.le_refl _))
    clear hbn C
    have hal : Hid (∀ k, k < all.length → (nthR all k).length = ps.length) := Lib.hid fun k hk => by
      have hm : nthR all k ∈ all := by rw [nthR_lt hk]; exact List.getElem_mem hk
      exact (mem_bd HBG.out HAS.out _ (HSUB.out _ hm)).1
    have i1 := SA.out.ix tabII.under tabII.size c_a
    clear HMX HSM HEX HGR
    go_wp2
    obtain ⟨M, hM⟩ : ∃ M, M = ps.length := ⟨_, rfl⟩
    rw [← hM]
    have HM := Lib.hid hM
    have hM3 : M ≤ 3 := by omega
    clear hM
    go_loopw [18, 19, 20, 21, 22, 23, 24] (fun f i _ _ _ _ _ wr => ∃ k : Nat, k ≤ all.length ∧ i = .int .i64 k ∧ f = .int .i64 (foundTo b ps all k : Nat) ∧ Hid (Below w12.heap.size w12 wr)) (fun _ i _ _ _ _ _ _ => all.length - (intOf i).toNat)
    case atStart => exact ⟨0, Nat.zero_le _, rfl, by simp [foundTo], Lib.hid (Below.refl _ _)⟩
    case round =>
      obtain ⟨k, hk, rfl, rfl, HBL⟩ := hrel
      by_cases hlt : k < all.length
      · obtain ⟨a1, c1, g1, t1⟩ := (SA.out.below HBL.out).cell k hlt
        have hm : nthR all k ∈ all := by rw [nthR_lt hlt]; exact List.getElem_mem hlt
        have HMK : Hid (nthR all k ∈ packs (maxP ps) ps b) := Lib.hid (HSUB.out _ hm)
        have C := HIP.out wr (SB.out.below HBL.out) (SP.out.below HBL.out) (nthR all k) a1 c1 t1
        rw [isPacking_mem HBG.out HAS.out (hal.out k hlt) (mem_bd HBG.out HAS.out _ HMK.out).2.1, decide_eq_true HMK.out, ← HM.out] at C
        replace C := Lib.hid C
        have T1 := Lib.hid t1
        have HGK := Lib.hid g1
        clear t1
        go_wp2_with fail
        refine C.out.mono ?_
        rintro e wr1 ⟨rfl, hbx⟩
        have HBL1 := Lib.hid (bnext HBL.out hbx (Nat.le_refl _))
        clear C
        have D := callsP (a2Sum_c Any a_b c_b b wr1 (SB.out.below HBL1.out))
        obtain ⟨sm, hs⟩ : ∃ x, x = sumS b := ⟨_, rfl⟩
        rw [← hs] at D
        have HSMS := Lib.hid hs
        clear hs
        replace D := Lib.hid D
        go_wp2_with fail
        refine D.out.mono ?_
        rintro e wr2 ⟨rfl, hby⟩
        have HBL2 := Lib.hid (bnext HBL1.out hby (Nat.le_refl _))
        have hbx2 : Below wr.heap.size wr wr2 := bnext hbx hby (Nat.le_refl _)
        have g2 := (hbx2.cell (World.block_lt_of_cell? wr _ HGK.out)).trans HGK.out
        have HGK2 := Lib.hid g2
        have HMZ : Hid (decide (nthR all k ∈ ex) = zRest b ps (nthR all k)) := Lib.hid (by
          rw [HXF.out, Bool.eq_iff_iff, decide_eq_true_eq, List.mem_filter]
          exact ⟨fun h => h.2, fun h => ⟨hm, h⟩⟩)
        have hg2b : HGK2 = HGK2 := rfl
        clear hby D hm hbx hg2b g1
        by_cases h0p : 0 < M
        · have h0i : (0 : Int) < M := by omega
          have H0P : Hid (0 < ps.length) := Lib.hid (by rw [← HM.out]; exact h0p)
          cases hz : zRest b ps (nthR all k)
          · have HZ := Lib.hid hz
            have HME := Lib.hid (HMZ.out.trans hz)
            clear hz
            have C := HPK.out wr2 (SP.out.below HBL2.out) (nthR all k) (hal.out k hlt) a1 c1 (T1.out.below hbx2)
            rw [(packed_mem HBG.out HAS.out H0P.out HMK.out).1, ← HM.out] at C
            replace C := Lib.hid C
            clear hbx2
            go_wp2_with fail
            refine C.out.mono ?_
            rintro e wr3 ⟨v9, F9, rfl, hb9, ho9, _, _⟩
            obtain ⟨a9, c9, rfl, s9⟩ := ho9.slA
            have S9 := Lib.hid s9
            have HBL3 := Lib.hid (bnext HBL2.out hb9 (Nat.le_refl _))
            clear hb9 ho9 s9 C
            have D := callsQ (a2Same_c Any Any a9 a_b c9 c_b _ b wr3 S9.out (SB.out.below HBL3.out))
            rw [(packed_mem HBG.out HAS.out H0P.out HMK.out).2, show (sumS (restL ps b (nthR all k)) == 0) = false from HZ.out] at D
            replace D := Lib.hid D
            go_wp2_with fail
            refine D.out.mono ?_
            rintro e wr4 ⟨rfl, hb4⟩
            have HBL4 := Lib.hid (bnext HBL3.out hb4 (Nat.le_refl _))
            clear hb4 D
            obtain ⟨a1', c1', g1', t1'⟩ := (SA.out.below HBL4.out).cell k hlt
            have E := a2Has_c a_e a1' c_e c1' ex (nthR all k) wr4 (SE.out.below HBL4.out) t1'
            rw [show decide (nthR all k ∈ ex) = false from HME.out] at E
            replace E := Lib.hid E
            clear t1'
            go_wp2_with fail
            refine E.out.mono ?_
            rintro e wr5 ⟨rfl, hb5⟩
            have HBL5 := Lib.hid (bnext HBL4.out hb5 (Nat.le_refl _))
            have hfl := foundTo_le b ps all k
            have HFS : Hid (foundTo b ps all (k + 1) = foundTo b ps all k) := Lib.hid (by rw [foundTo_succ hlt, show zRest b ps (nthR all k) = false from HZ.out]; rfl)
            clear hb5 E
            go_wp2
            go_roundw
            case rel => exact ⟨k + 1, by omega, by go_num, by rw [HFS.out], HBL5⟩
            case measure => simp [intOf]; omega
          · have HZ := Lib.hid hz
            have HME := Lib.hid (HMZ.out.trans hz)
            clear hz
            have C := HPK.out wr2 (SP.out.below HBL2.out) (nthR all k) (hal.out k hlt) a1 c1 (T1.out.below hbx2)
            rw [(packed_mem HBG.out HAS.out H0P.out HMK.out).1, ← HM.out] at C
            replace C := Lib.hid C
            clear hbx2
            go_wp2_with fail
            refine C.out.mono ?_
            rintro e wr3 ⟨v9, F9, rfl, hb9, ho9, _, _⟩
            obtain ⟨a9, c9, rfl, s9⟩ := ho9.slA
            have S9 := Lib.hid s9
            have HBL3 := Lib.hid (bnext HBL2.out hb9 (Nat.le_refl _))
            clear hb9 ho9 s9 C
            have D := callsQ (a2Same_c Any Any a9 a_b c9 c_b _ b wr3 S9.out (SB.out.below HBL3.out))
            rw [(packed_mem HBG.out HAS.out H0P.out HMK.out).2, show (sumS (restL ps b (nthR all k)) == 0) = true from HZ.out] at D
            replace D := Lib.hid D
            go_wp2_with fail
            refine D.out.mono ?_
            rintro e wr4 ⟨rfl, hb4⟩
            have HBL4 := Lib.hid (bnext HBL3.out hb4 (Nat.le_refl _))
            clear hb4 D
            obtain ⟨a1', c1', g1', t1'⟩ := (SA.out.below HBL4.out).cell k hlt
            have E := a2Has_c a_e a1' c_e c1' ex (nthR all k) wr4 (SE.out.below HBL4.out) t1'
            rw [show decide (nthR all k ∈ ex) = true from HME.out] at E
            replace E := Lib.hid E
            clear t1'
            go_wp2_with fail
            refine E.out.mono ?_
            rintro e wr5 ⟨rfl, hb5⟩
            have HBL5 := Lib.hid (bnext HBL4.out hb5 (Nat.le_refl _))
            have hfl := foundTo_le b ps all k
            have HFS : Hid (foundTo b ps all (k + 1) = foundTo b ps all k + 1) := Lib.hid (by rw [foundTo_succ hlt, show zRest b ps (nthR all k) = true from HZ.out]; rfl)
            clear hb5 E
            go_wp2
            go_roundw
            case rel => exact ⟨k + 1, by omega, by go_num, by rw [HFS.out]; go_num, HBL5⟩
            case measure => simp [intOf]; omega
        · cases hz : zRest b ps (nthR all k)
          · have HZ := Lib.hid hz
            have HME := Lib.hid (HMZ.out.trans hz)
            clear hz
            obtain rfl : M = 0 := by omega
            clear h0p
            have hsz : (sm == 0) = false := by
              have hpn : ps = [] := List.eq_nil_of_length_eq_zero HM.out.symm
              have h := HZ.out
              rw [hpn] at h
              rw [HSMS.out]; exact h
            have HBL4 := HBL2
            have t1' := T1.out.below hbx2
            clear hbx2
            have E := a2Has_c a_e a1 c_e c1 ex (nthR all k) wr2 (SE.out.below HBL2.out) t1'
            rw [show decide (nthR all k ∈ ex) = false from HME.out] at E
            replace E := Lib.hid E
            clear t1'
            go_wp2_with fail
            refine E.out.mono ?_
            rintro e wr5 ⟨rfl, hb5⟩
            have HBL5 := Lib.hid (bnext HBL2.out hb5 (Nat.le_refl _))
            have hfl := foundTo_le b ps all k
            have HFS : Hid (foundTo b ps all (k + 1) = foundTo b ps all k) := Lib.hid (by rw [foundTo_succ hlt, show zRest b ps (nthR all k) = false from HZ.out]; rfl)
            clear hb5 E
            go_wp2
            refine ⟨?_, ?measure⟩
            (repeat apply Exists.intro)
            refine ⟨?rel, rfl⟩
            case rel => exact ⟨k + 1, by omega, by go_num, by rw [HFS.out], HBL5⟩
            case measure => simp [intOf]; omega
          · have HZ := Lib.hid hz
            have HME := Lib.hid (HMZ.out.trans hz)
            clear hz
            obtain rfl : M = 0 := by omega
            clear h0p
            have hsz : (sm == 0) = true := by
              have hpn : ps = [] := List.eq_nil_of_length_eq_zero HM.out.symm
              have h := HZ.out
              rw [hpn] at h
              rw [HSMS.out]; exact h
            have HBL4 := HBL2
            have t1' := T1.out.below hbx2
            clear hbx2
            have E := a2Has_c a_e a1 c_e c1 ex (nthR all k) wr2 (SE.out.below HBL2.out) t1'
            rw [show decide (nthR all k ∈ ex) = true from HME.out] at E
            replace E := Lib.hid E
            clear t1'
            go_wp2_with fail
            refine E.out.mono ?_
            rintro e wr5 ⟨rfl, hb5⟩
            have HBL5 := Lib.hid (bnext HBL2.out hb5 (Nat.le_refl _))
            have hfl := foundTo_le b ps all k
            have HFS : Hid (foundTo b ps all (k + 1) = foundTo b ps all k + 1) := Lib.hid (by rw [foundTo_succ hlt, show zRest b ps (nthR all k) = true from HZ.out]; rfl)
            clear hb5 E
            go_wp2
            refine ⟨?_, ?measure⟩
            (repeat apply Exists.intro)
            refine ⟨?rel, rfl⟩
            case rel => exact ⟨k + 1, by omega, by go_num, by rw [HFS.out]; go_num, HBL5⟩
            case measure => simp [intOf]; omega
      · replace HB := Lib.hid (bnext HB.out HBL.out (Nat.le_refl _))
        have hfe : (((foundTo b ps all k : Nat) : Int) == (ex.length : Int)) = true := by
          have e : foundTo b ps all k = ex.length := by rw [foundTo, List.take_of_length_le (by omega), HXF.out]
          rw [e]; simp
        go_wp2
        go_ret
        exact ⟨rfl, HB.out⟩
set_option maxRecDepth 100000 in
theorem lifted (os : Os) (started : os.Started) (H : Type) (enc : TypeId × Value → H) :
    ReturnsInHanded {} Try.checked os 9 .any (Rows.fnPackingsSpec.pre6 enc Try.prog Try.f9 Rows.fnPackingsRow.domain false) (Rows.fnPackingsSpec.post enc Try.prog Try.f9 false true false false) :=
  lift Try.func9 (by kernel_rfl) rfl rfl (by kernel_rfl : Try.prog.underlying 4 = some .bool) (by kernel_rfl) (fun ds h => by match ds, h with | [d0, d1], _ => rfl) started
    (ChangeSpec.witness6 (enc := enc) (C := Try.checked) false ⟨#[], #[.slice none 0 0, .slice none 0 0], []⟩ 8 (by kernel_rfl) (by kernel_rfl) (by kernel_rfl) (by kernel_rfl))
    (fun W base args ds p hval hA => by
      rw [Try.params9] at hA hval
      obtain ⟨v0, vs0, d0, ds0, p0, q0, hargs0, rfl, rfl, g0, r0⟩ := ChangeShapes.trodAll_cons hA
      obtain ⟨v1, vs1, d1, ds1, p1, q1, hargs1, rfl, rfl, g1, r1⟩ := ChangeShapes.trodAll_cons r0
      obtain ⟨hnil, rfl, rfl⟩ := ChangeShapes.trodAll_nil r1
      obtain rfl : args = #[v0, v1] := by cases args; simp_all
      obtain ⟨a0, n0, c0, rfl, h0⟩ := open_U Try.underlying76 Try.underlying5 (by kernel_rfl) (hval 0 _ _ rfl rfl) g0
      obtain ⟨a1, n1, c1, rfl, h1⟩ := open_U Try.underlying76 Try.underlying5 (by kernel_rfl) (hval 1 _ _ rfl rfl) g1
      exact walk a0 n0 c0 a1 n1 c1 W h0 h1)
end Go.Proofs.Ythlbogmnnenkoaa.lawPackings
