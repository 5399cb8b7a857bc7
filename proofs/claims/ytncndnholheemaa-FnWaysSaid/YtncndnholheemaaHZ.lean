/- The values with which a program can halt: the reference's function. Written by mkhz.py. -/
import Derived.Test.YtncndnholheemaaHY
import Derived.Test.YtncndnholheemaaBW
namespace Go.Proofs.Ytncndnholheemaa
open Go.RowKit

theorem pre_nth {os : List Ord} {all cur : List Cfg} {fr i : Nat} (h : expTo os all fr i = (cur, 0)) {j : Nat} (hj : j < all.length) : nthCfg cur j = nthCfg all j := by
  obtain ⟨t, ht⟩ := expTo_pre os all fr i (by rw [h])
  rw [h] at ht
  simp only at ht
  rw [ht, nthCfg_app hj]
set_option maxHeartbeats 8000000 in
set_option maxRecDepth 100000 in
theorem specHaltValues_d (R : Int) (os : List Ord) (regs : List Int) (steps : Int) {vo vr : Value} (w : World) (h1 : Rd Any w (dO os) vo) (h2 : Rd Any w (dI regs) vr) :
    Calls Try.prog 19 #[.agg #[.int .i64 R, vo], vr, .int .i64 steps] w (RetDC w (dI (haltValuesS R os regs steps).1) (haltValuesS R os regs steps).2) := by
  obtain ⟨ao, co, rfl, ho⟩ := Rd_O.1 h1
  obtain ⟨a, c, rfl, hx⟩ := Rd_I.1 h2
  obtain ⟨w0, hw0⟩ : ∃ wz, wz = w.alloc (.cells #[.int .i64 R, .slice ao os.length co] 52) := ⟨_, rfl⟩
  have hb0 : Below w.heap.size w w0 := by rw [hw0]; exact below_alloc _ _
  have hz0 : w0.heap.size = w.heap.size + 1 := by rw [hw0]; simp
  have p0 : w0.cell? ⟨w.heap.size, 0, none⟩ = some (.int .i64 R) := by rw [hw0]; simp [go_sem]
  have p1 : w0.cell? ⟨w.heap.size, 1, none⟩ = some (.slice ao os.length co) := by rw [hw0]; simp [go_sem]
  have HC := Lib.hid (l05Asked_c R os steps w.heap.size ao co a c regs w0 (ho.below hb0) (hx.below hb0) p0 p1)
  have HP : Hid (∀ wx, Below w0.heap.size w0 wx → SlO Any wx ao os ∧ SlI Any wx a regs ∧ wx.cell? ⟨w.heap.size, 0, none⟩ = some (.int .i64 R) ∧ wx.cell? ⟨w.heap.size, 1, none⟩ = some (.slice ao os.length co)) := Lib.hid (fun wx hb => ⟨(ho.below hb0).below hb, (hx.below hb0).below hb, (bcell1 hb (by omega)).trans p0, (bcell1 hb (by omega)).trans p1⟩)
  have HB0 := Lib.hid hb0
  have HW0 := Lib.hid hw0
  have HZ0 := Lib.hid hz0
  clear h1 h2 ho hx hb0 hw0 hz0 p0 p1
  by_cases hask : askRun R os regs steps = 0
  rotate_left
  · have HR := Lib.hid (halt_bad hask)
    obtain ⟨code, hcd⟩ : ∃ x, x = askRun R os regs steps := ⟨_, rfl⟩
    rw [← hcd] at HC HR hask
    have hne : (code != 0) = true := by simpa using hask
    clear hask hcd
    go_enter Try.func19, Try.ntmps19
    go_wp2_with fail
    rw [← HW0.out]
    refine HC.out.mono ?_
    rintro e w1 ⟨rfl, hb1⟩
    have HB1 := Lib.hid (HB0.out.trans (hb1.mono (by have := HZ0.out; omega)))
    clear hb1
    go_wp2
    go_ret2
    rw [HR.out]
    exact RetDC.none _ _ _ (bnext HB1.out (below_alloc _ _) (Nat.le_refl _))
  · obtain ⟨hvp, hrg, hs0, hs1⟩ := askRun_ok hask
    obtain ⟨n, rfl⟩ : ∃ n : Nat, steps = n := ⟨steps.toNat, by omega⟩
    have hn : n ≤ 200 := by omega
    have hR : 1 ≤ R ∧ R ≤ 3 := by simp [validProgS, inRg] at hvp; omega
    have hlr : (regs.length : Int) = R := (regsOk_ok hrg).1
    rw [hask] at HC
    have HCL := Lib.hid (fun wx hb => l00OwnN_c Any a c regs wx (HP.out wx hb).2.1 (by omega))
    have HASK := Lib.hid hask
    have HVP := Lib.hid hvp
    have HRG := Lib.hid hrg
    have HLR := Lib.hid hlr
    have HR1 := Lib.hid hR
    have HRK : Hid (∀ k, RndOk R os (rndTo os regs k)) := Lib.hid (fun k => rndTo_ok hvp hrg k)
    have HERR : Hid (∀ (a : Option Addr) (c : Nat) (w' : World), (rndTo os regs n).2.2 = 3 → Below w.heap.size w w' → RetDC w (dI (haltValuesS R os regs n).1) (haltValuesS R os regs n).2 (.returned (.tuple #[.slice a 0 c, .int .i64 3])) w') := Lib.hid (fun a c w' h hb => by rw [halt_err hask h]; exact RetDC.none _ _ _ hb)
    clear hask hvp hrg hlr hR hs0 hs1
    go_enter Try.func19, Try.ntmps19
    go_wp2_with fail
    rw [← HW0.out]
    refine HC.out.mono ?_
    rintro e w1 ⟨rfl, hb1⟩
    have HB1 := Lib.hid hb1
    clear hb1
    go_wp2_with fail
    refine (HCL.out w1 HB1.out).mono ?_
    rintro e w2 ⟨v2, rfl, hb2, hl2⟩
    obtain ⟨a2, c2, F2, rfl, ho2, hn2, hF2⟩ := hl2.ow (by have := HLR.out; have := HR1.out; unfold maxLen; omega)
    have HB2 := Lib.hid (bnext HB1.out hb2 (Nat.le_refl _))
    have HCF := Lib.hid (CfR.one (E := 68) (w := w2) (B := w2.heap.size) ⟨0, regs⟩ a2 c2 ho2.arg (Nat.le_refl _))
    have hz2 : w0.heap.size ≤ w2.heap.size := HB2.out.size
    have hbp : w.heap.size < w2.heap.size := by have := HZ0.out; omega
    have HBW : Hid (Below w.heap.size w w2) := Lib.hid (HB0.out.trans (HB2.out.mono (by have := HZ0.out; omega)))
    clear hb2 hl2 ho2 hn2 hF2 HCL
    go_wp2
    go_loopw [9, 10, 11] (fun v i10 i11 wr => ∃ (k fr : Nat) (all : List Cfg), k ≤ n ∧ i11 = .int .i64 k ∧ i10 = .int .i64 fr ∧ Hid (rndTo os regs k = (all, fr, 0)) ∧ Hid (Below w2.heap.size w2 wr) ∧ Hid (CfR 68 wr w2.heap.size v all)) (fun _ _ i11 _ => n - (intOf i11).toNat)
    case atStart => exact ⟨0, 0, [⟨0, regs⟩], Nat.zero_le _, rfl, rfl, Lib.hid rfl, Lib.hid (below_alloc _ _), HCF⟩
    case round =>
      obtain ⟨k, fr, all, hk, rfl, rfl, HRD, HBR, HCR⟩ := hrel
      obtain ⟨wo, hwo⟩ : ∃ z, z = wr := ⟨_, rfl⟩
      subst hwo
      have hrk := HRK.out k
      rw [HRD.out] at hrk
      have hfr : fr ≤ all.length := hrk.fr
      have h200 : all.length ≤ 200 := hrk.len
      have hpos : 0 < all.length := by have h := rndTo_pos os regs k (by rw [HRD.out]); rw [HRD.out] at h; exact h
      have HALL := Lib.hid hrk.ok
      obtain ⟨ga, ca, hva, hca⟩ := HCR.out.val hpos
      subst hva
      clear hrk
      by_cases hgo : k < n ∧ fr < all.length
      · obtain ⟨hkn, hfl⟩ := hgo
        have hkn2 : (k : Int) < n := by omega
        have hfl2 : (fr : Int) < all.length := by omega
        obtain ⟨m, hm⟩ : ∃ m, m = all.length - fr := ⟨_, rfl⟩
        have HM := Lib.hid hm
        clear hm
        go_wp2
        go_loopw [9, 10] (fun v i10 wr => ∃ (i : Nat) (cur : List Cfg), i ≤ m ∧ i10 = .int .i64 ((fr + i : Nat) : Int) ∧ Hid (expTo os all fr i = (cur, 0)) ∧ Hid (Below w2.heap.size w2 wr) ∧ Hid (CfR 68 wr w2.heap.size v cur)) (fun _ i10 _ => all.length - (intOf i10).toNat)
        case atStart => exact ⟨0, all, Nat.zero_le _, rfl, Lib.hid rfl, HBR, HCR⟩
        case round =>
          obtain ⟨i, cur, him, rfl, HEX, HBQ, HCQ⟩ := hrel
          obtain ⟨wq, hwq⟩ : ∃ z, z = wr := ⟨_, rfl⟩
          subst hwq
          have hcl200 : cur.length ≤ 200 := by have h := expTo_len os all fr h200 i; rw [HEX.out] at h; exact h
          have HAL : Hid (all.length ≤ cur.length) := Lib.hid (by
            obtain ⟨t, ht⟩ := expTo_pre os all fr i (by rw [HEX.out])
            rw [HEX.out] at ht
            simp only at ht
            rw [ht, List.length_append]; omega)
          have hcpos : 0 < cur.length := by have := HAL.out; omega
          obtain ⟨gq, cq, hvq, _⟩ := HCQ.out.val hcpos
          subst hvq
          by_cases hi : i < m
          · have hfi : fr + i < all.length := by have := HM.out; omega
            have hfc : fr + i < cur.length := by have := HAL.out; omega
            have hfi2 : ((fr + i : Nat) : Int) < all.length := by omega
            obtain ⟨at_, hat⟩ : ∃ x : Nat, x = fr + i := ⟨_, rfl⟩
            have HVQ := Lib.hid HCQ.out.vw
            have d0 := HVQ.out.c0 (fr + i) hfc
            obtain ⟨ac, nc, d1, hds⟩ := HVQ.out.c1 (fr + i) hfc
            have hcf := HALL.out.at hfi
            have i1 := ix_of (P := Try.prog) tabConfigSM.under tabConfigSM.size (a := some ⟨gq, 0, none⟩) (n := cur.length) (fun _ => ⟨gq, _, rfl⟩) cq
            simp only [adr, blk, ofs, Nat.zero_add] at i1
            have i2 := fun w' => i1 ((fr + i : Nat) : Int) w' (by omega) (by omega)
            simp only [Int.toNat_natCast] at i2
            rw [pre_nth HEX.out hfi] at d0 d1 hds
            have HLS : Hid ((nextS os (nthCfg all (fr + i)).pc (nthCfg all (fr + i)).regs).1.length ≤ 2) := Lib.hid (nextS_small _ _ _).1
            have HEB : Hid ((nextS os (nthCfg all (fr + i)).pc (nthCfg all (fr + i)).regs).2 = 3 → (rndTo os regs n).2.2 = 3) := Lib.hid (fun h => rnd_fall (i := i + 1) HRD.out hkn (by have := HM.out; omega) (expTo_stuck (by rw [h]; decide)))
            have HEM : Hid (200 < (addTo cur (nextS os (nthCfg all (fr + i)).pc (nthCfg all (fr + i)).regs).1 (nextS os (nthCfg all (fr + i)).pc (nthCfg all (fr + i)).regs).1.length).length → (rndTo os regs n).2.2 = 3) := Lib.hid (fun h => rnd_fall (i := i + 1) HRD.out hkn (by have := HM.out; omega) (expTo_many (by rw [HEX.out]; exact h)))
            have HES : Hid ((nextS os (nthCfg all (fr + i)).pc (nthCfg all (fr + i)).regs).2 = 0 → ¬ 200 < (addTo cur (nextS os (nthCfg all (fr + i)).pc (nthCfg all (fr + i)).regs).1 (nextS os (nthCfg all (fr + i)).pc (nthCfg all (fr + i)).regs).1.length).length → expTo os all fr (i + 1) = (addTo cur (nextS os (nthCfg all (fr + i)).pc (nthCfg all (fr + i)).regs).1 (nextS os (nthCfg all (fr + i)).pc (nthCfg all (fr + i)).regs).1.length, 0)) := Lib.hid (fun h h2 => by
              have h3 := expTo_step (os := os) (all := all) (fr := fr) (i := i) (by rw [HEX.out]) h (by rw [HEX.out]; exact h2)
              rw [HEX.out] at h3; exact h3)
            obtain ⟨cc, hcc⟩ : ∃ x, x = nthCfg all (fr + i) := ⟨_, rfl⟩
            rw [← hcc] at d0 d1 hds hcf HLS HEB HEM HES
            have HBP : Hid (Below w0.heap.size w0 wq) := Lib.hid (bnext HB2.out HBQ.out (Nat.le_refl _))
            obtain ⟨ho, _, pp0, pp1⟩ := HP.out wq HBP.out
            have hz2q : w2.heap.size ≤ wq.heap.size := HBQ.out.size
            have HNX := Lib.hid (l05Next_c R ao co w.heap.size gq ((fr + i) * 2) os cc.pc ac nc cc.regs wq ho hds.any pp0 pp1 d0 d1 HVP.out hcf)
            rw [← hat] at d0 d1 HNX i2 hfi2 ⊢
            have HAT := Lib.hid hat
            clear ho hds hcf pp0 pp1 i1 hcc hat
            go_wp2_with fail
            refine HNX.out.mono ?_
            rintro e w5 ⟨v5, F5, rfl, hb5, ho5, hn5, hF5⟩
            obtain ⟨L, hL⟩ : ∃ L, L = (nextS os cc.pc cc.regs).1 := ⟨_, rfl⟩
            rw [← hL] at HLS HEM HES ho5
            obtain ⟨al, cl, rfl, hcl⟩ := Rd_CS (Ow.rd _ _ _ ho5)
            have HB5 : Hid (Below w2.heap.size w2 w5) := Lib.hid (bnext HBQ.out hb5 (Nat.le_refl _))
            have HC5 := Lib.hid (HCQ.out.below hb5)
            have HF5 : Hid (∀ g, g ∈ F5 → wq.heap.size ≤ g ∧ g < w5.heap.size) := Lib.hid (fun g hg => ⟨hF5 g hg, Ow.lt _ _ _ ho5 g hg⟩)
            have HO5 := Lib.hid ho5
            have hL2 : L.length ≤ 2 := HLS.out
            clear hb5 ho5 hn5 hF5 hcl HNX hL d0 d1
            rcases nextS_code os cc.pc cc.regs with e0 | ⟨_, e3⟩
            rotate_left
            · have HE3 := Lib.hid (HEB.out e3)
              have b5 : ((nextS os cc.pc cc.regs).2 == 0) = false := by rw [e3]; rfl
              clear HEB HEM HES e3
              go_wp2
              go_ret2
              exact HERR.out _ _ _ HE3.out (bnext HBW.out (HB5.out.alloc HB5.out.size _) (Nat.le_refl _))
            · have HE0 := Lib.hid e0
              have b5 : ((nextS os cc.pc cc.regs).2 == 0) = true := by rw [e0]; rfl
              clear e0
              go_wp2
              go_loopw [9, 15] (fun v i15 wr => ∃ (j : Nat) (cu : List Cfg), j ≤ L.length ∧ i15 = .int .i64 j ∧ Hid (cu = addTo cur L j) ∧ Hid (Below w2.heap.size w2 wr) ∧ Hid (CfR 68 wr w2.heap.size v cu) ∧ Hid (Ow wr (dCS L) (.slice al L.length cl) F5) ∧ Hid (∀ g, g ∈ F5 → g ∉ ob v) ∧ Hid (w5.heap.size ≤ wr.heap.size)) (fun _ i15 _ => L.length - (intOf i15).toNat)
              case atStart => exact ⟨0, cur, Nat.zero_le _, rfl, Lib.hid rfl, HB5, HC5, HO5, Lib.hid (fun g hg e => by have := (HF5.out g hg).1; have := (HCQ.out.lt g e).2; omega), Lib.hid (Nat.le_refl _)⟩
              case round =>
                obtain ⟨j, cu, hj, rfl, HCU, HBZ, HCZ, HOZ, HFZ, HZZ⟩ := hrel
                obtain ⟨wz, hwz⟩ : ∃ z, z = wr := ⟨_, rfl⟩
                subst hwz
                have hcu : cu.length ≤ 202 := by rw [HCU.out]; have := addTo_len cur L j; omega
                have hcup : 0 < cu.length := by
                  obtain ⟨t, ht⟩ := addTo_pre cur L j
                  rw [HCU.out, ht, List.length_append]; omega
                obtain ⟨gc, cc2, hvc, _⟩ := HCZ.out.val hcup
                subst hvc
                by_cases hjl : j < L.length
                · have hj2 : (j : Int) < L.length := by omega
                  obtain ⟨_, _, ev, hcs⟩ := Rd_CS (Ow.rd _ _ _ HOZ.out)
                  cases ev
                  obtain ⟨gl, ol, hal⟩ := hcs.ptr (by omega)
                  have i4 := ix_of (P := Try.prog) tabConfigSM.under tabConfigSM.size (a := al) (n := L.length) (fun h => hcs.ptr h) cl
                  have i5 := fun w' => i4 (j : Int) w' (by omega) hj2
                  simp only [Int.toNat_natCast] at i5
                  have d0 := hcs.c0 j hjl
                  obtain ⟨ad2, nd, d1, hds⟩ := hcs.c1 j hjl
                  rw [hal] at i5 d0 d1
                  simp only [adr, blk, ofs] at i5 d0 d1
                  obtain ⟨d, hd⟩ : ∃ d, d = nthCfg L j := ⟨_, rfl⟩
                  rw [← hd] at d0 d1 hds
                  have HDD := Lib.hid hd
                  have HSD : Hid (SlI (fun x => x ∉ ob (.slice (some ⟨gc, 0, none⟩) cu.length cc2)) wz ad2 d.regs) := Lib.hid (hds.move (fun _ _ _ => rfl) (fun k _ hk => HFZ.out k hk))
                  have HCT := Lib.hid (l05Find_c _ _ gc cc2 gl (ol + j * 2) cu d ad2 nd wz HCZ.out.vw (by omega) d0 (by rw [Nat.add_assoc]; exact d1) HSD.out)
                  have HALL2 := Lib.hid hal
                  rw [← Nat.add_assoc] at d1
                  clear hd hds hcs i4
                  subst hal
                  clear HALL2
                  go_wp2_with fail
                  refine HCT.out.mono ?_
                  rintro e w6 ⟨rfl, hb6⟩
                  have HB6 : Hid (Below w2.heap.size w2 w6) := Lib.hid (bnext HBZ.out hb6 (Nat.le_refl _))
                  have HC6 := Lib.hid (HCZ.out.below hb6)
                  have HO6 := Lib.hid (HOZ.out.below hb6)
                  have HS6 := Lib.hid (HSD.out.below hb6)
                  have HZ6 : Hid (w5.heap.size ≤ w6.heap.size) := Lib.hid (Nat.le_trans HZZ.out hb6.size)
                  have r0 := (hb6.cell (World.block_lt_of_cell? wz _ d0)).trans d0
                  have r1 := (hb6.cell (World.block_lt_of_cell? wz _ d1)).trans d1
                  have hneg := idxC_neg (fun x => eqC x d) cu
                  clear hb6 HCT d0 d1
                  cases hh : cu.any (fun x => eqC x d)
                  · have HAD : Hid (cu ++ [d] = addTo cur L (j + 1)) := Lib.hid (by rw [addTo, ← HCU.out, ← HDD.out, addC, hasC, hh]; rfl)
                    have hlt0 : idxC (fun x => eqC x d) cu < 0 := by rw [hh] at hneg; simpa using hneg
                    obtain ⟨ix0, hix⟩ : ∃ x, x = idxC (fun x => eqC x d) cu := ⟨_, rfl⟩
                    rw [← hix] at hlt0 ⊢
                    clear hh hneg hix
                    go_wp2_with (at_builtin; refine app_cfr rfl _ _ 64 rfl tabConfigSM rfl (by decide) w2.heap.size _ cu rfl (HC6.out.below (below_alloc _ _)) w6.heap.size d ad2 nd rfl (by simp [go_sem]) (by simp [go_sem]) (HS6.out.below (below_alloc _ _)) (by omega) (by have := HB6.out.size; simp; omega) ?_)
                    intro v7 w7 hN
                    have HC7 := Lib.hid hN.row
                    rw [HAD.out] at HC7
                    have HB7 : Hid (Below w2.heap.size w2 w7) := Lib.hid ((HB6.out.alloc HB6.out.size _).trans (hN.chg.below (by have := HB6.out.size; simp; omega) (fun g hg => (HC6.out.lt g hg).1)))
                    have HO7 : Hid (Ow w7 (dCS L) (.slice (some ⟨gl, ol, none⟩) L.length cl) F5) := Lib.hid (hN.chg.ow (HO6.out.below (below_alloc _ _)) HFZ.out)
                    have HF7 : Hid (∀ g, g ∈ F5 → g ∉ ob v7) := Lib.hid (fun g hg e => by
                      rcases hN.mem g e with h | h
                      · exact HFZ.out g hg h
                      · have h1 := (HF5.out g hg).2
                        have h2 := HZ6.out
                        simp at h
                        omega)
                    have HZ7 : Hid (w5.heap.size ≤ w7.heap.size) := Lib.hid (by have := hN.chg.size; simp at this; have := HZ6.out; omega)
                    clear hN
                    go_wp2
                    go_roundw
                    case rel => first | exact ⟨j + 1, _, by omega, by go_num, Lib.hid rfl, HB7, HC7, HO7, HF7, HZ7⟩ | ((repeat apply Exists.intro); refine ⟨?_, rfl⟩; exact ⟨j + 1, _, by omega, by go_num, Lib.hid rfl, HB7, HC7, HO7, HF7, HZ7⟩)
                    case measure => simp [intOf]; omega
                  · have HAD : Hid (cu = addTo cur L (j + 1)) := Lib.hid (by rw [addTo, ← HCU.out, ← HDD.out, addC, hasC, hh]; rfl)
                    have hlt0 : 0 ≤ idxC (fun x => eqC x d) cu := by
                      rw [hh] at hneg
                      simp at hneg
                      exact hneg
                    obtain ⟨ix0, hix⟩ : ∃ x, x = idxC (fun x => eqC x d) cu := ⟨_, rfl⟩
                    rw [← hix] at hlt0 ⊢
                    clear hh hneg hix
                    go_wp2
                    go_roundw
                    case rel => first | exact ⟨j + 1, cu, by omega, by go_num, HAD, HB6, HC6, HO6, HFZ, HZ6⟩ | ((repeat apply Exists.intro); refine ⟨?_, rfl⟩; exact ⟨j + 1, cu, by omega, by go_num, HAD, HB6, HC6, HO6, HFZ, HZ6⟩)
                    case measure => simp [intOf]; omega
                · obtain rfl : j = L.length := by omega
                  by_cases h3 : 200 < cu.length
                  · have HE3 := Lib.hid (HEM.out (by rw [← HCU.out]; exact h3))
                    have b6 : (200 : Int) < cu.length := by omega
                    go_wp2
                    go_ret2
                    exact HERR.out _ _ _ HE3.out (bnext HBW.out (HBZ.out.alloc HBZ.out.size _) (Nat.le_refl _))
                  · have HE4 : Hid (expTo os all fr (i + 1) = (cu, 0)) := Lib.hid (by
                      have h := HES.out HE0.out (by rw [← HCU.out]; exact h3)
                      rw [← HCU.out] at h; exact h)
                    have b6 : (cu.length : Int) ≤ 200 := by omega
                    have hat4 := HAT.out
                    go_wp2
                    go_roundw
                    case rel => first | exact ⟨i + 1, cu, by omega, (by simp only [Value.int.injEq, true_and]; omega), HE4, HBZ, HCZ⟩ | ((repeat apply Exists.intro); refine ⟨?_, rfl⟩; exact ⟨i + 1, cu, by omega, (by simp only [Value.int.injEq, true_and]; omega), HE4, HBZ, HCZ⟩)
                    case measure => simp [intOf]; omega
          · obtain rfl : i = m := by omega
            have hfm : fr + i = all.length := by have := HM.out; omega
            have hni : ¬ ((fr + i : Nat) : Int) < all.length := by omega
            rw [hfm] at hni ⊢
            have HRN : Hid (rndTo os regs (k + 1) = (cur, all.length, 0)) := Lib.hid (rnd_next HRD.out (by rw [← HM.out]; exact HEX.out))
            clear hfm
            go_wp2
            go_roundw
            case rel => first | exact ⟨k + 1, all.length, cur, by omega, by go_num, rfl, HRN, HBQ, HCQ⟩ | ((repeat apply Exists.intro); refine ⟨?_, rfl⟩; exact ⟨k + 1, all.length, cur, by omega, by go_num, rfl, HRN, HBQ, HCQ⟩)
            case measure => simp [intOf]; omega
      · have HRES : Hid (haltValuesS R os regs n = (valTo os all all.length, 0)) := Lib.hid (by
          by_cases hkn : k < n
          · have hfe : fr = all.length := by omega
            have h := rndTo_rest (os := os) (regs := regs) (n := k) (by rw [HRD.out]) (by rw [HRD.out]; exact hfe) (n - k)
            rw [show k + (n - k) = n by omega, HRD.out] at h
            exact halt_fine HASK.out h
          · obtain rfl : k = n := by omega
            exact halt_fine HASK.out HRD.out)
        have HVA := Lib.hid HCR.out.vw
        have i1 := ix_of (P := Try.prog) tabConfigSM.under tabConfigSM.size (a := some ⟨ga, 0, none⟩) (n := all.length) (fun _ => ⟨ga, _, rfl⟩) ca
        simp only [adr, blk, ofs, Nat.zero_add] at i1
        have hpl : w.heap.size < wo.heap.size := by have := HBR.out.size; omega
        have HBP : Hid (Below w0.heap.size w0 wo) := Lib.hid (bnext HB2.out HBR.out (Nat.le_refl _))
        have HBO : Hid (Below w.heap.size w wo) := Lib.hid (bnext HBW.out HBR.out (Nat.le_refl _))
        have hcase : (k : Int) < n ∧ ¬ (fr : Int) < all.length ∨ ¬ (k : Int) < n := by omega
        clear HERR HRK hgo
        rcases hcase with ⟨hc1, hc2⟩ | hc1
        · go_wp2
          go_loopw [16, 17] (fun vo i17 wr => ∃ (i : Nat), i ≤ all.length ∧ i17 = .int .i64 i ∧ Hid (Below wo.heap.size wo wr) ∧ Hid (∃ F, Ow wr (dI (valTo os all i)) vo F ∧ F.Nodup ∧ ∀ g, g ∈ F → w.heap.size ≤ g)) (fun _ i17 _ => all.length - (intOf i17).toNat)
          case atStart => exact ⟨0, Nat.zero_le _, rfl, Lib.hid (below_alloc _ _), Lib.hid ⟨[], Ow_empty _ _ _ _, by simp, by simp⟩⟩
          case round =>
            obtain ⟨i, hi, rfl, HBX, HFO⟩ := hrel
            obtain ⟨wx, hwx⟩ : ∃ z, z = wr := ⟨_, rfl⟩
            subst hwx
            obtain ⟨Fo, hof, hnf, hlf⟩ := HFO.out
            obtain ⟨ao2, cv, hvo⟩ := hof.val
            have hrl := valTo_len os all i
            by_cases hil : i < all.length
            · have hil2 : (i : Int) < all.length := by omega
              have i2 := fun w' => i1 (i : Int) w' (by omega) hil2
              simp only [Int.toNat_natCast] at i2
              have hvx := HVA.out.below HBX.out
              have d0 := hvx.c0 i hil
              obtain ⟨ac, nc, d1, hds⟩ := hvx.c1 i hil
              have hcf := HALL.out.at hil
              obtain ⟨cc, hcc⟩ : ∃ x, x = nthCfg all i := ⟨_, rfl⟩
              rw [← hcc] at d0 d1 hds hcf
              have HCC := Lib.hid hcc
              have hP : 0 ≤ cc.pc ∧ cc.pc ≤ os.length := by simp [confOk, inRg] at hcf; omega
              have hrr := (regsOk_ok (R := R) (regs := cc.regs) (by simp only [confOk, Bool.and_eq_true] at hcf; exact hcf.2)).1
              have hr0 : 0 < cc.regs.length := by have := HR1.out; omega
              have hr1 : (0 : Int) < cc.regs.length := by omega
              obtain ⟨ho, _, pp0, pp1⟩ := HP.out wx (bnext HBP.out HBX.out (Nat.le_refl _))
              have g1 := hds.cell 0 hr0
              have i3 := fun w' => hds.ix tabI.under tabI.size nc 0 w' (by omega) (by omega)
              simp only [show ((0 : Int)).toNat = 0 from rfl] at i3
              have HHA := Lib.hid (l05Halts_c os cc.pc ao co w.heap.size wx ho pp1 hP.1 hP.2)
              clear hcc hcf hrr ho pp0 pp1 hvx hds hP
              cases hh : haltS os cc.pc
              · have HRT : Hid (valTo os all (i + 1) = valTo os all i) := Lib.hid (by rw [valTo, ← HCC.out, hh]; rfl)
                have HF7 := HFO
                rw [← HRT.out] at HF7
                rw [hh] at HHA
                clear hh hvo
                go_wp2_with fail
                refine HHA.out.mono ?_
                rintro e w6 ⟨rfl, rfl⟩
                go_wp2
                go_roundw
                case rel => first | exact ⟨i + 1, by omega, by go_num, HBX, HF7⟩ | ((repeat apply Exists.intro); refine ⟨?_, rfl⟩; exact ⟨i + 1, by omega, by go_num, HBX, HF7⟩)
                case measure => simp [intOf]; omega
              · have HRT : Hid (valTo os all (i + 1) = putS (valTo os all i) (nth cc.regs 0)) := Lib.hid (by rw [valTo, ← HCC.out, if_pos hh])
                rw [hh] at HHA
                have HPT := Lib.hid (l00Put_c Any ao2 cv (valTo os all i) (nth cc.regs 0) wx (by rw [hvo] at hof; exact hof.arg) (by omega))
                subst hvo
                clear hh
                go_wp2_with fail
                refine HHA.out.mono ?_
                rintro e w6 ⟨rfl, rfl⟩
                go_wp2_with fail
                refine HPT.out.mono ?_
                rintro e w7 ⟨v7, F7, rfl, hb7, ho7, hn7, hF7⟩
                have HB7 : Hid (Below wo.heap.size wo w7) := Lib.hid (bnext HBX.out hb7 (Nat.le_refl _))
                rw [← HRT.out] at ho7
                have HF8 : Hid (∃ F, Ow w7 (dI (valTo os all (i + 1))) v7 F ∧ F.Nodup ∧ ∀ g, g ∈ F → w.heap.size ≤ g) := Lib.hid ⟨F7, ho7, hn7, fun g hg => by have := hF7 g hg; have := HBX.out.size; omega⟩
                clear hb7 ho7 hn7 hF7
                go_wp2
                go_roundw
                case rel => first | exact ⟨i + 1, by omega, by go_num, HB7, HF8⟩ | ((repeat apply Exists.intro); refine ⟨?_, rfl⟩; exact ⟨i + 1, by omega, by go_num, HB7, HF8⟩)
                case measure => simp [intOf]; omega
            · obtain rfl : i = all.length := by omega
              clear hvo
              go_wp2
              go_ret2
              rw [HRES.out]
              exact ⟨_, Fo, rfl, bnext HBO.out HBX.out (Nat.le_refl _), hof, hnf, hlf⟩
        · go_wp2
          go_loopw [16, 17] (fun vo i17 wr => ∃ (i : Nat), i ≤ all.length ∧ i17 = .int .i64 i ∧ Hid (Below wo.heap.size wo wr) ∧ Hid (∃ F, Ow wr (dI (valTo os all i)) vo F ∧ F.Nodup ∧ ∀ g, g ∈ F → w.heap.size ≤ g)) (fun _ i17 _ => all.length - (intOf i17).toNat)
          case atStart => exact ⟨0, Nat.zero_le _, rfl, Lib.hid (below_alloc _ _), Lib.hid ⟨[], Ow_empty _ _ _ _, by simp, by simp⟩⟩
          case round =>
            obtain ⟨i, hi, rfl, HBX, HFO⟩ := hrel
            obtain ⟨wx, hwx⟩ : ∃ z, z = wr := ⟨_, rfl⟩
            subst hwx
            obtain ⟨Fo, hof, hnf, hlf⟩ := HFO.out
            obtain ⟨ao2, cv, hvo⟩ := hof.val
            have hrl := valTo_len os all i
            by_cases hil : i < all.length
            · have hil2 : (i : Int) < all.length := by omega
              have i2 := fun w' => i1 (i : Int) w' (by omega) hil2
              simp only [Int.toNat_natCast] at i2
              have hvx := HVA.out.below HBX.out
              have d0 := hvx.c0 i hil
              obtain ⟨ac, nc, d1, hds⟩ := hvx.c1 i hil
              have hcf := HALL.out.at hil
              obtain ⟨cc, hcc⟩ : ∃ x, x = nthCfg all i := ⟨_, rfl⟩
              rw [← hcc] at d0 d1 hds hcf
              have HCC := Lib.hid hcc
              have hP : 0 ≤ cc.pc ∧ cc.pc ≤ os.length := by simp [confOk, inRg] at hcf; omega
              have hrr := (regsOk_ok (R := R) (regs := cc.regs) (by simp only [confOk, Bool.and_eq_true] at hcf; exact hcf.2)).1
              have hr0 : 0 < cc.regs.length := by have := HR1.out; omega
              have hr1 : (0 : Int) < cc.regs.length := by omega
              obtain ⟨ho, _, pp0, pp1⟩ := HP.out wx (bnext HBP.out HBX.out (Nat.le_refl _))
              have g1 := hds.cell 0 hr0
              have i3 := fun w' => hds.ix tabI.under tabI.size nc 0 w' (by omega) (by omega)
              simp only [show ((0 : Int)).toNat = 0 from rfl] at i3
              have HHA := Lib.hid (l05Halts_c os cc.pc ao co w.heap.size wx ho pp1 hP.1 hP.2)
              clear hcc hcf hrr ho pp0 pp1 hvx hds hP
              cases hh : haltS os cc.pc
              · have HRT : Hid (valTo os all (i + 1) = valTo os all i) := Lib.hid (by rw [valTo, ← HCC.out, hh]; rfl)
                have HF7 := HFO
                rw [← HRT.out] at HF7
                rw [hh] at HHA
                clear hh hvo
                go_wp2_with fail
                refine HHA.out.mono ?_
                rintro e w6 ⟨rfl, rfl⟩
                go_wp2
                go_roundw
                case rel => first | exact ⟨i + 1, by omega, by go_num, HBX, HF7⟩ | ((repeat apply Exists.intro); refine ⟨?_, rfl⟩; exact ⟨i + 1, by omega, by go_num, HBX, HF7⟩)
                case measure => simp [intOf]; omega
              · have HRT : Hid (valTo os all (i + 1) = putS (valTo os all i) (nth cc.regs 0)) := Lib.hid (by rw [valTo, ← HCC.out, if_pos hh])
                rw [hh] at HHA
                have HPT := Lib.hid (l00Put_c Any ao2 cv (valTo os all i) (nth cc.regs 0) wx (by rw [hvo] at hof; exact hof.arg) (by omega))
                subst hvo
                clear hh
                go_wp2_with fail
                refine HHA.out.mono ?_
                rintro e w6 ⟨rfl, rfl⟩
                go_wp2_with fail
                refine HPT.out.mono ?_
                rintro e w7 ⟨v7, F7, rfl, hb7, ho7, hn7, hF7⟩
                have HB7 : Hid (Below wo.heap.size wo w7) := Lib.hid (bnext HBX.out hb7 (Nat.le_refl _))
                rw [← HRT.out] at ho7
                have HF8 : Hid (∃ F, Ow w7 (dI (valTo os all (i + 1))) v7 F ∧ F.Nodup ∧ ∀ g, g ∈ F → w.heap.size ≤ g) := Lib.hid ⟨F7, ho7, hn7, fun g hg => by have := hF7 g hg; have := HBX.out.size; omega⟩
                clear hb7 ho7 hn7 hF7
                go_wp2
                go_roundw
                case rel => first | exact ⟨i + 1, by omega, by go_num, HB7, HF8⟩ | ((repeat apply Exists.intro); refine ⟨?_, rfl⟩; exact ⟨i + 1, by omega, by go_num, HB7, HF8⟩)
                case measure => simp [intOf]; omega
            · obtain rfl : i = all.length := by omega
              clear hvo
              go_wp2
              go_ret2
              rw [HRES.out]
              exact ⟨_, Fo, rfl, bnext HBO.out HBX.out (Nat.le_refl _), hof, hnf, hlf⟩
end Go.Proofs.Ytncndnholheemaa
