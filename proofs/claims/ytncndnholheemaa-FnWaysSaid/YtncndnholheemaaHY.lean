/- The values with which a program can halt: the program's function. Written by mkhy.py. -/
import Derived.Test.YtncndnholheemaaHX
namespace Go.Proofs.Ytncndnholheemaa
open Go.RowKit

/-- 's[lo:hi]' of a list of rows of two cells. -/
theorem slice_row {P : Program} {T E : Nat} (hT : P.underlying T = some (.slice E)) (hE : (P.info? E).map (·.size) = some 2) (g n c lo hi : Nat) (hlo : lo ≤ hi) (hhi : hi ≤ c) (w' : World) :
    (Instr.slice T (.slice (some ⟨g, 0, none⟩) n c) (some (.int .i64 lo)) (some (.int .i64 hi)) none).run P w' = .ok (.slice (some ⟨g, if c = lo then 0 else lo * 2, none⟩) (hi - lo) (c - lo)) w' := by
  have hE' : ∃ info, P.info? E = some info ∧ info.size = 2 := by
    cases hh : P.info? E with
    | none => simp [hh] at hE
    | some info => exact ⟨info, rfl, by simpa [hh] using hE⟩
  obtain ⟨info, hi2, hs⟩ := hE'
  by_cases h1 : c = lo
  · have h2 : hi = lo := by omega
    subst h1 h2
    simp [Instr.slice, Instr.sliceBounds, Instr.sliceBound, run_underlying hT, asIntOf, sizeOf, typeInfo, hi2]
  · have hlc : lo < c := by omega
    simp [h1, Instr.slice, Instr.sliceBounds, Instr.sliceBound, run_underlying hT, asIntOf, sizeOf, typeInfo, hi2, hs, Addr.add_lit, hlo, hhi]
theorem rowValH {w : World} {B E k n : Nat} {v : Value} {vs : List Value} (h : w.ownsRow B E k v n vs) (hn : 0 < n) : ∃ g c, v = .slice (some ⟨g, 0, none⟩) n c := by
  rcases h.2 with ⟨_, h0⟩ | ⟨g, cap, cur, h1, _⟩
  · omega
  · exact ⟨g, cap, h1⟩
theorem rndTo_pos (os : List Ord) (regs : List Int) : ∀ n, (rndTo os regs n).2.2 = 0 → 0 < (rndTo os regs n).1.length
  | 0, _ => by simp [rndTo]
  | n + 1, h => by
    unfold rndTo at h ⊢
    split at h
    · rename_i h1
      rw [if_pos h1]
      split at h
      · rename_i h2
        rw [if_pos h2]
        obtain ⟨t, ht⟩ := expTo_pre _ _ _ _ h2
        have := rndTo_pos os regs n h1
        simp only [ht, List.length_append]; omega
      · exact absurd h (by decide)
    · exact absurd h (by decide)
theorem rnd_fall {os : List Ord} {regs : List Int} {k n fr i : Nat} {all : List Cfg} (h : rndTo os regs k = (all, fr, 0)) (hk : k < n) (hi : i ≤ all.length - fr) (h3 : (expTo os all fr i).2 = 3) : (rndTo os regs n).2.2 = 3 :=
  rndTo_fall hk (by rw [h]; exact hi) (by rw [h]; exact h3)
theorem rnd_next {os : List Ord} {regs : List Int} {k fr : Nat} {all cur : List Cfg} (h : rndTo os regs k = (all, fr, 0)) (h3 : expTo os all fr (all.length - fr) = (cur, 0)) : rndTo os regs (k + 1) = (cur, all.length, 0) := by
  have := rndTo_step (os := os) (regs := regs) (n := k) (by rw [h]) (by rw [h]; simp only; rw [h3])
  rw [h] at this
  simp only at this
  rw [h3] at this
  exact this
theorem VwC.sub {w : World} {S T : Nat → Prop} {g : Nat} {cs : List Cfg} (h : VwC w S g cs) (hs : ∀ k, S k → T k) : VwC w T g cs :=
  ⟨h.c0, fun i hi => by
    obtain ⟨a, c, h1, h2⟩ := h.c1 i hi
    exact ⟨a, c, h1, h2.move (fun _ _ _ => rfl) (fun k _ hk => hs k hk)⟩⟩
theorem halt_bad {R : Int} {os : List Ord} {regs : List Int} {steps : Int} (h : ¬ askRun R os regs steps = 0) : haltValuesS R os regs steps = ([], askRun R os regs steps) := by rw [haltValuesS, if_neg h]
theorem halt_err {R : Int} {os : List Ord} {regs : List Int} {n : Nat} (h : askRun R os regs n = 0) (h2 : (rndTo os regs n).2.2 = 3) : haltValuesS R os regs n = ([], 3) := by
  rw [haltValuesS, if_pos h, Int.toNat_natCast, if_neg (by rw [h2]; decide)]
theorem halt_fine {R : Int} {os : List Ord} {regs : List Int} {n : Nat} {all : List Cfg} {fr : Nat} (h : askRun R os regs n = 0) (h2 : rndTo os regs n = (all, fr, 0)) : haltValuesS R os regs n = (valTo os all all.length, 0) := by
  rw [haltValuesS, if_pos h, Int.toNat_natCast, h2]; rfl
set_option maxHeartbeats 8000000 in
set_option maxRecDepth 100000 in
theorem implHaltValues_d (R : Int) (os : List Ord) (regs : List Int) (steps : Int) {vo vr : Value} (w : World) (h1 : Rd Any w (dO os) vo) (h2 : Rd Any w (dI regs) vr) :
    Calls Try.prog 22 #[.agg #[.int .i64 R, vo], vr, .int .i64 steps] w (RetDC w (dI (haltValuesS R os regs steps).1) (haltValuesS R os regs steps).2) := by
  obtain ⟨ao, co, rfl, ho⟩ := Rd_O.1 h1
  obtain ⟨a, c, rfl, hx⟩ := Rd_I.1 h2
  obtain ⟨w0, hw0⟩ : ∃ wz, wz = w.alloc (.cells #[.int .i64 R, .slice ao os.length co] 52) := ⟨_, rfl⟩
  have hb0 : Below w.heap.size w w0 := by rw [hw0]; exact below_alloc _ _
  have hz0 : w0.heap.size = w.heap.size + 1 := by rw [hw0]; simp
  have p0 : w0.cell? ⟨w.heap.size, 0, none⟩ = some (.int .i64 R) := by rw [hw0]; simp [go_sem]
  have p1 : w0.cell? ⟨w.heap.size, 1, none⟩ = some (.slice ao os.length co) := by rw [hw0]; simp [go_sem]
  have HC := Lib.hid (regsCode_c R os steps ao co a c regs w0 (ho.below hb0) (hx.below hb0))
  have HP : Hid (∀ wx, Below w0.heap.size w0 wx → SlO Any wx ao os ∧ SlI Any wx a regs ∧ wx.cell? ⟨w.heap.size, 0, none⟩ = some (.int .i64 R) ∧ wx.cell? ⟨w.heap.size, 1, none⟩ = some (.slice ao os.length co)) := Lib.hid (fun wx hb => ⟨(ho.below hb0).below hb, (hx.below hb0).below hb, (bcell1 hb (by omega)).trans p0, (bcell1 hb (by omega)).trans p1⟩)
  have HB0 := Lib.hid hb0
  have HW0 := Lib.hid hw0
  have HZ0 := Lib.hid hz0
  clear h1 h2 ho hx hb0 hw0 hz0 p0 p1
  by_cases hask : askRun R os regs steps = 0
  rotate_left
  · have HR := Lib.hid (halt_bad hask)
    obtain ⟨code, hcd⟩ : ∃ x, x = askRun R os regs steps := ⟨_, rfl⟩
    rw [← hcd] at HC HR hask
    have hne : (code != 0) = true := by simpa using hask
    clear hask hcd
    go_enter Try.func22, Try.ntmps22
    go_wp2_with fail
    rw [← HW0.out]
    refine HC.out.mono ?_
    rintro e w1 ⟨rfl, hb1⟩
    have HB1 := Lib.hid (HB0.out.trans (hb1.mono (by have := HZ0.out; omega)))
    clear hb1
    go_wp2
    go_ret2
    rw [HR.out]
    exact RetDC.none _ _ _ HB1.out
  · obtain ⟨hvp, hrg, hs0, hs1⟩ := askRun_ok hask
    obtain ⟨n, rfl⟩ : ∃ n : Nat, steps = n := ⟨steps.toNat, by omega⟩
    have hn : n ≤ 200 := by omega
    have hR : 1 ≤ R ∧ R ≤ 3 := by simp [validProgS, inRg] at hvp; omega
    have hlr : (regs.length : Int) = R := (regsOk_ok hrg).1
    rw [hask] at HC
    obtain ⟨_, g0, o0, rfl⟩ : Any (blk a) ∧ ∃ g o, a = some ⟨g, o, none⟩ := (HP.out _ (Below.refl _ _)).2.1.ptr (by omega)
    obtain ⟨ad, had⟩ : ∃ ad : Addr, ad = ⟨g0, o0, none⟩ := ⟨_, rfl⟩
    rw [← had] at HC HP ⊢
    have HCL := Lib.hid (fun wx hb => clone_c Any ad c regs wx (HP.out wx hb).2.1 (by omega))
    have HASK := Lib.hid hask
    have HVP := Lib.hid hvp
    have HRG := Lib.hid hrg
    have HLR := Lib.hid hlr
    have HR1 := Lib.hid hR
    have HRK : Hid (∀ k, RndOk R os (rndTo os regs k)) := Lib.hid (fun k => rndTo_ok hvp hrg k)
    have HERR : Hid (∀ (a : Option Addr) (c : Nat) (w' : World), (rndTo os regs n).2.2 = 3 → Below w.heap.size w w' → RetDC w (dI (haltValuesS R os regs n).1) (haltValuesS R os regs n).2 (.returned (.tuple #[.slice a 0 c, .int .i64 3])) w') := Lib.hid (fun a c w' h hb => by rw [halt_err hask h]; exact RetDC.none _ _ _ hb)
    clear had hask hvp hrg hlr hR hs0 hs1
    go_enter Try.func22, Try.ntmps22
    go_wp2_with fail
    rw [← HW0.out]
    refine HC.out.mono ?_
    rintro e w1 ⟨rfl, hb1⟩
    have HB1 := Lib.hid hb1
    clear hb1
    go_wp2_with fail
    obtain ⟨wf, hwf⟩ : ∃ wz, wz = w1.alloc (.cells #[.func (.func 68) #[] #[]] 107) := ⟨_, rfl⟩
    rw [← hwf]
    have hbf : Below w1.heap.size w1 wf := by rw [hwf]; exact below_alloc _ _
    have f0 : wf.cell? ⟨w1.heap.size, 0, none⟩ = some (.func (.func 68) #[] #[]) := by rw [hwf]; simp [go_sem]
    have hzf : w1.heap.size < wf.heap.size := by rw [hwf]; simp
    have HBF := Lib.hid (bnext HB1.out hbf (Nat.le_refl _))
    clear hwf hbf
    refine (HCL.out wf HBF.out).mono ?_
    rintro e w2 ⟨v2, F2, rfl, hb2, ho2, hn2, hF2⟩
    obtain ⟨a2, c2, rfl⟩ := ho2.val
    have f2 := (bcell1 hb2 hzf).trans f0
    have hzf2 : w1.heap.size < w2.heap.size := Nat.lt_of_lt_of_le hzf hb2.size
    have HB2 := Lib.hid (bnext HBF.out hb2 (Nat.le_refl _))
    have HCF := Lib.hid (CfR.one (E := 68) (w := w2) (B := w2.heap.size) ⟨0, regs⟩ a2 c2 ho2.arg (Nat.le_refl _))
    have hz2 : w0.heap.size ≤ w2.heap.size := HB2.out.size
    have hbp : w.heap.size < w2.heap.size := by have := HZ0.out; omega
    have HBW : Hid (Below w.heap.size w w2) := Lib.hid (HB0.out.trans (HB2.out.mono (by have := HZ0.out; omega)))
    clear hb2 ho2 hn2 hF2 f0 hzf HCL
    go_wp2
    go_loopw [10, 11, 12] (fun v i11 i12 wr => ∃ (k fr : Nat) (all : List Cfg), k ≤ n ∧ i12 = .int .i64 k ∧ i11 = .int .i64 fr ∧ Hid (rndTo os regs k = (all, fr, 0)) ∧ Hid (Below w2.heap.size w2 wr) ∧ Hid (CfR 68 wr w2.heap.size v all)) (fun _ _ i12 _ => n - (intOf i12).toNat)
    case atStart => exact ⟨0, 0, [⟨0, regs⟩], Nat.zero_le _, rfl, rfl, Lib.hid rfl, Lib.hid (below_alloc _ _), HCF⟩
    case round =>
      obtain ⟨k, fr, all, hk, rfl, rfl, HRD, HBR, HCR⟩ := hrel
      obtain ⟨wo, hwo⟩ : ∃ z, z = wr := ⟨_, rfl⟩
      subst hwo
      have hrk := HRK.out k
      rw [HRD.out] at hrk
      have hfr : fr ≤ all.length := hrk.fr
      have h200 : all.length ≤ 200 := hrk.len
      have hpos : 0 < all.length := by have h := rndTo_pos os regs k (by rw [HRD.out]); rw [HRD.out] at h; exact h
      have HALL := Lib.hid hrk.ok
      obtain ⟨ga, ca, hva, hca⟩ := HCR.out.val hpos
      subst hva
      clear hrk
      by_cases hkn : k < n
      · have hkn2 : (k : Int) < n := by omega
        obtain ⟨m, hm⟩ : ∃ m, m = all.length - fr := ⟨_, rfl⟩
        obtain ⟨oS, hoS⟩ : ∃ x, x = if ca = fr then 0 else fr * 2 := ⟨_, rfl⟩
        obtain ⟨cS, hcS⟩ : ∃ x, x = ca - fr := ⟨_, rfl⟩
        have hsl : ∀ w', (Instr.slice 64 (.slice (some ⟨ga, 0, none⟩) all.length ca) (some (.int .i64 fr)) (some (.int .i64 all.length)) none).run Try.prog w' = .ok (.slice (some ⟨ga, oS, none⟩) m cS) w' := fun w' => by
          rw [slice_row tabConfigSM.under tabConfigSM.size ga all.length ca fr all.length hfr hca w', hm, hoS, hcS]
        have i1 := ix_of (P := Try.prog) tabConfigSM.under tabConfigSM.size (a := some ⟨ga, oS, none⟩) (n := m) (fun _ => ⟨ga, _, rfl⟩) cS
        have HIX : Hid (∀ (i : Nat) w', i < m → (Instr.indexAt 64 (.slice (some ⟨ga, oS, none⟩) m cS) (.int .i64 i)).run Try.prog w' = .ok (.pointer (some ⟨ga, (fr + i) * 2, none⟩)) w') := Lib.hid (fun i w' hi => by
          have h := i1 (i : Int) w' (by omega) (by omega)
          simp only [adr, blk, ofs, Int.toNat_natCast] at h
          rw [h, hoS, if_neg (by omega), Nat.add_mul])
        clear hoS hcS
        have HVW : Hid (VwC wo (fun x => x ∉ ob (.slice (some ⟨ga, 0, none⟩) all.length ca)) ga all) := Lib.hid (by
          have h := HCR.out.vw
          exact ⟨h.c0, fun i hi => by
            obtain ⟨a, c, h1, h2⟩ := h.c1 i hi
            exact ⟨a, c, h1, h2.move (fun _ _ _ => rfl) (fun k _ hk e => hk (by have := mem_ob.1 e; simpa [Value.ownBlock, eq_comm] using this))⟩⟩)
        have hm200 : m ≤ 200 := by omega
        have HM := Lib.hid hm
        clear i1 hm
        go_wp2
        go_loopw [10, 46] (fun v i46 wr => ∃ (i : Nat) (cur : List Cfg), i ≤ m ∧ i46 = .int .i64 i ∧ Hid (expTo os all fr i = (cur, 0)) ∧ Hid (Below w2.heap.size w2 wr) ∧ Hid (CfR 68 wr w2.heap.size v cur) ∧ Hid (VwC wr (fun x => x ∉ ob v) ga all)) (fun _ i46 _ => m - (intOf i46).toNat)
        case atStart => exact ⟨0, all, Nat.zero_le _, rfl, Lib.hid rfl, HBR, HCR, HVW⟩
        case round =>
          obtain ⟨i, cur, him, rfl, HEX, HBQ, HCQ, HVQ⟩ := hrel
          obtain ⟨wq, hwq⟩ : ∃ z, z = wr := ⟨_, rfl⟩
          subst hwq
          have hcl200 : cur.length ≤ 200 := by have h := expTo_len os all fr h200 i; rw [HEX.out] at h; exact h
          have hcpos : 0 < cur.length := by
            obtain ⟨t, ht⟩ := expTo_pre os all fr i (by rw [HEX.out])
            rw [HEX.out] at ht
            simp only at ht
            rw [ht, List.length_append]; omega
          have HAL : Hid (all.length ≤ cur.length) := Lib.hid (by
            obtain ⟨t, ht⟩ := expTo_pre os all fr i (by rw [HEX.out])
            rw [HEX.out] at ht
            simp only at ht
            rw [ht, List.length_append]; omega)
          by_cases hi : i < m
          · have hi2 : (i : Int) < m := by omega
            have i2 := fun w' => HIX.out i w' hi
            have hfi : fr + i < all.length := by have := HM.out; omega
            have d0 := HVQ.out.c0 (fr + i) hfi
            obtain ⟨ac, nc, d1, hds⟩ := HVQ.out.c1 (fr + i) hfi
            have hcf := HALL.out.at hfi
            have HLS : Hid ((nextS os (nthCfg all (fr + i)).pc (nthCfg all (fr + i)).regs).1.length ≤ 2) := Lib.hid (nextS_small _ _ _).1
            have HEB : Hid ((nextS os (nthCfg all (fr + i)).pc (nthCfg all (fr + i)).regs).2 = 3 → (rndTo os regs n).2.2 = 3) := Lib.hid (fun h => rnd_fall (i := i + 1) HRD.out hkn (by have := HM.out; omega) (expTo_stuck (by rw [h]; decide)))
            have HEM : Hid (200 < (addTo cur (nextS os (nthCfg all (fr + i)).pc (nthCfg all (fr + i)).regs).1 (nextS os (nthCfg all (fr + i)).pc (nthCfg all (fr + i)).regs).1.length).length → (rndTo os regs n).2.2 = 3) := Lib.hid (fun h => rnd_fall (i := i + 1) HRD.out hkn (by have := HM.out; omega) (expTo_many (by rw [HEX.out]; exact h)))
            have HES : Hid ((nextS os (nthCfg all (fr + i)).pc (nthCfg all (fr + i)).regs).2 = 0 → ¬ 200 < (addTo cur (nextS os (nthCfg all (fr + i)).pc (nthCfg all (fr + i)).regs).1 (nextS os (nthCfg all (fr + i)).pc (nthCfg all (fr + i)).regs).1.length).length → expTo os all fr (i + 1) = (addTo cur (nextS os (nthCfg all (fr + i)).pc (nthCfg all (fr + i)).regs).1 (nextS os (nthCfg all (fr + i)).pc (nthCfg all (fr + i)).regs).1.length, 0)) := Lib.hid (fun h h2 => by
              have h3 := expTo_step (os := os) (all := all) (fr := fr) (i := i) (by rw [HEX.out]) h (by rw [HEX.out]; exact h2)
              rw [HEX.out] at h3; exact h3)
            obtain ⟨cc, hcc⟩ : ∃ x, x = nthCfg all (fr + i) := ⟨_, rfl⟩
            rw [← hcc] at d0 d1 hds hcf HLS HEB HEM HES
            clear hcc
            have HBP : Hid (Below w0.heap.size w0 wq) := Lib.hid (bnext HB2.out HBQ.out (Nat.le_refl _))
            obtain ⟨ho, _, pp0, pp1⟩ := HP.out wq HBP.out
            have hz2q : w2.heap.size ≤ wq.heap.size := HBQ.out.size
            have hpl : w.heap.size < wq.heap.size := by omega
            have k0 := fun ob => (bcell1 (i := 0) (below_alloc wq ob) hpl).trans pp0
            have k1 := fun ob => (bcell1 (i := 1) (below_alloc wq ob) hpl).trans pp1
            have HNX := Lib.hid (next_c R ao co os cc.pc ac nc cc.regs (wq.alloc (.cells #[.int .i64 cc.pc, .slice ac cc.regs.length nc] 68)) (ho.below (below_alloc _ _)) (hds.below (below_alloc _ _)).any HVP.out hcf)
            clear ho hds hcf pp0 pp1
            go_wp2_with fail
            refine HNX.out.mono ?_
            rintro e w5 ⟨v5, F5, rfl, hb5, ho5, hn5, hF5⟩
            obtain ⟨L, hL⟩ : ∃ L, L = (nextS os cc.pc cc.regs).1 := ⟨_, rfl⟩
            rw [← hL] at HLS HEM HES ho5
            obtain ⟨al, cl, rfl, hcl⟩ := Rd_CS (Ow.rd _ _ _ ho5)
            have hb5q : Below wq.heap.size wq w5 := bnext (below_alloc wq _) hb5 (Nat.le_refl _)
            have HB5 : Hid (Below w2.heap.size w2 w5) := Lib.hid (bnext HBQ.out hb5q (Nat.le_refl _))
            have HC5 := Lib.hid (HCQ.out.below hb5q)
            have HV5 := Lib.hid (HVQ.out.below hb5q)
            have HF5 : Hid (∀ g, g ∈ F5 → wq.heap.size < g ∧ g < w5.heap.size) := Lib.hid (fun g hg => ⟨by have := hF5 g hg; (try simp at this); omega, Ow.lt _ _ _ ho5 g hg⟩)
            have HO5 := Lib.hid ho5
            have hL2 : L.length ≤ 2 := HLS.out
            clear hb5 hb5q ho5 hn5 hF5 hcl HNX hL k0 k1 d0 d1
            rcases nextS_code os cc.pc cc.regs with e0 | ⟨_, e3⟩
            rotate_left
            · have HE3 := Lib.hid (HEB.out e3)
              have b5 : ((nextS os cc.pc cc.regs).2 != 0) = true := by rw [e3]; rfl
              rw [e3]
              clear HEB HEM HES b5 e3
              go_wp2
              go_ret2
              exact HERR.out _ _ _ HE3.out (bnext HBW.out HB5.out (Nat.le_refl _))
            · have HE0 := Lib.hid e0
              rw [e0]
              clear e0
              go_wp2
              go_loopw [10, 61] (fun v i61 wr => ∃ (j : Nat) (cu : List Cfg), j ≤ L.length ∧ i61 = .int .i64 j ∧ Hid (cu = addTo cur L j) ∧ Hid (Below w2.heap.size w2 wr) ∧ Hid (CfR 68 wr w2.heap.size v cu) ∧ Hid (VwC wr (fun x => x ∉ ob v) ga all) ∧ Hid (Ow wr (dCS L) (.slice al L.length cl) F5) ∧ Hid (∀ g, g ∈ F5 → g ∉ ob v) ∧ Hid (w5.heap.size ≤ wr.heap.size)) (fun _ i61 _ => L.length - (intOf i61).toNat)
              case atStart => exact ⟨0, cur, Nat.zero_le _, rfl, Lib.hid rfl, HB5, HC5, HV5, HO5, Lib.hid (fun g hg e => by have := (HF5.out g hg).1; have := (HCQ.out.lt g e).2; omega), Lib.hid (Nat.le_refl _)⟩
              case round =>
                obtain ⟨j, cu, hj, rfl, HCU, HBZ, HCZ, HVZ, HOZ, HFZ, HZZ⟩ := hrel
                obtain ⟨wz, hwz⟩ : ∃ z, z = wr := ⟨_, rfl⟩
                subst hwz
                have hcu : cu.length ≤ 202 := by rw [HCU.out]; have := addTo_len cur L j; omega
                have hcuc : cur.length ≤ cu.length := by
                  obtain ⟨t, ht⟩ := addTo_pre cur L j
                  rw [HCU.out, ht, List.length_append]; omega
                have hcup : 0 < cu.length := by
                  obtain ⟨t, ht⟩ := addTo_pre cur L j
                  rw [HCU.out, ht, List.length_append]; omega
                obtain ⟨gc, cc2, hvc, _⟩ := HCZ.out.val hcup
                subst hvc
                by_cases hjl : j < L.length
                · have hj2 : (j : Int) < L.length := by omega
                  obtain ⟨_, _, ev, hcs⟩ := Rd_CS (Ow.rd _ _ _ HOZ.out)
                  cases ev
                  have i4 := ix_of (P := Try.prog) tabConfigSM.under tabConfigSM.size (a := al) (n := L.length) (fun h => hcs.ptr h) cl
                  have i5 := fun w' => i4 (j : Int) w' (by omega) hj2
                  simp only [Int.toNat_natCast] at i5
                  have d0 := hcs.c0 j hjl
                  obtain ⟨ad2, nd, d1, hds⟩ := hcs.c1 j hjl
                  obtain ⟨d, hd⟩ : ∃ d, d = nthCfg L j := ⟨_, rfl⟩
                  rw [← hd] at d0 d1 hds
                  have HDD := Lib.hid hd
                  obtain ⟨wb, hwb⟩ : ∃ wz2, wz2 = wz.alloc (.cells #[.int .i64 d.pc, .slice ad2 d.regs.length nd] 68) := ⟨_, rfl⟩
                  have hbb : Below wz.heap.size wz wb := by rw [hwb]; exact below_alloc _ _
                  have q0 : wb.cell? ⟨wz.heap.size, 0, none⟩ = some (.int .i64 d.pc) := by rw [hwb]; simp [go_sem]
                  have q1 : wb.cell? ⟨wz.heap.size, 1, none⟩ = some (.slice ad2 d.regs.length nd) := by rw [hwb]; simp [go_sem]
                  have hzb : wz.heap.size < wb.heap.size := by rw [hwb]; simp
                  have HSD : Hid (SlI (fun x => x ∉ ob (.slice (some ⟨gc, 0, none⟩) cu.length cc2)) wz ad2 d.regs) := Lib.hid (hds.move (fun _ _ _ => rfl) (fun k _ hk => HFZ.out k hk))
                  have f3 := (bcell1 hbb (by have := HBZ.out.size; omega)).trans ((bcell1 HBZ.out hzf2).trans f2)
                  have HCT := Lib.hid (containsFuncC_c 73 #[.pointer (some ⟨w1.heap.size, 0, none⟩), .pointer (some ⟨wz.heap.size, 0, none⟩)] (fun x => eqC x d) (callFunc_run Try.func73 (by kernel_rfl) rfl) _ gc cc2 cu wb (HCZ.out.below hbb).vw (by omega)
                    (Lib.hid fun w' i a n hi hb hs => foundC_c _ _ (nthCfg cu i) d a ad2 n nd w1.heap.size wz.heap.size w' hs ((HSD.out.below hbb).below hb) ((bcell1 hb (World.block_lt_of_cell? wb _ f3)).trans f3) ((bcell1 hb hzb).trans q0) ((bcell1 hb hzb).trans q1)))
                  have HWB := Lib.hid hwb
                  have HBB := Lib.hid hbb
                  clear hwb hbb hd hds hcs i4 f3
                  go_wp2_with fail
                  rw [← HWB.out]
                  refine HCT.out.mono ?_
                  rintro e w6 ⟨rfl, hb6⟩
                  have hbz6 : Below wz.heap.size wz w6 := bnext HBB.out hb6 (Nat.le_refl _)
                  have HB6 : Hid (Below w2.heap.size w2 w6) := Lib.hid (bnext HBZ.out hbz6 (Nat.le_refl _))
                  have HC6 := Lib.hid (HCZ.out.below hbz6)
                  have HV6 := Lib.hid (HVZ.out.below hbz6)
                  have HO6 := Lib.hid (HOZ.out.below hbz6)
                  have HS6 := Lib.hid (HSD.out.below hbz6)
                  have HZ6 : Hid (w5.heap.size ≤ w6.heap.size) := Lib.hid (Nat.le_trans HZZ.out hbz6.size)
                  have r0 := (bcell1 hb6 hzb).trans q0
                  have r1 := (bcell1 hb6 hzb).trans q1
                  clear hbz6 hb6 q0 q1 HCT d0 d1
                  cases hh : cu.any (fun x => eqC x d)
                  · have HAD : Hid (cu ++ [d] = addTo cur L (j + 1)) := Lib.hid (by rw [addTo, ← HCU.out, ← HDD.out, addC, hasC, hh]; rfl)
                    clear hh
                    go_wp2_with (at_builtin; refine app_cfr rfl _ _ 64 rfl tabConfigSM rfl (by decide) w2.heap.size _ cu rfl (HC6.out.below (below_alloc _ _)) w6.heap.size d ad2 nd rfl (by simp [go_sem]) (by simp [go_sem]) (HS6.out.below (below_alloc _ _)) (by omega) (by have := HB6.out.size; simp; omega) ?_)
                    intro v7 w7 hN
                    have HC7 := Lib.hid hN.row
                    rw [HAD.out] at HC7
                    have HB7 : Hid (Below w2.heap.size w2 w7) := Lib.hid ((HB6.out.alloc HB6.out.size _).trans (hN.chg.below (by have := HB6.out.size; simp; omega) (fun g hg => (HC6.out.lt g hg).1)))
                    have HV7 : Hid (VwC w7 (fun x => x ∉ ob v7) ga all) := Lib.hid (hN.vw (HV6.out.below (below_alloc _ _)) (Nat.le_trans HAL.out hcuc))
                    have HO7 : Hid (Ow w7 (dCS L) (.slice al L.length cl) F5) := Lib.hid (hN.chg.ow (HO6.out.below (below_alloc _ _)) HFZ.out)
                    have HF7 : Hid (∀ g, g ∈ F5 → g ∉ ob v7) := Lib.hid (fun g hg e => by
                      rcases hN.mem g e with h | h
                      · exact HFZ.out g hg h
                      · have h1 := (HF5.out g hg).2
                        have h2 := HZ6.out
                        simp at h
                        omega)
                    have HZ7 : Hid (w5.heap.size ≤ w7.heap.size) := Lib.hid (by have := hN.chg.size; simp at this; have := HZ6.out; omega)
                    clear hN
                    go_wp2
                    go_roundw
                    case rel => first | exact ⟨j + 1, _, by omega, by go_num, Lib.hid rfl, HB7, HC7, HV7, HO7, HF7, HZ7⟩ | ((repeat apply Exists.intro); refine ⟨?_, rfl⟩; exact ⟨j + 1, _, by omega, by go_num, Lib.hid rfl, HB7, HC7, HV7, HO7, HF7, HZ7⟩)
                    case measure => simp [intOf]; omega
                  · have HAD : Hid (cu = addTo cur L (j + 1)) := Lib.hid (by rw [addTo, ← HCU.out, ← HDD.out, addC, hasC, hh]; rfl)
                    clear hh
                    go_wp2
                    go_roundw
                    case rel => first | exact ⟨j + 1, cu, by omega, by go_num, HAD, HB6, HC6, HV6, HO6, HFZ, HZ6⟩ | ((repeat apply Exists.intro); refine ⟨?_, rfl⟩; exact ⟨j + 1, cu, by omega, by go_num, HAD, HB6, HC6, HV6, HO6, HFZ, HZ6⟩)
                    case measure => simp [intOf]; omega
                · obtain rfl : j = L.length := by omega
                  by_cases h3 : 200 < cu.length
                  · have HE3 := Lib.hid (HEM.out (by rw [← HCU.out]; exact h3))
                    have b6 : (200 : Int) < cu.length := by omega
                    go_wp2
                    go_ret2
                    exact HERR.out _ _ _ HE3.out (bnext HBW.out HBZ.out (Nat.le_refl _))
                  · have HE4 : Hid (expTo os all fr (i + 1) = (cu, 0)) := Lib.hid (by
                      have h := HES.out HE0.out (by rw [← HCU.out]; exact h3)
                      rw [← HCU.out] at h; exact h)
                    have b6 : (cu.length : Int) ≤ 200 := by omega
                    go_wp2
                    go_roundw
                    case rel => first | exact ⟨i + 1, cu, by omega, by go_num, HE4, HBZ, HCZ, HVZ⟩ | ((repeat apply Exists.intro); refine ⟨?_, rfl⟩; exact ⟨i + 1, cu, by omega, by go_num, HE4, HBZ, HCZ, HVZ⟩)
                    case measure => simp [intOf]; omega
          · obtain rfl : i = m := by omega
            have HRN : Hid (rndTo os regs (k + 1) = (cur, all.length, 0)) := Lib.hid (rnd_next HRD.out (by rw [← HM.out]; exact HEX.out))
            go_wp2
            go_roundw
            case rel => first | exact ⟨k + 1, all.length, cur, by omega, by go_num, rfl, HRN, HBQ, HCQ⟩ | ((repeat apply Exists.intro); refine ⟨?_, rfl⟩; exact ⟨k + 1, all.length, cur, by omega, by go_num, rfl, HRN, HBQ, HCQ⟩)
            case measure => simp [intOf]; omega
      · obtain rfl : k = n := by omega
        have HRES := Lib.hid (halt_fine HASK.out HRD.out)
        have HVA := Lib.hid HCR.out.vw
        have i1 := ix_of (P := Try.prog) tabConfigSM.under tabConfigSM.size (a := some ⟨ga, 0, none⟩) (n := all.length) (fun _ => ⟨ga, _, rfl⟩) ca
        simp only [adr, blk, ofs, Nat.zero_add] at i1
        have hpl : w.heap.size < wo.heap.size := by have := HBR.out.size; omega
        have HBP : Hid (Below w0.heap.size w0 wo) := Lib.hid (bnext HB2.out HBR.out (Nat.le_refl _))
        have HBO : Hid (Below w.heap.size w wo) := Lib.hid (bnext HBW.out HBR.out (Nat.le_refl _))
        clear HERR HRK
        go_wp2
        go_loopw [20, 82] (fun vo i82 wr => ∃ (i : Nat), i ≤ all.length ∧ i82 = .int .i64 i ∧ Hid (Below wo.heap.size wo wr) ∧ Hid (Bld 2 wr wo.heap.size vo ((rawTo os all i).map (.int .i64))) ∧ Hid (∃ g c, vo = .slice (some ⟨g, 0, none⟩) (rawTo os all i).length c)) (fun _ i82 _ => all.length - (intOf i82).toNat)
        case atStart => exact ⟨0, Nat.zero_le _, rfl, Lib.hid (below_alloc _ _), Lib.hid (Bld.empty 2 wo wo.heap.size (Nat.le_refl _)), Lib.hid ⟨_, _, rfl⟩⟩
        case round =>
          obtain ⟨i, hi, rfl, HBX, HBL, HSO⟩ := hrel
          obtain ⟨wx, hwx⟩ : ∃ z, z = wr := ⟨_, rfl⟩
          subst hwx
          have hrl := rawTo_len os all i
          by_cases hil : i < all.length
          · have hil2 : (i : Int) < all.length := by omega
            have i2 := fun w' => i1 (i : Int) w' (by omega) hil2
            simp only [Int.toNat_natCast] at i2
            have hvx := HVA.out.below HBX.out
            have d0 := hvx.c0 i hil
            obtain ⟨ac, nc, d1, hds⟩ := hvx.c1 i hil
            have hcf := HALL.out.at hil
            obtain ⟨cc, hcc⟩ : ∃ x, x = nthCfg all i := ⟨_, rfl⟩
            rw [← hcc] at d0 d1 hds hcf
            have HCC := Lib.hid hcc
            have hP : 0 ≤ cc.pc ∧ cc.pc ≤ os.length := by simp [confOk, inRg] at hcf; omega
            have hrr := (regsOk_ok (R := R) (regs := cc.regs) (by simp only [confOk, Bool.and_eq_true] at hcf; exact hcf.2)).1
            have hr0 : 0 < cc.regs.length := by have := HR1.out; omega
            have hr1 : (0 : Int) < cc.regs.length := by omega
            obtain ⟨ho, _, pp0, pp1⟩ := HP.out wx (bnext HBP.out HBX.out (Nat.le_refl _))
            have hpx : w.heap.size < wx.heap.size := by have := HBX.out.size; omega
            have k0 := fun ob => (bcell1 (i := 0) (below_alloc wx ob) hpx).trans pp0
            have k1 := fun ob => (bcell1 (i := 1) (below_alloc wx ob) hpx).trans pp1
            have g1 := hds.cell 0 hr0
            have i3 := fun w' => hds.ix tabI.under tabI.size nc 0 w' (by omega) (by omega)
            simp only [show ((0 : Int)).toNat = 0 from rfl] at i3
            obtain ⟨wb, hwb⟩ : ∃ wz2, wz2 = wx.alloc (.cells #[.int .i64 cc.pc, .slice ac cc.regs.length nc] 68) := ⟨_, rfl⟩
            have hbb : Below wx.heap.size wx wb := by rw [hwb]; exact below_alloc _ _
            have q1 : wb.cell? ⟨wx.heap.size, 1, none⟩ = some (.slice ac cc.regs.length nc) := by rw [hwb]; simp [go_sem]
            have hzb : wx.heap.size < wb.heap.size := by rw [hwb]; simp
            have HHA := Lib.hid (halts_c R ao co os cc.pc (.slice ac cc.regs.length nc) wb (ho.below hbb) hP.1 hP.2)
            have gb := (hbb.cell (World.block_lt_of_cell? wx _ g1)).trans g1
            have HWB := Lib.hid hwb
            have HBB := Lib.hid hbb
            clear hwb hbb hcc hcf hrr ho pp0 pp1 hvx hds g1 hP
            go_wp2_with fail
            rw [← HWB.out]
            refine HHA.out.mono ?_
            rintro e w6 ⟨rfl, hb6⟩
            have HB6 : Hid (Below wo.heap.size wo w6) := Lib.hid (bnext HBX.out (bnext HBB.out hb6 (Nat.le_refl _)) (Nat.le_refl _))
            have HL6 := Lib.hid (HBL.out.below (bnext HBB.out hb6 (Nat.le_refl _)))
            have r1 := (bcell1 hb6 hzb).trans q1
            have r2 := (hb6.cell (World.block_lt_of_cell? wb _ gb)).trans gb
            clear hb6 q1 gb HHA
            cases hh : haltS os cc.pc
            · have HRT : Hid (rawTo os all (i + 1) = rawTo os all i) := Lib.hid (by rw [rawTo, ← HCC.out, hh]; rfl)
              have HL7 := HL6
              rw [← HRT.out] at HL7
              have HS7 := HSO
              rw [← HRT.out] at HS7
              clear hh
              go_wp2
              go_roundw
              case rel => first | exact ⟨i + 1, by omega, by go_num, HB6, HL7, HS7⟩ | ((repeat apply Exists.intro); refine ⟨?_, rfl⟩; exact ⟨i + 1, by omega, by go_num, HB6, HL7, HS7⟩)
              case measure => simp [intOf]; omega
            · have HRT : Hid (rawTo os all (i + 1) = rawTo os all i ++ [nth cc.regs 0]) := Lib.hid (by rw [rawTo, ← HCC.out, if_pos hh])
              clear hh
              obtain ⟨raw, hraw⟩ : ∃ r, r = rawTo os all i := ⟨_, rfl⟩
              rw [← hraw] at HL6 HRT hrl
              have hr200 : raw.length ≤ 200 := by omega
              go_wp2_with (at_builtin; refine app_one rfl _ _ 24 rfl tabI rfl (by decide) wo.heap.size _ (raw.map (.int .i64)) rfl (HL6.out.below (below_alloc _ _)) _ (.int .i64 (nth cc.regs 0)) rfl rfl (by simp [go_sem]) (by simp; omega) (by have := HB6.out.size; simp; omega) ?_)
              intro v7 w7 hbl7 hb7
              have hbl8 : Bld 2 w7 wo.heap.size v7 ((raw ++ [nth cc.regs 0]).map (.int .i64)) := by
                have h := hbl7
                rw [← hraw] at h
                simpa using h
              obtain ⟨g7, c7, hv7⟩ := rowValH (n := (raw ++ [nth cc.regs 0]).length) (vs := (raw ++ [nth cc.regs 0]).map (.int .i64)) (by have h := hbl8; unfold Bld at h; simpa using h) (by simp)
              have HB7 : Hid (Below wo.heap.size wo w7) := Lib.hid ((HB6.out.alloc HB6.out.size _).trans hb7)
              have HL7 := Lib.hid hbl8
              rw [← HRT.out] at HL7 hv7
              have HS7 : Hid (∃ g c, v7 = .slice (some ⟨g, 0, none⟩) (rawTo os all (i + 1)).length c) := Lib.hid ⟨g7, c7, hv7⟩
              clear hbl7 hb7 hbl8 hv7 hraw
              go_wp2
              go_roundw
              case rel => first | exact ⟨i + 1, by omega, by go_num, HB7, HL7, HS7⟩ | ((repeat apply Exists.intro); refine ⟨?_, rfl⟩; exact ⟨i + 1, by omega, by go_num, HB7, HL7, HS7⟩)
              case measure => simp [intOf]; omega
          · obtain rfl : i = all.length := by omega
            obtain ⟨gs, csl, hvs⟩ := HSO.out
            subst hvs
            have HST := Lib.hid (sorted_c wo.heap.size gs csl (rawTo os all all.length) wx HBL.out (by omega) HBX.out.size)
            go_wp2_with fail
            refine HST.out.mono ?_
            rintro e w7 ⟨v7, F7, rfl, hb7, ho7, hn7, hF7⟩
            have HB7 : Hid (Below w.heap.size w w7) := Lib.hid (bnext HBO.out (HBX.out.trans hb7) (Nat.le_refl _))
            have HO7 := Lib.hid ho7
            have HF7 := Lib.hid hF7
            have hzo := HBO.out.size
            clear hb7 ho7 hF7
            go_wp2
            go_ret2
            rw [HRES.out]
            exact ⟨v7, F7, rfl, HB7.out, by rw [← sorted_vals]; exact HO7.out, hn7, fun g hg => by have := HF7.out g hg; omega⟩
end Go.Proofs.Ytncndnholheemaa
