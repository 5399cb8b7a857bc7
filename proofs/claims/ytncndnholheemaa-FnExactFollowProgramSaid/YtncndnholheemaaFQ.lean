/- The choices by which a cell follows a program: the program's FollowProgram, whole. -/
import Derived.Test.YtncndnholheemaaFP
namespace Go.Proofs.Ytncndnholheemaa
open Go.RowKit

/-- What the list of choices keeps while a program runs. -/
def FolI (E : TypeId) (w0 : World) (bx B : Nat) (G0 : List Nat) (R : Nat) (os : List Ord) (mode : Int) (cs : List Cfg) (G : List Nat) (wx : World) : Prop :=
  ∃ v G1, G = bx :: G1 ∧ FolS E w0 wx bx B G0 (folL R os mode cs) v G1
theorem FolS.chg2 {E : TypeId} {wx wr w' : World} {bx B : Nat} {G0 : List Nat} {L : List (List Int)} {v : Value} {G F : List Nat} (h : FolS E wx wr bx B G0 L v G) (hc : Chg F wr w') (hF : ∀ g, g ∈ F → g ∉ bx :: G ∧ wx.heap.size ≤ g) : FolS E wx w' bx B G0 L v G := by
  have hl : bx < wr.heap.size := Nat.lt_of_lt_of_le h.hx h.chg.size
  have hb : bx ∉ F := fun e => (hF bx e).1 (by simp)
  exact ⟨(hc.cell hl hb 0).trans h.cell, (hc.frozen hl hb 0).trans h.free, h.lst.keep hc (fun g hg e => (hF g e).1 (by simp [hg])), h.chg.compG hc (fun g hg => .inr (hF g hg).2), h.new, h.hx, h.nx⟩
theorem FolI.keeps (E : TypeId) (w0 : World) (bx B : Nat) (G0 : List Nat) (R : Nat) (os : List Ord) (mode : Int) : Keeps w0.heap.size (FolI E w0 bx B G0 R os mode) := by
  refine ⟨fun cs G wa wb F hi hc hF => ?_, fun cs G wa hi g hg => ?_⟩
  · obtain ⟨v, G1, rfl, hs⟩ := hi
    exact ⟨v, G1, rfl, hs.chg2 hc hF⟩
  · obtain ⟨v, G1, rfl, hs⟩ := hi
    rcases List.mem_cons.1 hg with rfl | hg
    · exact Nat.lt_of_lt_of_le hs.hx hs.chg.size
    · exact (hs.lst.lt g hg).2
theorem FolI.ret {E : TypeId} {w0 wx w : World} {bx : Nat} {G0 : List Nat} {R : Nat} {os : List Ord} {mode : Int} {cs : List Cfg} {G : List Nat} (h : FolI E w0 bx w.heap.size G0 R os mode cs G wx) (hb : Below w.heap.size w wx) (hl : (folL R os mode cs).length ≤ maxLen) :
    ∃ v, wx.cell? ⟨bx, 0, none⟩ = some v ∧ ∀ w', Below wx.heap.size wx w' → RetDC w (dII (folL R os mode cs)) 0 (.returned (.tuple #[v, .int .i64 0])) w' := by
  obtain ⟨v, G1, rfl, hs⟩ := h
  refine ⟨v, hs.cell, fun w' hw => ?_⟩
  obtain ⟨G2, ho, hn, hsub⟩ := hs.lst.ow (by omega) hl
  exact ⟨v, G2, rfl, bnext hb hw (Nat.le_refl _), ho.below hw, hn, fun g hg => (hs.lst.lt g (hsub g hg)).1⟩
theorem follow1_c (R : Int) (ao : Option Addr) (co : Nat) (os : List Ord) (a : Option Addr) (c : Nat) (regs : List Int) (steps : Int) (p q r : Nat) (w : World) (ho : SlO Any w ao os) (hx : SlI Any w a regs) (hp0 : w.cell? ⟨p, 0, none⟩ = some (.int .i64 R)) (hp1 : w.cell? ⟨p, 1, none⟩ = some (.slice ao os.length co)) (hq : w.cell? ⟨q, 0, none⟩ = some (.slice a regs.length c)) (hr : w.cell? ⟨r, 0, none⟩ = some (.int .i64 steps)) (hv : validProgS R os = true) :
    Calls Try.prog 90 #[.pointer (some ⟨p, 0, none⟩), .pointer (some ⟨q, 0, none⟩), .pointer (some ⟨r, 0, none⟩)] w (RetV w (.bool (regsOk R regs && inRg steps 0 200))) := by
  have HC := Lib.hid (regsCode_c R os steps ao co a c regs w ho hx)
  have HE : Hid ((askRun R os regs steps == 0) = (regsOk R regs && inRg steps 0 200)) := Lib.hid (by
    rw [askRun, if_pos hv]
    cases regsOk R regs <;> cases inRg steps 0 200 <;> simp)
  clear ho hx hv
  go_enter Try.func90, Try.ntmps90
  go_wp2_with fail
  refine HC.out.mono ?_
  rintro e w1 ⟨rfl, hb⟩
  go_wp2
  go_ret
  exact ⟨ret_bool HE.out, hb⟩
set_option maxHeartbeats 4000000 in
theorem implFollowProgram_d (R : Int) (os : List Ord) (mode : Int) (regs : List Int) (steps : Int) {vo vr : Value} {F F1 : List Nat} (w : World) (h1 : Ow w (dO os) vo F) (h2 : Ow w (dI regs) vr F1) :
    Calls Try.prog 36 #[.agg #[.int .i64 R, vo], .int .i64 mode, vr, .int .i64 steps] w (RetDC w (dII (followS R os mode regs steps).1) (followS R os mode regs steps).2) := by
  obtain ⟨ao, co, rfl, hc, ho⟩ := h1.capO
  obtain ⟨a, c, rfl⟩ := h2.val
  have hx := h2.arg
  obtain ⟨w0, hw0⟩ : ∃ wz, wz = (((w.alloc (.cells #[.int .i64 R, .slice ao os.length co] 52)).alloc (.cells #[.int .i64 mode] 2)).alloc (.cells #[.slice a regs.length c] 24)).alloc (.cells #[.int .i64 steps] 2) := ⟨_, rfl⟩
  have hb0 : Below w.heap.size w w0 := by rw [hw0]; exact ((((Below.refl _ _).alloc (Nat.le_refl _) _).alloc (by simp) _).alloc (by simp; omega) _).alloc (by simp; omega) _
  have hz0 : w0.heap.size = w.heap.size + 4 := by rw [hw0]; simp
  have p0 : w0.cell? ⟨w.heap.size, 0, none⟩ = some (.int .i64 R) := by rw [hw0]; simp [go_sem]
  have p1 : w0.cell? ⟨w.heap.size, 1, none⟩ = some (.slice ao os.length co) := by rw [hw0]; simp [go_sem]
  have m0 : w0.cell? ⟨w.heap.size + 1, 0, none⟩ = some (.int .i64 mode) := by rw [hw0]; simp [go_sem]
  have r0 : w0.cell? ⟨w.heap.size + 2, 0, none⟩ = some (.slice a regs.length c) := by rw [hw0]; simp [go_sem]
  have s0 : w0.cell? ⟨w.heap.size + 3, 0, none⟩ = some (.int .i64 steps) := by rw [hw0]; simp [go_sem]
  have HM := Lib.hid (modeCode_c R ao co os mode 90 #[.pointer (some ⟨w.heap.size, 0, none⟩), .pointer (some ⟨w.heap.size + 2, 0, none⟩), .pointer (some ⟨w.heap.size + 3, 0, none⟩)] (regsOk R regs && inRg steps 0 200) w0 (ho.below hb0) hc (callFunc_run Try.func90 (by kernel_rfl) rfl)
    (Lib.hid fun wx hb hv _ => follow1_c R ao co os a c regs steps w.heap.size (w.heap.size + 2) (w.heap.size + 3) wx ((ho.below hb0).below hb) ((hx.below hb0).below hb) ((bcell1 hb (by omega)).trans p0) ((bcell1 hb (by omega)).trans p1) ((bcell1 hb (by omega)).trans r0) ((bcell1 hb (by omega)).trans s0) hv))
  have HO := Lib.hid ho
  have HX := Lib.hid hx
  have HB0 := Lib.hid hb0
  clear h1 h2 ho hx hb0
  by_cases hcode : modeCodeS R os mode (regsOk R regs && inRg steps 0 200) = 0
  · have hvp : validProgS R os = true := by
      unfold modeCodeS at hcode
      split at hcode
      · assumption
      · exact absurd hcode (by decide)
    obtain ⟨K, rfl, hpg, hm1, hm2, hri, _, _⟩ := modeCode_zero hcode
    have hrg : regsOk K regs = true := by simp only [Bool.and_eq_true] at hri; exact hri.1
    have hst : 0 ≤ steps ∧ steps ≤ 200 := by simp [inRg] at hri; omega
    obtain ⟨n, rfl⟩ : ∃ n : Nat, steps = n := ⟨steps.toNat, by omega⟩
    have hres : followS K os mode regs n = (if (runC os n ⟨0, regs⟩).2 = 0 then (folL K os mode (runC os n ⟨0, regs⟩).1.dropLast, 0) else ([], (runC os n ⟨0, regs⟩).2)) := by unfold followS; rw [if_pos hcode]; rfl
    obtain ⟨LL, CC, hLC⟩ : ∃ LL CC, followS K os mode regs n = (LL, CC) := ⟨_, _, rfl⟩
    rw [hLC] at hres ⊢
    have HRES := Lib.hid hres
    rw [hcode] at HM
    have hlr := (regsOk_ok hrg).1
    obtain ⟨ad, rfl⟩ := HX.out.addr (by have := hpg.r1; omega)
    have HBU := Lib.hid (fun wx (hb : Below w.heap.size w wx) => build_c K ao co os mode wx (HO.out.below hb) hc hpg ⟨hm1, hm2⟩)
    have HPG := Lib.hid hpg
    have HMM := Lib.hid (And.intro hm1 hm2)
    have HRG := Lib.hid hrg
    have HST := Lib.hid hst
    have HVP := Lib.hid hvp
    have HZ0 := Lib.hid hz0
    have HW0 := Lib.hid hw0
    clear hw0 hz0 hcode hres hLC hpg hri hrg hst hvp hlr hm1 hm2
    go_enter Try.func36, Try.ntmps36
    go_wp2_with fail
    rw [← HW0.out]
    refine HM.out.mono ?_
    rintro e w1 ⟨rfl, hb1⟩
    have q0 := (bcell1 hb1 (by have := HZ0.out; omega)).trans p0
    have q1 := (bcell1 hb1 (by have := HZ0.out; omega)).trans p1
    have n0 := (bcell1 hb1 (by have := HZ0.out; omega)).trans m0
    have u0 := (bcell1 hb1 (by have := HZ0.out; omega)).trans r0
    have v0 := (bcell1 hb1 (by have := HZ0.out; omega)).trans s0
    have HB1 := Lib.hid (HB0.out.trans (hb1.mono (by have := HZ0.out; omega)))
    have HZ1 : Hid (w.heap.size + 4 ≤ w1.heap.size) := Lib.hid (by have := hb1.size; have := HZ0.out; omega)
    clear hb1 HM p0 p1 m0 r0 s0
    go_wp2_with fail
    refine (HBU.out _ HB1.out).mono ?_
    rintro e w2 ⟨gb, v2, G2, vf, Gf, rfl, hbst, hb2⟩
    have HBS := Lib.hid hbst
    have HB2 := Lib.hid (bnext HB1.out hb2 (Nat.le_refl _))
    have hz2 : w1.heap.size ≤ w2.heap.size := hb2.size
    have a0 := (bcell1 hb2 (by have := HZ1.out; omega)).trans q0
    have a1 := (bcell1 hb2 (by have := HZ1.out; omega)).trans q1
    have c0 := (bcell1 hb2 (by have := HZ1.out; omega)).trans n0
    have d0 := (bcell1 hb2 (by have := HZ1.out; omega)).trans u0
    have e0 := (bcell1 hb2 (by have := HZ1.out; omega)).trans v0
    have HZ2 : Hid (w.heap.size + 4 ≤ w2.heap.size) := Lib.hid (by have := HZ1.out; omega)
    clear hb2 hbst q0 q1 n0 u0 v0 hz2
    have hlp : w.heap.size < w2.heap.size := by have := HZ2.out; omega
    have hlq : w.heap.size + 1 + 1 < w2.heap.size := by have := HZ2.out; omega
    have hlr : w.heap.size + 1 + 1 + 1 < w2.heap.size := by have := HZ2.out; omega
    have k0 := fun O1 O2 O3 => (bcell1 (i := 0) (below_al (below_al (below_alloc w2 O1) O2) O3) hlp).trans a0
    have k1 := fun O1 O2 O3 => (bcell1 (i := 1) (below_al (below_al (below_alloc w2 O1) O2) O3) hlp).trans a1
    have k2 := fun O1 O2 O3 => (bcell1 (i := 0) (below_al (below_al (below_alloc w2 O1) O2) O3) hlq).trans d0
    have k3 := fun O1 O2 O3 => (bcell1 (i := 0) (below_al (below_al (below_alloc w2 O1) O2) O3) hlr).trans e0
    go_wp2_with fail
    obtain ⟨wD, hwD⟩ : ∃ wz, wz = ((w2.alloc (.cells #[] 24)).alloc (.cells #[.pointer (some ⟨gb, 0, none⟩)] 129)).alloc (.cells #[.slice (some ⟨w2.heap.size, 0, none⟩) 0 0] 29) := ⟨_, rfl⟩
    rw [← hwD]
    clear k0 k1 k2 k3
    have hbD : Below w2.heap.size w2 wD := by rw [hwD]; exact below_al (below_al (below_alloc w2 _) _) _
    have hzD : wD.heap.size = w2.heap.size + 3 := by rw [hwD]; simp
    have x0 : wD.cell? ⟨w2.heap.size + 2, 0, none⟩ = some (.slice (some ⟨w2.heap.size, 0, none⟩) 0 0) := by rw [hwD]; simp [go_sem]
    have y0 : wD.frozen? ⟨w2.heap.size + 2, 0, none⟩ = false := by rw [hwD]; simp [go_sem]
    have b0 : wD.cell? ⟨w2.heap.size + 1, 0, none⟩ = some (.pointer (some ⟨gb, 0, none⟩)) := by rw [hwD]; simp [go_sem]
    have hlst : Lst 24 1 wD w.heap.size (.slice (some ⟨w2.heap.size, 0, none⟩) 0 0) 0 [] [w2.heap.size] := by
      rw [hwD]
      exact ((Lst.made 24 1 w2 w.heap.size HB2.out.size).below (below_alloc _ _)).below (below_alloc _ _)
    have hvb := HBS.out.mr.lst.val
    obtain ⟨_, ar, cr, rfl⟩ := hvb
    obtain ⟨_, af, cf, rfl⟩ := HBS.out.fl.val
    have hlen : (firstTo K os mode (kindsN K os mode) os.length).length ≤ maxLen := by rw [firstTo_len]; have := HPG.out.n6; unfold maxLen; omega
    obtain ⟨Gq, hoq, _, _⟩ := HBS.out.fl.ow (by omega) hlen
    have hsf : SlI Any w2 af (firstTo K os mode (kindsN K os mode) os.length) := Ow.arg hoq
    have hgb : gb < w2.heap.size := HBS.out.mr.hg.2
    have HBZ : Hid (∀ wz, Chg [w2.heap.size + 2, w2.heap.size] wD wz → Below w2.heap.size w2 wz) := Lib.hid (fun wz h => hbD.trans (h.below (by omega) (fun g hg => by simp at hg; omega)))
    have HRO : Hid (∀ wz, Chg [w2.heap.size + 2, w2.heap.size] wD wz → FolR K ao co os mode w.heap.size (w.heap.size + 1) (w2.heap.size + 1) gb ar af (rulesS K os mode).length cr cf (firstTo K os mode (kindsN K os mode) os.length) wz) := Lib.hid (fun wz h => by
      have hb := HBZ.out wz h
      have hz := HZ2.out
      exact ⟨(bcell1 hb (by omega)).trans a0, (bcell1 hb (by omega)).trans a1, HO.out.below (bnext HB2.out hb (Nat.le_refl _)), (bcell1 hb (by omega)).trans c0, (h.cell (by omega) (by simp) 0).trans b0, (bcell1 hb hgb).trans HBS.out.mr.c1, (bcell1 hb hgb).trans HBS.out.c2, hsf.below hb⟩)
    have hS : FolS 24 wD wD (w2.heap.size + 2) w.heap.size [w2.heap.size] (folL K os mode []) (.slice (some ⟨w2.heap.size, 0, none⟩) 0 0) [w2.heap.size] := ⟨x0, y0, by simpa [folL] using hlst, Chg.refl _ _, fun g hg => .inl hg, by omega, by simp⟩
    have hB : w.heap.size ≤ wD.heap.size := by have := HB2.out.size; omega
    have HRUN := Lib.hid (run_g (FolI 24 wD (w2.heap.size + 2) w.heap.size [w2.heap.size] K os mode) (.pointer (some ⟨w.heap.size, 0, none⟩)) (.pointer (some ⟨w.heap.size + 1, 0, none⟩)) (.pointer (some ⟨w2.heap.size + 1, 0, none⟩)) (.pointer (some ⟨w2.heap.size + 2, 0, none⟩)) K ao co os ad c regs n [w2.heap.size + 2, w2.heap.size] wD
      (FolI.keeps _ _ _ _ _ _ _ _) ⟨_, _, rfl, hS⟩ (fun wx h => HO.out.below (bnext HB2.out (HBZ.out wx h) (Nat.le_refl _))) (HX.out.below (bnext HB2.out hbD (Nat.le_refl _))) HVP.out HRG.out (by have := HST.out; omega)
      (fun cs G wx cfg ax cx hi hlc hzx hxx hcf hh => by
        obtain ⟨v, G1, rfl, hs⟩ := hi
        refine (fol_c K ao co os mode w.heap.size (w.heap.size + 1) (w2.heap.size + 1) gb (w2.heap.size + 2) w.heap.size ar af cr cf [w2.heap.size] (folL K os mode cs) v G1 cfg ax cx wD wx HPG.out hs (by omega) (by have := folL_len K os mode cs; omega) HRO.out hxx hcf hh HMM.out).mono ?_
        rintro e w' ⟨rfl, v', G', h1, h2, h3⟩
        refine ⟨rfl, (w2.heap.size + 2) :: G', ⟨v', G', rfl, by rw [folL_snoc]; exact h1⟩, h2, fun g hg => ?_⟩
        rcases List.mem_cons.1 hg with rfl | hg
        · exact .inl (by simp)
        · rcases h3 g hg with e | e
          · exact .inl (by simp [e])
          · exact .inr e))
    refine HRUN.out.mono ?_
    rintro e w3 ⟨pc3, a3, m3, c3, n3, G3, rfl, hch3, hiv3⟩
    have HB3 : Hid (Below w.heap.size w w3) := Lib.hid (bnext HB2.out (HBZ.out w3 hch3) (Nat.le_refl _))
    have HIV := Lib.hid hiv3
    have HLN : Hid ((runC os n ⟨0, regs⟩).1.length ≤ 201) := Lib.hid (by have := runC_len os n ⟨0, regs⟩; have := HST.out; omega)
    clear hch3 hiv3 hS HRUN HRO HBZ hsf hoq hgb hlst x0 y0 b0 a0 a1 c0 d0 e0 hbD
    by_cases hrc : (runC os n ⟨0, regs⟩).2 = 0
    · obtain ⟨v4, hv4, hret⟩ := (HIV.out hrc).ret HB3.out (by have := folL_len K os mode (runC os n ⟨0, regs⟩).1.dropLast; rw [List.length_dropLast] at this; have := HLN.out; unfold maxLen; omega)
      have e1 : LL = folL K os mode (runC os n ⟨0, regs⟩).1.dropLast ∧ CC = 0 := by have h := HRES.out; rw [if_pos hrc] at h; exact Prod.mk.inj h
      obtain ⟨rfl, rfl⟩ := e1
      have HRET := Lib.hid hret
      rw [hrc]
      clear hrc hret HIV HRES
      have hvl : w2.heap.size + 1 + 1 < w3.heap.size := World.block_lt_of_cell? w3 _ hv4
      have hv5 := fun O => (bcell1 (i := 0) (below_alloc w3 O) hvl).trans hv4
      go_wp2
      go_ret2
      exact HRET.out _ (below_alloc _ _)
    · have e1 : LL = [] ∧ CC = (runC os n ⟨0, regs⟩).2 := by have h := HRES.out; rw [if_neg hrc] at h; exact Prod.mk.inj h
      obtain ⟨rfl, hCC⟩ := e1
      rw [← hCC] at hrc ⊢
      have hq : (CC != 0) = true := by simpa using hrc
      clear hrc HIV HRES hCC
      go_wp2
      go_ret2
      exact RetDC.none _ _ _ (bnext HB3.out (below_alloc _ _) (Nat.le_refl _))
  · have hres : followS R os mode regs steps = ([], modeCodeS R os mode (regsOk R regs && inRg steps 0 200)) := by unfold followS; rw [if_neg hcode]
    rw [hres]
    obtain ⟨code, hcd⟩ : ∃ c, c = modeCodeS R os mode (regsOk R regs && inRg steps 0 200) := ⟨_, rfl⟩
    rw [← hcd] at HM hcode ⊢
    have hq : (code != 0) = true := by simpa using hcode
    have HW0 := Lib.hid hw0
    clear hcode hres hcd hw0
    go_enter Try.func36, Try.ntmps36
    go_wp2_with fail
    rw [← HW0.out]
    refine HM.out.mono ?_
    rintro e w1 ⟨rfl, hb1⟩
    have HB1 := Lib.hid (HB0.out.trans (hb1.mono (by omega)))
    clear hb1
    go_wp2
    go_ret2
    exact RetDC.none _ _ _ HB1.out
end Go.Proofs.Ytncndnholheemaa
