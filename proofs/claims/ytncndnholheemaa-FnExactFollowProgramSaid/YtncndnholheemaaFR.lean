/- A run of a program that calls a function for each config: that function has memory of its own. Written by mkfr.py. -/
import Derived.Test.YtncndnholheemaaFO
namespace Go.Proofs.Ytncndnholheemaa
open Go.RowKit

theorem Chg.lowG {F : List Nat} {w w1 w2 : World} (h : Chg F w w1) (h2 : Below w.heap.size w1 w2) : Chg F w w2 :=
  ⟨h2.os.trans h.os, h2.tape.trans h.tape, h2.output.trans h.output, Nat.le_trans h.size h2.size, fun k hk hF => (h2.block k hk).trans (h.block k hk hF)⟩
theorem Chg.compG {F F' : List Nat} {w wr w1 : World} (h : Chg F w wr) (h2 : Chg F' wr w1) (hs : ∀ g, g ∈ F' → g ∈ F ∨ w.heap.size ≤ g) : Chg F w w1 :=
  ⟨h2.os.trans h.os, h2.tape.trans h.tape, h2.output.trans h.output, Nat.le_trans h.size h2.size, fun k hk hF => (h2.block k (Nat.lt_of_lt_of_le hk h.size) (fun e => by rcases hs k e with e | e; exact hF e; omega)).trans (h.block k hk hF)⟩
/-- What a function that a run calls keeps in its own blocks. -/
structure Keeps (B : Nat) (Inv : List Cfg → List Nat → World → Prop) : Prop where
  stay : ∀ cs G wa wb F, Inv cs G wa → Chg F wa wb → (∀ g, g ∈ F → g ∉ G ∧ B ≤ g) → Inv cs G wb
  lt : ∀ cs G wa, Inv cs G wa → ∀ g, g ∈ G → g < wa.heap.size
def RetG (w : World) (G0 : List Nat) (Inv : List Cfg → List Nat → World → Prop) (cs : List Cfg) (code : Int) (e : Ending) (w' : World) : Prop :=
  ∃ pc a m c n G', e = .returned (.tuple #[.agg #[.int .i64 pc, .slice a m c], .int .i64 n, .int .i64 code]) ∧ Chg G0 w w' ∧ (code = 0 → Inv cs G' w')
theorem RetG.zero {w w' : World} {G0 : List Nat} {Inv : List Cfg → List Nat → World → Prop} {cs : List Cfg} (n code : Int) (h : Chg G0 w w') (hc : code ≠ 0) : RetG w G0 Inv cs code (.returned (.tuple #[.agg #[.int .i64 0, .slice none 0 0], .int .i64 n, .int .i64 code])) w' :=
  ⟨0, none, 0, 0, n, [], rfl, h, fun e => absurd e hc⟩
theorem RetG.put {w wr : World} {G0 G : List Nat} {Inv : List Cfg → List Nat → World → Prop} (hk : Keeps w.heap.size Inv) {cs : List Cfg} {b : Nat} (u0 u1 : Value) (pc n : Int) (a : Option Addr) (m c : Nat) (h : Chg G0 w wr) (hi : Inv cs G wr) (hb : w.heap.size ≤ b) (hG : b ∉ G) :
    RetG w G0 Inv cs 0 (.returned (.tuple #[.agg #[.int .i64 pc, .slice a m c], .int .i64 n, .int .i64 0])) ((wr.setCell ⟨b, 0, none⟩ u0).setCell ⟨b, 1, none⟩ u1) := by
  have x1 := (Exc.setCell wr ⟨b, 0, none⟩ u0).chg
  have x2 := (Exc.setCell (wr.setCell ⟨b, 0, none⟩ u0) ⟨b, 1, none⟩ u1).chg
  have hs : ∀ g, g ∈ [b] → g ∉ G ∧ w.heap.size ≤ g := fun g hg => by simp at hg; subst hg; exact ⟨hG, hb⟩
  exact ⟨pc, a, m, c, n, G, rfl, (h.compG x1 (fun g hg => .inr (hs g hg).2)).compG x2 (fun g hg => .inr (hs g hg).2), fun _ => hk.stay _ _ _ _ _ (hk.stay _ _ _ _ _ hi x1 hs) x2 hs⟩
theorem Chg.two {F : List Nat} {w wr : World} (h : Chg F w wr) {b : Nat} (hb : w.heap.size ≤ b) (u0 u1 : Value) : Chg F w ((wr.setCell ⟨b, 0, none⟩ u0).setCell ⟨b, 1, none⟩ u1) :=
  (h.compG (Exc.setCell wr ⟨b, 0, none⟩ u0).chg (fun g hg => by simp at hg; subst hg; exact .inr hb)).compG (Exc.setCell (wr.setCell ⟨b, 0, none⟩ u0) ⟨b, 1, none⟩ u1).chg (fun g hg => by simp at hg; subst hg; exact .inr hb)
theorem Ow.headIn {w : World} {k : Nat} {ds : List D} {g o n c : Nat} {F : List Nat} (h : Ow w (.l k ds) (.slice (some ⟨g, o, none⟩) n c) F) (h0 : 0 < n) (hk : 0 < k) : g ∈ F := by
  obtain ⟨a, m, c', e, hl, _, hr⟩ := h
  cases e
  rcases hr with ⟨h1, _⟩ | ⟨g', o', F0, e, _, rfl, _⟩
  · have hp := Nat.mul_pos h0 hk
    subst h1
    simp only [List.length_nil] at hl
    omega
  · cases e; simp
set_option maxHeartbeats 8000000 in
set_option maxRecDepth 100000 in
theorem run_g (Inv : List Cfg → List Nat → World → Prop) (q1 q2 q3 q4 : Value) (R : Int) (ao : Option Addr) (co : Nat) (os : List Ord) (ad : Addr) (c : Nat) (regs : List Int) (steps : Nat) (G0 : List Nat) (w : World) (hk0 : Keeps w.heap.size Inv) (hi0 : Inv [] G0 w)
    (ho : ∀ wx, Chg G0 w wx → SlO Any wx ao os) (hx : SlI Any w (some ad) regs) (hvp : validProgS R os = true) (hrg : regsOk R regs = true) (hst : steps ≤ 200)
    (hcall : ∀ cs G wx (cf : Cfg) (ar : Option Addr) (cr : Nat), Inv cs G wx → cs.length < 200 → w.heap.size ≤ wx.heap.size → SlI Any wx ar cf.regs → confOk R os.length cf.pc cf.regs = true → haltS os cf.pc = false →
      Calls Try.prog 93 #[.agg #[.int .i64 cf.pc, .slice ar cf.regs.length cr], q1, q2, q3, q4] wx (fun e w' => e = .returned (.tuple #[]) ∧ ∃ G', Inv (cs ++ [cf]) G' w' ∧ Chg G wx w' ∧ ∀ g, g ∈ G' → g ∈ G ∨ wx.heap.size ≤ g)) :
    Calls Try.prog 92 #[.agg #[.int .i64 R, .slice ao os.length co], .slice (some ad) regs.length c, .int .i64 steps, .func (.func 93) #[] #[q1, q2, q3, q4]] w (RetG w G0 Inv (runC os steps ⟨0, regs⟩).1.dropLast (runC os steps ⟨0, regs⟩).2) := by
  have hR : 1 ≤ R ∧ R ≤ 3 ∧ 1 ≤ os.length ∧ os.length ≤ 6 := by simp [validProgS, inRg] at hvp; omega
  have hl8 : regs.length ≤ 8 := by have := (regsOk_ok hrg).1; omega
  have hb0 : Below w.heap.size w ((w.alloc (.cells #[.int .i64 R, .slice ao os.length co] 52)).alloc (.cells #[.int .i64 0, .slice none 0 0] 68)) := ((Below.refl _ _).alloc (Nat.le_refl _) _).alloc (by simp) _
  have hrun := callFunc_run Try.func93 (by kernel_rfl) rfl
  have hG0 := hk0.lt _ _ _ hi0
  have HG0 := Lib.hid hG0
  have HK := Lib.hid hk0
  have HCALL := Lib.hid hcall
  have HI0 := Lib.hid hi0
  have HV := Lib.hid hvp
  have HO := Lib.hid ho
  have HX := Lib.hid hx
  have HB0 := Lib.hid hb0
  have HS := Lib.hid (start_ok (os := os) hrg)
  clear hvp ho hx hb0 hrg hk0 hi0 hcall hG0
  go_enter Try.func92, Try.ntmps92
  go_wp2_with fail
  refine (clone_c Any ad c regs _ (HX.out.below HB0.out) (by omega)).mono ?_
  rintro e w1 ⟨v1, F1, rfl, hb1, ho1, hn1, hf1⟩
  obtain ⟨a1, c1, e1, _⟩ := Ow_I.1 ho1
  subst e1
  have hz1 : w.heap.size + 2 ≤ w1.heap.size := by have := hb1.size; (try simp at this); omega
  have p0 : w1.cell? ⟨w.heap.size, 0, none⟩ = some (.int .i64 R) := by rw [bcell1 hb1 (by simp <;> omega)]; simp [go_sem]
  have p1 : w1.cell? ⟨w.heap.size, 1, none⟩ = some (.slice ao os.length co) := by rw [bcell1 hb1 (by simp <;> omega)]; simp [go_sem]
  have r0 : w1.cell? ⟨w.heap.size + 1, 0, none⟩ = some (.int .i64 0) := by rw [bcell1 hb1 (by simp)]; simp [go_sem]
  have r1 : w1.cell? ⟨w.heap.size + 1, 1, none⟩ = some (.slice none 0 0) := by rw [bcell1 hb1 (by simp)]; simp [go_sem]
  have z0 : w1.frozen? ⟨w.heap.size + 1, 0, none⟩ = false := by rw [hb1.frozen (by simp)]; simp [go_sem]
  have z1 : w1.frozen? ⟨w.heap.size + 1, 1, none⟩ = false := by rw [hb1.frozen (by simp)]; simp [go_sem]
  have HB1 : Hid (Below w.heap.size w w1) := Lib.hid (HB0.out.trans (hb1.mono (by simp <;> omega)))
  have HI1 : Hid (Inv [] G0 (w1.alloc (.cells #[.int .i64 0, .slice a1 regs.length c1] 68))) := Lib.hid (HK.out.stay _ _ _ _ [] HI0.out (Chg.ofBelow (HB1.out.alloc HB1.out.size _)) (by simp))
  have HO1 := Lib.hid ho1
  have HN1 := Lib.hid hn1
  have HF1 : Hid (∀ g, g ∈ F1 → w.heap.size + 2 ≤ g) := Lib.hid (fun g hg => by have := hf1 g hg; (try simp at this); omega)
  clear hb1 ho1 hn1 hf1
  go_wp2
  go_loopw [12, 13, 14, 15] (fun i0 _ _ _ wr => ∃ (k : Nat) (cur : Cfg) (cs : List Cfg) (G : List Nat) (ac : Option Addr) (cc : Nat) (F : List Nat), k ≤ steps ∧ i0 = .int .i64 k ∧ Hid (cs.length = k) ∧ Hid ((runC os steps ⟨0, regs⟩).1 = cs ++ (runC os (steps - k) cur).1 ∧ (runC os steps ⟨0, regs⟩).2 = (runC os (steps - k) cur).2) ∧ Hid (Inv cs G wr) ∧ Hid (∀ g, g ∈ G → g ∈ G0 ∨ (w1.heap.size < g ∧ g ∉ F)) ∧ Hid (confOk R os.length cur.pc cur.regs = true) ∧ Chg (w1.heap.size :: G0) (w1.alloc (.cells #[.int .i64 0, .slice a1 regs.length c1] 68)) wr ∧ wr.cell? ⟨w1.heap.size, 0, none⟩ = some (.int .i64 cur.pc) ∧ wr.cell? ⟨w1.heap.size, 1, none⟩ = some (.slice ac cur.regs.length cc) ∧ (wr.frozen? ⟨w1.heap.size, 0, none⟩ = false ∧ wr.frozen? ⟨w1.heap.size, 1, none⟩ = false) ∧ Hid (Ow wr (dI cur.regs) (.slice ac cur.regs.length cc) F) ∧ Hid F.Nodup ∧ Hid (∀ g, g ∈ F → w.heap.size + 2 ≤ g ∧ g ≠ w1.heap.size)) (fun i0 _ _ _ _ => steps - (intOf i0).toNat)
  case atStart => exact ⟨0, ⟨0, regs⟩, [], G0, a1, c1, F1, Nat.zero_le _, rfl, Lib.hid rfl, Lib.hid ⟨rfl, rfl⟩, HI1, Lib.hid fun g hg => .inl hg, HS, Chg.refl _ _, by simp [go_sem], by simp [go_sem], ⟨by simp [go_sem], by simp [go_sem]⟩, Lib.hid (HO1.out.below (below_alloc _ _)), HN1, Lib.hid fun g hg => ⟨HF1.out g hg, fun e => by have := Ow.lt _ _ _ HO1.out g hg; omega⟩⟩
  case round =>
    obtain ⟨k, cur, cs, G, ac, cc, F, hk, rfl, HLN, HE, HIN, HG, HC, hch, q0, q1, ⟨y0, y1⟩, HOW, HND, HFF⟩ := hrel
    have hP : 0 ≤ cur.pc ∧ cur.pc ≤ os.length := by have := HC.out; simp [confOk, inRg] at this; omega
    have hsz : w1.heap.size + 1 ≤ wr.heap.size := by have := hch.size; simp at this; omega
    have P0 := (hch.cell (b := w.heap.size) (by simp; omega) (fun e => by rcases List.mem_cons.1 e with e | e; omega; have := HG0.out _ e; omega) 0).trans (((below_alloc w1 _).cell (show w.heap.size < _ by omega)).trans p0)
    have P1 := (hch.cell (b := w.heap.size) (by simp; omega) (fun e => by rcases List.mem_cons.1 e with e | e; omega; have := HG0.out _ e; omega) 1).trans (((below_alloc w1 _).cell (show w.heap.size < _ by omega)).trans p1)
    have R0 := (hch.cell (b := w.heap.size + 1) (by simp; omega) (fun e => by rcases List.mem_cons.1 e with e | e; omega; have := HG0.out _ e; omega) 0).trans (((below_alloc w1 _).cell (show w.heap.size + 1 < _ by omega)).trans r0)
    have R1 := (hch.cell (b := w.heap.size + 1) (by simp; omega) (fun e => by rcases List.mem_cons.1 e with e | e; omega; have := HG0.out _ e; omega) 1).trans (((below_alloc w1 _).cell (show w.heap.size + 1 < _ by omega)).trans r1)
    have Z0 := (hch.frozen (b := w.heap.size + 1) (by simp; omega) (fun e => by rcases List.mem_cons.1 e with e | e; omega; have := HG0.out _ e; omega) 0).trans (((below_alloc w1 _).frozen (show w.heap.size + 1 < _ by omega)).trans z0)
    have Z1 := (hch.frozen (b := w.heap.size + 1) (by simp; omega) (fun e => by rcases List.mem_cons.1 e with e | e; omega; have := HG0.out _ e; omega) 1).trans (((below_alloc w1 _).frozen (show w.heap.size + 1 < _ by omega)).trans z1)
    have hbr : Chg G0 w wr := (Chg.ofBelow (HB1.out.alloc HB1.out.size _)).compG hch (fun g hg => by rcases List.mem_cons.1 hg with e | e; exact .inr (by subst e; exact HB1.out.size); exact .inl e)
    have HBR := Lib.hid hbr
    have HCH := Lib.hid hch
    clear hch hbr
    by_cases hks : k = steps
    · have b1 : ((k : Int) == (steps : Int)) = true := by simp [hks]
      have hres : (runC os steps ⟨0, regs⟩).1.dropLast = cs ∧ (runC os steps ⟨0, regs⟩).2 = 0 := by rw [HE.out.1, HE.out.2, runC_end os (steps - k) cur (.inl (by omega))]; simp
      have HRS := Lib.hid hres
      clear hres HE
      go_wp2
      have sA := setA wr (w.heap.size + 1) (.int .i64 cur.pc) (.slice ac cur.regs.length cc) R0 R1
      refine bodyPost_ret (v := .tuple #[.agg #[.int .i64 cur.pc, .slice ac cur.regs.length cc], .int .i64 k, .int .i64 0]) (by simp [results, Try.results92, go_sem, sA]) rfl ?_
      rw [HRS.out.1, HRS.out.2]
      exact RetG.put HK.out _ _ _ _ _ _ _ HBR.out HIN.out (show w.heap.size ≤ w.heap.size + 1 by omega) (fun hg => by rcases HG.out _ hg with e | e; have := HG0.out _ e; omega; omega)
    · have hkl : k < steps := by omega
      have b1 : ((k : Int) == (steps : Int)) = false := by rw [beq_eq_false_iff_ne]; omega
      have HH := Lib.hid (halts_c R ao co os cur.pc (.slice ac cur.regs.length cc) wr (HO.out _ HBR.out) hP.1 hP.2)
      obtain ⟨k', hk'⟩ : ∃ k', steps - k = k' + 1 := ⟨steps - k - 1, by omega⟩
      rw [hk'] at HE
      cases hh : haltS os cur.pc
      rotate_left
      · have hres : (runC os steps ⟨0, regs⟩).1.dropLast = cs ∧ (runC os steps ⟨0, regs⟩).2 = 0 := by rw [HE.out.1, HE.out.2, runC_end os (k' + 1) cur (.inr hh)]; simp
        have HRS := Lib.hid hres
        rw [hh] at HH
        clear hres HE hh
        go_wp2_with fail
        refine HH.out.mono ?_
        rintro e w2 ⟨rfl, hb2⟩
        have hz2 : wr.heap.size ≤ w2.heap.size := hb2.size
        replace P0 := (bcell1 hb2 (by omega)).trans P0
        replace P1 := (bcell1 hb2 (by omega)).trans P1
        replace R0 := (bcell1 hb2 (by omega)).trans R0
        replace R1 := (bcell1 hb2 (by omega)).trans R1
        replace Z0 := (bfroz1 hb2 (by omega)).trans Z0
        replace Z1 := (bfroz1 hb2 (by omega)).trans Z1
        replace q0 := (bcell1 hb2 (by omega)).trans q0
        replace q1 := (bcell1 hb2 (by omega)).trans q1
        replace y0 := (bfroz1 hb2 (by omega)).trans y0
        replace y1 := (bfroz1 hb2 (by omega)).trans y1
        have HB2 : Hid (Chg G0 w w2) := Lib.hid (HBR.out.trans (Chg.ofBelow hb2))
        have HI2 : Hid (Inv cs G w2) := Lib.hid (HK.out.stay _ _ _ _ [] HIN.out (Chg.ofBelow hb2) (by simp))
        have HO2 : Hid (Ow w2 (dI cur.regs) (.slice ac cur.regs.length cc) F) := Lib.hid (HOW.out.below hb2)
        have HBC2 : Hid (Below wr.heap.size wr w2) := Lib.hid hb2
        clear hb2
        go_wp2
        have sA := setA w2 (w.heap.size + 1) (.int .i64 cur.pc) (.slice ac cur.regs.length cc) R0 R1
        refine bodyPost_ret (v := .tuple #[.agg #[.int .i64 cur.pc, .slice ac cur.regs.length cc], .int .i64 k, .int .i64 0]) (by simp [results, Try.results92, go_sem, sA]) rfl ?_
        rw [HRS.out.1, HRS.out.2]
        exact RetG.put HK.out _ _ _ _ _ _ _ HB2.out HI2.out (show w.heap.size ≤ w.heap.size + 1 by omega) (fun hg => by rcases HG.out _ hg with e | e; have := HG0.out _ e; omega; omega)
      · rw [hh] at HH
        have hne : cur.pc ≠ os.length ∧ (nthO os cur.pc.toNat).op ≠ 3 := by simp [haltS] at hh; exact hh
        have hlt : cur.pc < os.length := by omega
        have i0 := fun w' => ixO (HO.out _ HBR.out) co cur.pc w' hP.1 hlt
        have HHF := Lib.hid hh
        clear hh hne
        cases hc : choice (nthO os cur.pc.toNat)
        rotate_left
        · have hres : (runC os steps ⟨0, regs⟩).2 = 4 := by rw [HE.out.2]; simp [runC, HHF.out, hc]
          have HRS := Lib.hid hres
          have bo : ((nthO os cur.pc.toNat).op == 1) = true := by simp only [choice, Bool.and_eq_true] at hc; exact hc.1
          have bt : ((nthO os cur.pc.toNat).to != (nthO os cur.pc.toNat).els) = true := by simp only [choice, Bool.and_eq_true] at hc; exact hc.2
          clear hres HE hc
          go_wp2_with fail
          refine HH.out.mono ?_
          rintro e w2 ⟨rfl, hb2⟩
          have hz2 : wr.heap.size ≤ w2.heap.size := hb2.size
          replace P0 := (bcell1 hb2 (by omega)).trans P0
          replace P1 := (bcell1 hb2 (by omega)).trans P1
          replace R0 := (bcell1 hb2 (by omega)).trans R0
          replace R1 := (bcell1 hb2 (by omega)).trans R1
          replace Z0 := (bfroz1 hb2 (by omega)).trans Z0
          replace Z1 := (bfroz1 hb2 (by omega)).trans Z1
          replace q0 := (bcell1 hb2 (by omega)).trans q0
          replace q1 := (bcell1 hb2 (by omega)).trans q1
          replace y0 := (bfroz1 hb2 (by omega)).trans y0
          replace y1 := (bfroz1 hb2 (by omega)).trans y1
          have HB2 : Hid (Chg G0 w w2) := Lib.hid (HBR.out.trans (Chg.ofBelow hb2))
          have HI2 : Hid (Inv cs G w2) := Lib.hid (HK.out.stay _ _ _ _ [] HIN.out (Chg.ofBelow hb2) (by simp))
          have HO2 : Hid (Ow w2 (dI cur.regs) (.slice ac cur.regs.length cc) F) := Lib.hid (HOW.out.below hb2)
          have HBC2 : Hid (Below wr.heap.size wr w2) := Lib.hid hb2
          clear hb2
          have aP0 := fun ob => (bcell1 (below_alloc w2 ob) (by omega)).trans P0
          have aP1 := fun ob => (bcell1 (below_alloc w2 ob) (by omega)).trans P1
          have aR0 := fun ob => (bcell1 (below_alloc w2 ob) (by omega)).trans R0
          have aR1 := fun ob => (bcell1 (below_alloc w2 ob) (by omega)).trans R1
          have aZ0 := fun ob => (bfroz1 (below_alloc w2 ob) (by omega)).trans Z0
          have aZ1 := fun ob => (bfroz1 (below_alloc w2 ob) (by omega)).trans Z1
          have aq0 := fun ob => (bcell1 (below_alloc w2 ob) (by omega)).trans q0
          have aq1 := fun ob => (bcell1 (below_alloc w2 ob) (by omega)).trans q1
          have t0 := (HO.out _ HB2.out).c0 cur.pc.toNat (by omega)
          have t1 := (HO.out _ HB2.out).c1 cur.pc.toNat (by omega)
          have t2 := (HO.out _ HB2.out).c2 cur.pc.toNat (by omega)
          have t3 := (HO.out _ HB2.out).c3 cur.pc.toNat (by omega)
          go_wp2
          have sA := setA (w2.alloc (.cells #[.int .i64 (nthO os cur.pc.toNat).op, .int .i64 (nthO os cur.pc.toNat).reg, .int .i64 (nthO os cur.pc.toNat).to, .int .i64 (nthO os cur.pc.toNat).els] 125)) (w.heap.size + 1) (.int .i64 0) (.slice none 0 0) (aR0 _) (aR1 _)
          refine bodyPost_ret (v := .tuple #[.agg #[.int .i64 0, .slice none 0 0], .int .i64 0, .int .i64 4]) (by simp [results, Try.results92, go_sem, sA]) rfl ?_
          rw [HRS.out]
          exact RetG.zero _ _ ((HB2.out.trans (Chg.ofBelow (below_alloc _ _))).two (show w.heap.size ≤ w.heap.size + 1 by omega) _ _) (by decide)
        · have HCC := Lib.hid hc
          by_cases e1 : (nthO os cur.pc.toNat).op = 1
          · have bo : ((nthO os cur.pc.toNat).op == 1) = true := by simp [e1]
            have bt : ((nthO os cur.pc.toNat).to != (nthO os cur.pc.toNat).els) = false := by simp only [choice, bo, Bool.true_and] at hc; exact hc
            clear hc e1
            go_wp2_with fail
            refine HH.out.mono ?_
            rintro e w2 ⟨rfl, hb2⟩
            have hz2 : wr.heap.size ≤ w2.heap.size := hb2.size
            replace P0 := (bcell1 hb2 (by omega)).trans P0
            replace P1 := (bcell1 hb2 (by omega)).trans P1
            replace R0 := (bcell1 hb2 (by omega)).trans R0
            replace R1 := (bcell1 hb2 (by omega)).trans R1
            replace Z0 := (bfroz1 hb2 (by omega)).trans Z0
            replace Z1 := (bfroz1 hb2 (by omega)).trans Z1
            replace q0 := (bcell1 hb2 (by omega)).trans q0
            replace q1 := (bcell1 hb2 (by omega)).trans q1
            replace y0 := (bfroz1 hb2 (by omega)).trans y0
            replace y1 := (bfroz1 hb2 (by omega)).trans y1
            have HB2 : Hid (Chg G0 w w2) := Lib.hid (HBR.out.trans (Chg.ofBelow hb2))
            have HI2 : Hid (Inv cs G w2) := Lib.hid (HK.out.stay _ _ _ _ [] HIN.out (Chg.ofBelow hb2) (by simp))
            have HO2 : Hid (Ow w2 (dI cur.regs) (.slice ac cur.regs.length cc) F) := Lib.hid (HOW.out.below hb2)
            have HBC2 : Hid (Below wr.heap.size wr w2) := Lib.hid hb2
            clear hb2
            have aP0 := fun ob => (bcell1 (below_alloc w2 ob) (by omega)).trans P0
            have aP1 := fun ob => (bcell1 (below_alloc w2 ob) (by omega)).trans P1
            have aR0 := fun ob => (bcell1 (below_alloc w2 ob) (by omega)).trans R0
            have aR1 := fun ob => (bcell1 (below_alloc w2 ob) (by omega)).trans R1
            have aZ0 := fun ob => (bfroz1 (below_alloc w2 ob) (by omega)).trans Z0
            have aZ1 := fun ob => (bfroz1 (below_alloc w2 ob) (by omega)).trans Z1
            have aq0 := fun ob => (bcell1 (below_alloc w2 ob) (by omega)).trans q0
            have aq1 := fun ob => (bcell1 (below_alloc w2 ob) (by omega)).trans q1
            have t0 := (HO.out _ HB2.out).c0 cur.pc.toNat (by omega)
            have t1 := (HO.out _ HB2.out).c1 cur.pc.toNat (by omega)
            have t2 := (HO.out _ HB2.out).c2 cur.pc.toNat (by omega)
            have t3 := (HO.out _ HB2.out).c3 cur.pc.toNat (by omega)
            have HBA := Lib.hid (fun ob => HB2.out.trans (Chg.ofBelow (below_alloc w2 ob)))
            go_wp2_with fail
            refine (next_c R ao co os cur.pc ac cc cur.regs _ (HO.out _ (HBA.out _)) ((HO2.out.below (below_alloc _ _)).arg) HV.out HC.out).mono ?_
            rintro e w3 ⟨v3, F3, rfl, hb3, ho3, hn3, hf3⟩
            have hz3 : w2.heap.size + 1 ≤ w3.heap.size := by have := hb3.size; (try simp at this); omega
            have hb23 : Below w2.heap.size w2 w3 := (below_alloc w2 _).trans (hb3.mono (by simp))
            have HBC3 : Hid (Below wr.heap.size wr w3) := Lib.hid (HBC2.out.trans (hb23.mono hz2))
            replace P0 := (bcell1 hb23 (by omega)).trans P0
            replace P1 := (bcell1 hb23 (by omega)).trans P1
            replace R0 := (bcell1 hb23 (by omega)).trans R0
            replace R1 := (bcell1 hb23 (by omega)).trans R1
            replace Z0 := (bfroz1 hb23 (by omega)).trans Z0
            replace Z1 := (bfroz1 hb23 (by omega)).trans Z1
            replace q0 := (bcell1 hb23 (by omega)).trans q0
            replace q1 := (bcell1 hb23 (by omega)).trans q1
            replace y0 := (bfroz1 hb23 (by omega)).trans y0
            replace y1 := (bfroz1 hb23 (by omega)).trans y1
            have HB3 : Hid (Chg G0 w w3) := Lib.hid (HB2.out.trans (Chg.ofBelow hb23))
            have HI3 : Hid (Inv cs G w3) := Lib.hid (HK.out.stay _ _ _ _ [] HI2.out (Chg.ofBelow hb23) (by simp))
            have HOC3 := Lib.hid (HO2.out.below hb23)
            have HO3 := Lib.hid ho3
            have HN3 := Lib.hid hn3
            have HF3 : Hid (∀ g, g ∈ F3 → w2.heap.size + 1 ≤ g) := Lib.hid (fun g hg => by have := hf3 g hg; (try simp at this); omega)
            clear hb3 hb23 ho3 hn3 hf3 t0 t1 t2 t3 aP0 aP1 aR0 aR1 aZ0 aZ1 aq0 aq1
            rcases nextS_code os cur.pc cur.regs with e0 | ⟨_, e3⟩
            rotate_left
            · have hres : (runC os steps ⟨0, regs⟩).2 = 3 := by rw [HE.out.2]; simp [runC, HHF.out, HCC.out, e3]
              have HRS := Lib.hid hres
              have b5 : ((nextS os cur.pc cur.regs).2 != 0) = true := by rw [e3]; rfl
              have E3 := Lib.hid e3
              clear hres HE e3
              go_wp2
              have sA := setA w3 (w.heap.size + 1) (.int .i64 0) (.slice none 0 0) R0 R1
              refine bodyPost_ret (v := .tuple #[.agg #[.int .i64 0, .slice none 0 0], .int .i64 0, .int .i64 (nextS os cur.pc cur.regs).2]) (by simp [results, Try.results92, go_sem, sA]) rfl ?_
              rw [HRS.out, E3.out]
              exact RetG.zero _ _ (HB3.out.two (show w.heap.size ≤ w.heap.size + 1 by omega) _ _) (by decide)
            · have hres := runC_split os HE.out.1 HE.out.2 HHF.out HCC.out e0
              rw [show k' = steps - (k + 1) by omega] at hres
              have HRS := Lib.hid hres
              have b5 : ((nextS os cur.pc cur.regs).2 != 0) = false := by rw [e0]; rfl
              have hpos := nextS_some HHF.out e0
              have hfg := firstS_get hpos
              have HOKF := Lib.hid (firstS_ok HV.out HC.out HHF.out e0)
              obtain ⟨g, o, c3, a', c', F', ev, c0, c1', o1, n1, s1⟩ := HO3.out.cfgAt HN3.out hpos
              subst ev
              rw [← hfg.1] at c0 c1' o1
              simp only [Nat.zero_mul, Nat.add_zero, Nat.zero_add] at c0 c1'
              have i3 : ∀ w', (Instr.indexAt 64 (.slice (some ⟨g, o, none⟩) (nextS os cur.pc cur.regs).1.length c3) (.int .i64 0)).run Try.prog w' = .ok (.pointer (some ⟨g, o, none⟩)) w' := fun w' => by
                have := ix_of (P := Try.prog) tabConfigSM.under tabConfigSM.size (a := some ⟨g, o, none⟩) (n := (nextS os cur.pc cur.regs).1.length) (fun _ => ⟨g, o, rfl⟩) c3 0 w' (by omega) (by omega)
                simpa [adr, blk, ofs] using this
              have hgF : g ∈ F3 := Ow.headIn HO3.out hpos (by omega)
              have hg2 : w2.heap.size + 1 ≤ g := HF3.out g hgF
              have HGL : Hid (∀ x, x ∈ G → x < wr.heap.size) := Lib.hid (HK.out.lt _ _ _ HIN.out)
              have O1 := Lib.hid o1
              have N1 := Lib.hid n1
              have S1 := Lib.hid s1
              have HCL := Lib.hid (HCALL.out cs G w3 cur ac cc HI3.out (by have := HLN.out; omega) HB3.out.size HOC3.out.arg HC.out HHF.out)
              clear hres HE e0 hfg hgF o1 n1 s1
              go_wp2_with fail
              refine HCL.out.mono ?_
              rintro e w4 ⟨rfl, G4, hi4, hc4, hg4⟩
              have hz4 : w3.heap.size ≤ w4.heap.size := hc4.size
              have hnG : ∀ x, (w.heap.size ≤ x ∧ x ≤ w1.heap.size) ∨ w2.heap.size ≤ x → x ∉ G := fun x hx hg => by
                have h1 := HGL.out x hg
                rcases HG.out x hg with e | e
                · have := HG0.out x e; omega
                · omega
              replace c0 := (hc4.cell (World.block_lt_of_cell? w3 _ c0) (hnG _ (.inr (show w2.heap.size ≤ g by omega))) _).trans c0
              replace c1' := (hc4.cell (World.block_lt_of_cell? w3 _ c1') (hnG _ (.inr (show w2.heap.size ≤ g by omega))) _).trans c1'
              replace P0 := (hc4.cell (by omega) (hnG _ (.inl (by omega))) _).trans P0
              replace P1 := (hc4.cell (by omega) (hnG _ (.inl (by omega))) _).trans P1
              replace R0 := (hc4.cell (by omega) (hnG _ (.inl (by omega))) _).trans R0
              replace R1 := (hc4.cell (by omega) (hnG _ (.inl (by omega))) _).trans R1
              replace Z0 := (hc4.frozen (by omega) (hnG _ (.inl (by omega))) _).trans Z0
              replace Z1 := (hc4.frozen (by omega) (hnG _ (.inl (by omega))) _).trans Z1
              replace q0 := (hc4.cell (by omega) (hnG _ (.inl (by omega))) _).trans q0
              replace q1 := (hc4.cell (by omega) (hnG _ (.inl (by omega))) _).trans q1
              replace y0 := (hc4.frozen (by omega) (hnG _ (.inl (by omega))) _).trans y0
              replace y1 := (hc4.frozen (by omega) (hnG _ (.inl (by omega))) _).trans y1
              have HC4 : Hid (Chg G w3 w4) := Lib.hid hc4
              have O4 := Lib.hid (hc4.ow O1.out (fun x hx => hnG x (.inr (by have := HF3.out _ (S1.out x hx); omega))))
              have HI4 := Lib.hid hi4
              have HG4 : Hid (∀ x, x ∈ G4 → x ∈ G0 ∨ (w1.heap.size < x ∧ x ∉ F')) := Lib.hid (fun x hx => by
                rcases hg4 x hx with e | e
                · rcases HG.out x e with e2 | e2
                  · exact .inl e2
                  · exact .inr ⟨e2.1, fun h => by have := HF3.out _ (S1.out x h); have := HGL.out x e; omega⟩
                · exact .inr ⟨by omega, fun h => by have := Ow.lt _ _ _ O1.out x h; omega⟩)
              clear hi4 hc4 hg4 hnG HCL
              go_wp2
              go_roundw
              case rel =>
                have hx1 : w1.heap.size ∉ F' := fun hg => by have := HF3.out _ (S1.out _ hg); omega
                have x1 := (Exc.setCell w4 ⟨w1.heap.size, 0, none⟩ (.int .i64 (firstS os cur).pc)).chg
                have x2 := (Exc.setCell (w4.setCell ⟨w1.heap.size, 0, none⟩ (.int .i64 (firstS os cur).pc)) ⟨w1.heap.size, 1, none⟩ (.slice a' (firstS os cur).regs.length c')).chg
                have sx := setA w4 w1.heap.size (.int .i64 (firstS os cur).pc) (.slice a' (firstS os cur).regs.length c') q0 q1
                have hs : ∀ x, x ∈ [w1.heap.size] → x ∉ G4 ∧ w.heap.size ≤ x := fun x hx => by
                  simp at hx; subst hx
                  refine ⟨fun hg => ?_, by omega⟩
                  rcases HG4.out _ hg with e | e
                  · have := HG0.out _ e; omega
                  · omega
                have hcc : Chg (w1.heap.size :: G0) (w1.alloc (.cells #[.int .i64 0, .slice a1 regs.length c1] 68)) w4 := (HCH.out.trans (Chg.ofBelow HBC3.out)).compG HC4.out (fun x hx => by
                  rcases HG.out x hx with e | e
                  · exact .inl (by simp [e])
                  · exact .inr (by simp; omega))
                exact ⟨k + 1, firstS os cur, cs ++ [cur], G4, a', c', F', by omega, by go_num, Lib.hid (by rw [List.length_append, HLN.out]; rfl), HRS, Lib.hid (HK.out.stay _ _ _ _ _ (HK.out.stay _ _ _ _ _ HI4.out x1 hs) x2 hs), HG4, HOKF, hcc.trans ((x1.trans x2).wider (fun x hx => by simp at hx; subst hx; simp)), sx.1, sx.2.1, ⟨by rw [World.frozen?_setCell, World.frozen?_setCell]; exact y0, by rw [World.frozen?_setCell, World.frozen?_setCell]; exact y1⟩,
                  Lib.hid (x2.ow (x1.ow O4.out (fun g hg h => by simp at h; subst h; exact hx1 hg)) (fun g hg h => by simp at h; subst h; exact hx1 hg)), N1, Lib.hid fun x hx => by have := HF3.out _ (S1.out _ hx); omega⟩
              case measure => simp [intOf]; omega
          · have bo : ((nthO os cur.pc.toNat).op == 1) = false := by simp [e1]
            clear hc e1
            go_wp2_with fail
            refine HH.out.mono ?_
            rintro e w2 ⟨rfl, hb2⟩
            have hz2 : wr.heap.size ≤ w2.heap.size := hb2.size
            replace P0 := (bcell1 hb2 (by omega)).trans P0
            replace P1 := (bcell1 hb2 (by omega)).trans P1
            replace R0 := (bcell1 hb2 (by omega)).trans R0
            replace R1 := (bcell1 hb2 (by omega)).trans R1
            replace Z0 := (bfroz1 hb2 (by omega)).trans Z0
            replace Z1 := (bfroz1 hb2 (by omega)).trans Z1
            replace q0 := (bcell1 hb2 (by omega)).trans q0
            replace q1 := (bcell1 hb2 (by omega)).trans q1
            replace y0 := (bfroz1 hb2 (by omega)).trans y0
            replace y1 := (bfroz1 hb2 (by omega)).trans y1
            have HB2 : Hid (Chg G0 w w2) := Lib.hid (HBR.out.trans (Chg.ofBelow hb2))
            have HI2 : Hid (Inv cs G w2) := Lib.hid (HK.out.stay _ _ _ _ [] HIN.out (Chg.ofBelow hb2) (by simp))
            have HO2 : Hid (Ow w2 (dI cur.regs) (.slice ac cur.regs.length cc) F) := Lib.hid (HOW.out.below hb2)
            have HBC2 : Hid (Below wr.heap.size wr w2) := Lib.hid hb2
            clear hb2
            have aP0 := fun ob => (bcell1 (below_alloc w2 ob) (by omega)).trans P0
            have aP1 := fun ob => (bcell1 (below_alloc w2 ob) (by omega)).trans P1
            have aR0 := fun ob => (bcell1 (below_alloc w2 ob) (by omega)).trans R0
            have aR1 := fun ob => (bcell1 (below_alloc w2 ob) (by omega)).trans R1
            have aZ0 := fun ob => (bfroz1 (below_alloc w2 ob) (by omega)).trans Z0
            have aZ1 := fun ob => (bfroz1 (below_alloc w2 ob) (by omega)).trans Z1
            have aq0 := fun ob => (bcell1 (below_alloc w2 ob) (by omega)).trans q0
            have aq1 := fun ob => (bcell1 (below_alloc w2 ob) (by omega)).trans q1
            have t0 := (HO.out _ HB2.out).c0 cur.pc.toNat (by omega)
            have t1 := (HO.out _ HB2.out).c1 cur.pc.toNat (by omega)
            have t2 := (HO.out _ HB2.out).c2 cur.pc.toNat (by omega)
            have t3 := (HO.out _ HB2.out).c3 cur.pc.toNat (by omega)
            have HBA := Lib.hid (fun ob => HB2.out.trans (Chg.ofBelow (below_alloc w2 ob)))
            go_wp2_with fail
            refine (next_c R ao co os cur.pc ac cc cur.regs _ (HO.out _ (HBA.out _)) ((HO2.out.below (below_alloc _ _)).arg) HV.out HC.out).mono ?_
            rintro e w3 ⟨v3, F3, rfl, hb3, ho3, hn3, hf3⟩
            have hz3 : w2.heap.size + 1 ≤ w3.heap.size := by have := hb3.size; (try simp at this); omega
            have hb23 : Below w2.heap.size w2 w3 := (below_alloc w2 _).trans (hb3.mono (by simp))
            have HBC3 : Hid (Below wr.heap.size wr w3) := Lib.hid (HBC2.out.trans (hb23.mono hz2))
            replace P0 := (bcell1 hb23 (by omega)).trans P0
            replace P1 := (bcell1 hb23 (by omega)).trans P1
            replace R0 := (bcell1 hb23 (by omega)).trans R0
            replace R1 := (bcell1 hb23 (by omega)).trans R1
            replace Z0 := (bfroz1 hb23 (by omega)).trans Z0
            replace Z1 := (bfroz1 hb23 (by omega)).trans Z1
            replace q0 := (bcell1 hb23 (by omega)).trans q0
            replace q1 := (bcell1 hb23 (by omega)).trans q1
            replace y0 := (bfroz1 hb23 (by omega)).trans y0
            replace y1 := (bfroz1 hb23 (by omega)).trans y1
            have HB3 : Hid (Chg G0 w w3) := Lib.hid (HB2.out.trans (Chg.ofBelow hb23))
            have HI3 : Hid (Inv cs G w3) := Lib.hid (HK.out.stay _ _ _ _ [] HI2.out (Chg.ofBelow hb23) (by simp))
            have HOC3 := Lib.hid (HO2.out.below hb23)
            have HO3 := Lib.hid ho3
            have HN3 := Lib.hid hn3
            have HF3 : Hid (∀ g, g ∈ F3 → w2.heap.size + 1 ≤ g) := Lib.hid (fun g hg => by have := hf3 g hg; (try simp at this); omega)
            clear hb3 hb23 ho3 hn3 hf3 t0 t1 t2 t3 aP0 aP1 aR0 aR1 aZ0 aZ1 aq0 aq1
            rcases nextS_code os cur.pc cur.regs with e0 | ⟨_, e3⟩
            rotate_left
            · have hres : (runC os steps ⟨0, regs⟩).2 = 3 := by rw [HE.out.2]; simp [runC, HHF.out, HCC.out, e3]
              have HRS := Lib.hid hres
              have b5 : ((nextS os cur.pc cur.regs).2 != 0) = true := by rw [e3]; rfl
              have E3 := Lib.hid e3
              clear hres HE e3
              go_wp2
              have sA := setA w3 (w.heap.size + 1) (.int .i64 0) (.slice none 0 0) R0 R1
              refine bodyPost_ret (v := .tuple #[.agg #[.int .i64 0, .slice none 0 0], .int .i64 0, .int .i64 (nextS os cur.pc cur.regs).2]) (by simp [results, Try.results92, go_sem, sA]) rfl ?_
              rw [HRS.out, E3.out]
              exact RetG.zero _ _ (HB3.out.two (show w.heap.size ≤ w.heap.size + 1 by omega) _ _) (by decide)
            · have hres := runC_split os HE.out.1 HE.out.2 HHF.out HCC.out e0
              rw [show k' = steps - (k + 1) by omega] at hres
              have HRS := Lib.hid hres
              have b5 : ((nextS os cur.pc cur.regs).2 != 0) = false := by rw [e0]; rfl
              have hpos := nextS_some HHF.out e0
              have hfg := firstS_get hpos
              have HOKF := Lib.hid (firstS_ok HV.out HC.out HHF.out e0)
              obtain ⟨g, o, c3, a', c', F', ev, c0, c1', o1, n1, s1⟩ := HO3.out.cfgAt HN3.out hpos
              subst ev
              rw [← hfg.1] at c0 c1' o1
              simp only [Nat.zero_mul, Nat.add_zero, Nat.zero_add] at c0 c1'
              have i3 : ∀ w', (Instr.indexAt 64 (.slice (some ⟨g, o, none⟩) (nextS os cur.pc cur.regs).1.length c3) (.int .i64 0)).run Try.prog w' = .ok (.pointer (some ⟨g, o, none⟩)) w' := fun w' => by
                have := ix_of (P := Try.prog) tabConfigSM.under tabConfigSM.size (a := some ⟨g, o, none⟩) (n := (nextS os cur.pc cur.regs).1.length) (fun _ => ⟨g, o, rfl⟩) c3 0 w' (by omega) (by omega)
                simpa [adr, blk, ofs] using this
              have hgF : g ∈ F3 := Ow.headIn HO3.out hpos (by omega)
              have hg2 : w2.heap.size + 1 ≤ g := HF3.out g hgF
              have HGL : Hid (∀ x, x ∈ G → x < wr.heap.size) := Lib.hid (HK.out.lt _ _ _ HIN.out)
              have O1 := Lib.hid o1
              have N1 := Lib.hid n1
              have S1 := Lib.hid s1
              have HCL := Lib.hid (HCALL.out cs G w3 cur ac cc HI3.out (by have := HLN.out; omega) HB3.out.size HOC3.out.arg HC.out HHF.out)
              clear hres HE e0 hfg hgF o1 n1 s1
              go_wp2_with fail
              refine HCL.out.mono ?_
              rintro e w4 ⟨rfl, G4, hi4, hc4, hg4⟩
              have hz4 : w3.heap.size ≤ w4.heap.size := hc4.size
              have hnG : ∀ x, (w.heap.size ≤ x ∧ x ≤ w1.heap.size) ∨ w2.heap.size ≤ x → x ∉ G := fun x hx hg => by
                have h1 := HGL.out x hg
                rcases HG.out x hg with e | e
                · have := HG0.out x e; omega
                · omega
              replace c0 := (hc4.cell (World.block_lt_of_cell? w3 _ c0) (hnG _ (.inr (show w2.heap.size ≤ g by omega))) _).trans c0
              replace c1' := (hc4.cell (World.block_lt_of_cell? w3 _ c1') (hnG _ (.inr (show w2.heap.size ≤ g by omega))) _).trans c1'
              replace P0 := (hc4.cell (by omega) (hnG _ (.inl (by omega))) _).trans P0
              replace P1 := (hc4.cell (by omega) (hnG _ (.inl (by omega))) _).trans P1
              replace R0 := (hc4.cell (by omega) (hnG _ (.inl (by omega))) _).trans R0
              replace R1 := (hc4.cell (by omega) (hnG _ (.inl (by omega))) _).trans R1
              replace Z0 := (hc4.frozen (by omega) (hnG _ (.inl (by omega))) _).trans Z0
              replace Z1 := (hc4.frozen (by omega) (hnG _ (.inl (by omega))) _).trans Z1
              replace q0 := (hc4.cell (by omega) (hnG _ (.inl (by omega))) _).trans q0
              replace q1 := (hc4.cell (by omega) (hnG _ (.inl (by omega))) _).trans q1
              replace y0 := (hc4.frozen (by omega) (hnG _ (.inl (by omega))) _).trans y0
              replace y1 := (hc4.frozen (by omega) (hnG _ (.inl (by omega))) _).trans y1
              have HC4 : Hid (Chg G w3 w4) := Lib.hid hc4
              have O4 := Lib.hid (hc4.ow O1.out (fun x hx => hnG x (.inr (by have := HF3.out _ (S1.out x hx); omega))))
              have HI4 := Lib.hid hi4
              have HG4 : Hid (∀ x, x ∈ G4 → x ∈ G0 ∨ (w1.heap.size < x ∧ x ∉ F')) := Lib.hid (fun x hx => by
                rcases hg4 x hx with e | e
                · rcases HG.out x e with e2 | e2
                  · exact .inl e2
                  · exact .inr ⟨e2.1, fun h => by have := HF3.out _ (S1.out x h); have := HGL.out x e; omega⟩
                · exact .inr ⟨by omega, fun h => by have := Ow.lt _ _ _ O1.out x h; omega⟩)
              clear hi4 hc4 hg4 hnG HCL
              go_wp2
              go_roundw
              case rel =>
                have hx1 : w1.heap.size ∉ F' := fun hg => by have := HF3.out _ (S1.out _ hg); omega
                have x1 := (Exc.setCell w4 ⟨w1.heap.size, 0, none⟩ (.int .i64 (firstS os cur).pc)).chg
                have x2 := (Exc.setCell (w4.setCell ⟨w1.heap.size, 0, none⟩ (.int .i64 (firstS os cur).pc)) ⟨w1.heap.size, 1, none⟩ (.slice a' (firstS os cur).regs.length c')).chg
                have sx := setA w4 w1.heap.size (.int .i64 (firstS os cur).pc) (.slice a' (firstS os cur).regs.length c') q0 q1
                have hs : ∀ x, x ∈ [w1.heap.size] → x ∉ G4 ∧ w.heap.size ≤ x := fun x hx => by
                  simp at hx; subst hx
                  refine ⟨fun hg => ?_, by omega⟩
                  rcases HG4.out _ hg with e | e
                  · have := HG0.out _ e; omega
                  · omega
                have hcc : Chg (w1.heap.size :: G0) (w1.alloc (.cells #[.int .i64 0, .slice a1 regs.length c1] 68)) w4 := (HCH.out.trans (Chg.ofBelow HBC3.out)).compG HC4.out (fun x hx => by
                  rcases HG.out x hx with e | e
                  · exact .inl (by simp [e])
                  · exact .inr (by simp; omega))
                exact ⟨k + 1, firstS os cur, cs ++ [cur], G4, a', c', F', by omega, by go_num, Lib.hid (by rw [List.length_append, HLN.out]; rfl), HRS, Lib.hid (HK.out.stay _ _ _ _ _ (HK.out.stay _ _ _ _ _ HI4.out x1 hs) x2 hs), HG4, HOKF, hcc.trans ((x1.trans x2).wider (fun x hx => by simp at hx; subst hx; simp)), sx.1, sx.2.1, ⟨by rw [World.frozen?_setCell, World.frozen?_setCell]; exact y0, by rw [World.frozen?_setCell, World.frozen?_setCell]; exact y1⟩,
                  Lib.hid (x2.ow (x1.ow O4.out (fun g hg h => by simp at h; subst h; exact hx1 hg)) (fun g hg h => by simp at h; subst h; exact hx1 hg)), N1, Lib.hid fun x hx => by have := HF3.out _ (S1.out _ hx); omega⟩
              case measure => simp [intOf]; omega
end Go.Proofs.Ytncndnholheemaa
