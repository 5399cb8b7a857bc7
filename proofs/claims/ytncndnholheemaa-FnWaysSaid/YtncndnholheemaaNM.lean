/- Runs of a program: what they are. -/
import Derived.Test.YtncndnholheemaaNH
namespace Go.Proofs.Ytncndnholheemaa
open Go.RowKit

/-- An order that leaves a choice. -/
def choice (o : Ord) : Bool := (o.op == 1) && (o.to != o.els)
/-- The first config that can follow. -/
def firstS (os : List Ord) (c : Cfg) : Cfg := (nextS os c.pc c.regs).1.headD zCfg
/-- The configs that a run meets, and a code. -/
def runC (os : List Ord) : Nat → Cfg → List Cfg × Int
  | 0, c => ([c], 0)
  | k + 1, c => if haltS os c.pc = true then ([c], 0) else if choice (nthO os c.pc.toNat) = true then ([c], 4)
      else if (nextS os c.pc c.regs).2 = 0 then (c :: (runC os k (firstS os c)).1, (runC os k (firstS os c)).2) else ([c], 3)
/-- The last config, how many steps, and a code. -/
def runE (os : List Ord) : Nat → Nat → Cfg → Cfg × Int × Int
  | 0, n, c => (c, n, 0)
  | k + 1, n, c => if haltS os c.pc = true then (c, n, 0) else if choice (nthO os c.pc.toNat) = true then (zCfg, 0, 4)
      else if (nextS os c.pc c.regs).2 = 0 then runE os k (n + 1) (firstS os c) else (zCfg, 0, 3)
theorem runC_pos (os : List Ord) : ∀ (k : Nat) (c : Cfg), 0 < (runC os k c).1.length
  | 0, _ => by simp [runC]
  | k + 1, c => by unfold runC; repeat (split <;> try simp)
theorem runC_len (os : List Ord) : ∀ (k : Nat) (c : Cfg), (runC os k c).1.length ≤ k + 1
  | 0, _ => by simp [runC]
  | k + 1, c => by
    have := runC_len os k (firstS os c)
    unfold runC
    repeat (split <;> try (simp; done))
    simp; omega
theorem runE_runC (os : List Ord) : ∀ (k n : Nat) (c : Cfg), runE os k n c = if (runC os k c).2 = 0 then ((runC os k c).1.getLastD zCfg, (n : Int) + ((runC os k c).1.length : Int) - 1, 0) else (zCfg, 0, (runC os k c).2)
  | 0, n, c => by simp [runE, runC]
  | k + 1, n, c => by
    unfold runE runC
    by_cases h1 : haltS os c.pc = true
    · simp [h1]
    · by_cases h2 : choice (nthO os c.pc.toNat) = true
      · simp [h1, h2]
      · by_cases h3 : (nextS os c.pc c.regs).2 = 0
        · have ih := runE_runC os k (n + 1) (firstS os c)
          have hp := runC_pos os k (firstS os c)
          simp only [h1, h2, h3, if_true, ih]
          by_cases h4 : (runC os k (firstS os c)).2 = 0
          · simp only [h4, if_true]
            have e1 : (c :: (runC os k (firstS os c)).1).getLastD zCfg = (runC os k (firstS os c)).1.getLastD zCfg := by
              match h : (runC os k (firstS os c)).1, hp with
              | x :: l, _ => simp [List.getLastD]
            simp only [Bool.false_eq_true, if_false, e1, List.length_cons]
            congr 2
            omega
          · simp [h4]
        · simp [h1, h2, h3]
/-- A valid program never leaves itself. -/
theorem set_cnt {regs : List Int} {i : Nat} {v : Int} {R : Int} (h : regsOk R regs = true) (hv : 0 ≤ v ∧ v ≤ 1000) : regsOk R (regs.set i v) = true := by
  simp only [regsOk, Bool.and_eq_true] at h ⊢
  refine ⟨by simpa using h.1, ?_⟩
  rw [allB, List.all_eq_true] at *
  intro x hx
  rcases List.mem_or_eq_of_mem_set hx with hx | rfl
  · exact h.2 x hx
  · simp [cntOk, inRg]; omega
theorem nextS_ok {R : Int} {os : List Ord} {pc : Int} {regs : List Int} (hvp : validProgS R os = true) (hcf : confOk R os.length pc regs = true) :
    ∀ c, c ∈ (nextS os pc regs).1 → confOk R os.length c.pc c.regs = true := by
  unfold nextS
  split
  · simp
  · rename_i hh
    have hR : 1 ≤ R ∧ R ≤ 3 ∧ 1 ≤ os.length ∧ os.length ≤ 6 := by simp [validProgS, inRg] at hvp; omega
    have hP : 0 ≤ pc ∧ pc ≤ os.length := by simp [confOk, inRg] at hcf; omega
    have hRg' : regsOk R regs = true := by simp only [confOk, Bool.and_eq_true] at hcf; exact hcf.2
    have hRg := regsOk_ok hRg'
    have hne : pc ≠ os.length ∧ (nthO os pc.toNat).op ≠ 3 := by simp [haltS] at hh; exact hh
    have hlt : pc < os.length := by omega
    have hok : okOrd R os.length (nthO os pc.toNat) = true := by
      simp only [validProgS, Bool.and_eq_true] at hvp
      have h := hvp.2
      rw [allO, List.all_eq_true] at h
      rw [nthO_lt (by omega)]; exact h _ (List.getElem_mem (by omega))
    have hop : ((nthO os pc.toNat).op = 1 ∨ (nthO os pc.toNat).op = 2) ∧ (0 ≤ (nthO os pc.toNat).reg ∧ (nthO os pc.toNat).reg < R) ∧ (0 ≤ (nthO os pc.toNat).to ∧ (nthO os pc.toNat).to ≤ os.length) ∧ (0 ≤ (nthO os pc.toNat).els ∧ (nthO os pc.toNat).els ≤ os.length) := by
      unfold okOrd at hok
      split at hok
      · rename_i h; simp [inRg] at hok; exact ⟨h, by omega, by omega, by omega⟩
      · simp at hok; exact absurd hok.1 hne.2
    have hvv := hRg.2 (nthO os pc.toNat).reg.toNat (by omega)
    have ht : inRg (nthO os pc.toNat).to 0 os.length = true := by simp [inRg]; omega
    have he : inRg (nthO os pc.toNat).els 0 os.length = true := by simp [inRg]; omega
    unfold nextO
    split
    · split
      · intro c hc
        simp at hc; subst hc
        simp only [confOk, ht, Bool.true_and]
        exact set_cnt hRg' (by omega)
      · intro c hc
        simp at hc; subst hc
        simp only [confOk, he, Bool.true_and]
        exact hRg'
    · split
      · simp
      · split
        · intro c hc
          simp at hc; subst hc
          simp only [confOk, ht, Bool.true_and]
          exact set_cnt hRg' (by omega)
        · intro c hc
          simp at hc
          rcases hc with rfl | rfl
          · simp only [confOk, ht, Bool.true_and]
            exact set_cnt hRg' (by omega)
          · simp only [confOk, he, Bool.true_and]
            exact set_cnt hRg' (by omega)
theorem nextS_some {os : List Ord} {pc : Int} {regs : List Int} (hh : haltS os pc = false) (h0 : (nextS os pc regs).2 = 0) : 0 < (nextS os pc regs).1.length := by
  unfold nextS at *
  rw [if_neg (by rw [hh]; simp)] at *
  unfold nextO at *
  split
  · split <;> simp
  · rename_i h2
    rw [if_neg h2] at h0
    split
    · rename_i h3
      rw [if_pos h3] at h0
      simp at h0
    · split <;> simp
theorem firstS_get {os : List Ord} {c : Cfg} (h : 0 < (nextS os c.pc c.regs).1.length) : firstS os c = nthCfg (nextS os c.pc c.regs).1 0 ∧ firstS os c ∈ (nextS os c.pc c.regs).1 := by
  unfold firstS nthCfg
  match (nextS os c.pc c.regs).1, h with
  | x :: l, _ => simp
theorem firstS_ok {R : Int} {os : List Ord} {c : Cfg} (hvp : validProgS R os = true) (hcf : confOk R os.length c.pc c.regs = true) (hh : haltS os c.pc = false) (h0 : (nextS os c.pc c.regs).2 = 0) : confOk R os.length (firstS os c).pc (firstS os c).regs = true :=
  nextS_ok hvp hcf _ (firstS_get (nextS_some hh h0)).2
theorem runE_halt {os : List Ord} {k n : Nat} {c : Cfg} (h : haltS os c.pc = true) : runE os k n c = (c, (n : Int), 0) := by cases k <;> simp [runE, h]
theorem runE_choice {os : List Ord} {k n : Nat} {c : Cfg} (h : haltS os c.pc = false) (h2 : choice (nthO os c.pc.toNat) = true) : runE os (k + 1) n c = (zCfg, 0, 4) := by simp [runE, h, h2]
theorem runE_stuck {os : List Ord} {k n : Nat} {c : Cfg} (h : haltS os c.pc = false) (h2 : choice (nthO os c.pc.toNat) = false) (h3 : (nextS os c.pc c.regs).2 = 3) : runE os (k + 1) n c = (zCfg, 0, 3) := by simp [runE, h, h2, h3]
theorem runE_step {os : List Ord} {k n : Nat} {c : Cfg} (h : haltS os c.pc = false) (h2 : choice (nthO os c.pc.toNat) = false) (h3 : (nextS os c.pc c.regs).2 = 0) : runE os (k + 1) n c = runE os k (n + 1) (firstS os c) := by simp [runE, h, h2, h3]
/-- What the registers and the steps are refused for. -/
def askRun (R : Int) (os : List Ord) (regs : List Int) (steps : Int) : Int := if validProgS R os = true then (if regsOk R regs = true ∧ inRg steps 0 200 = true then 0 else 2) else 1
def runP (R : Int) (os : List Ord) (regs : List Int) (steps : Int) : Cfg × Int × Int :=
  if askRun R os regs steps = 0 then runE os steps.toNat 0 ⟨0, regs⟩ else (zCfg, 0, askRun R os regs steps)
/-- The call returns a row in memory of its own, a number and a code. -/
def RetACC (w : World) (ds : List D) (n code : Int) (e : Ending) (w' : World) : Prop := ∃ vs F, e = .returned (.tuple #[.agg ⟨vs⟩, .int .i64 n, .int .i64 code]) ∧ Below w.heap.size w w' ∧ OwA w' ds vs F ∧ F.Nodup ∧ ∀ g, g ∈ F → w.heap.size ≤ g
theorem RetACC.zero {w w' : World} (n code : Int) (hb : Below w.heap.size w w') : RetACC w zCfg.ds n code (.returned (.tuple #[.agg #[.int .i64 0, .slice none 0 0], .int .i64 n, .int .i64 code])) w' :=
  ⟨[.int .i64 0, .slice none 0 0], [], rfl, hb, ⟨[], _, ⟨rfl, rfl⟩, ⟨[], [], Ow_empty _ _ _ _, rfl, rfl⟩, rfl⟩, by simp, by simp⟩
theorem start_ok {R : Int} {os : List Ord} {regs : List Int} (h : regsOk R regs = true) : confOk R os.length 0 regs = true := by simp [confOk, inRg, h]

/- Runs of a program: the program's. Written by mknj.py. -/
theorem Ow.cfgAt {w : World} {cs : List Cfg} {v : Value} {F : List Nat} (h : Ow w (dCS cs) v F) (hn : F.Nodup) {i : Nat} (hi : i < cs.length) :
    ∃ g o c a' c' F', v = .slice (some ⟨g, o, none⟩) cs.length c ∧ w.cell? ⟨g, o + i * 2, none⟩ = some (.int .i64 (nthCfg cs i).pc) ∧ w.cell? ⟨g, o + (i * 2 + 1), none⟩ = some (.slice a' (nthCfg cs i).regs.length c') ∧
      Ow w (dI (nthCfg cs i).regs) (.slice a' (nthCfg cs i).regs.length c') F' ∧ F'.Nodup ∧ ∀ x, x ∈ F' → x ∈ F := by
  obtain ⟨a, m, c, rfl, hl, _, hr⟩ := h
  rw [dCS_len] at hl
  obtain rfl : m = cs.length := by omega
  rcases hr with ⟨h0, _⟩ | ⟨g, o, F0, rfl, _, rfl, hr⟩
  · have := dCS_len cs; rw [h0] at this; simp at this; omega
  · have hg : g ∉ F0 := (List.nodup_cons.1 hn).1
    have hn0 : F0.Nodup := (List.nodup_cons.1 hn).2
    have key : ∀ j, j < 2 → (cs.flatMap Cfg.ds)[i * 2 + j]? = (nthCfg cs i).ds[j]? := fun j hj => row_get Cfg.ds 2 (fun _ => rfl) cs i j _ (nthCfg_get hi) hj
    obtain ⟨v0, f0, c0, _, o0, _⟩ := OwL.at _ _ _ _ hr hg hn0 (i * 2) (.i (nthCfg cs i).pc) (by have := key 0 (by omega); simpa [Cfg.ds] using this)
    obtain ⟨v1, f1, c1, _, o1, n1, s1, _⟩ := OwL.at _ _ _ _ hr hg hn0 (i * 2 + 1) (dI (nthCfg cs i).regs) (by have := key 1 (by omega); simpa [Cfg.ds] using this)
    obtain ⟨a', c', rfl, _⟩ := Ow_I.1 o1
    obtain ⟨rfl, _⟩ := o0
    exact ⟨g, o, c, a', c', f1, rfl, c0, c1, o1, n1, fun x hx => by simp [s1 x hx]⟩
theorem setA (w : World) (b : Nat) (v0 v1 : Value) {u0 u1 : Value} (h0 : w.cell? ⟨b, 0, none⟩ = some u0) (h1 : w.cell? ⟨b, 1, none⟩ = some u1) :
    ((w.setCell ⟨b, 0, none⟩ v0).setCell ⟨b, 1, none⟩ v1).cell? ⟨b, 0, none⟩ = some v0 ∧ ((w.setCell ⟨b, 0, none⟩ v0).setCell ⟨b, 1, none⟩ v1).cell? ⟨b, 1, none⟩ = some v1 ∧ (w.setCell ⟨b, 0, none⟩ v0).cell? ⟨b, 0, none⟩ = some v0 := by
  have e0 : (w.setCell ⟨b, 0, none⟩ v0).cell? ⟨b, 0, none⟩ = some v0 := World.cell?_setCell_same _ _ _ h0
  have e1 : (w.setCell ⟨b, 0, none⟩ v0).cell? ⟨b, 1, none⟩ = some u1 := by rw [World.cell?_setCell_other _ _ _ _ (by simp)]; exact h1
  exact ⟨by rw [World.cell?_setCell_other _ _ _ _ (by simp)]; exact e0, World.cell?_setCell_same _ _ _ e1, e0⟩
theorem bfroz1 {B b i : Nat} {w w' : World} (h : Below B w w') (hb : b < B) : w'.frozen? ⟨b, i, none⟩ = w.frozen? ⟨b, i, none⟩ := h.frozen hb
theorem RetACC.put {w wr : World} {b : Nat} {pc n code : Int} {regs : List Int} {v : Value} {F : List Nat} (hb : Below w.heap.size w wr) (hbb : w.heap.size ≤ b) (ho : Ow wr (dI regs) v F) (hF : b ∉ F) (hn : F.Nodup) (hf : ∀ g, g ∈ F → w.heap.size ≤ g) :
    RetACC w [.i pc, dI regs] n code (.returned (.tuple #[.agg #[.int .i64 pc, v], .int .i64 n, .int .i64 code])) ((wr.setCell ⟨b, 0, none⟩ (.int .i64 pc)).setCell ⟨b, 1, none⟩ v) := by
  have e1 := (Exc.setCell wr ⟨b, 0, none⟩ (.int .i64 pc)).chg
  have e2 := (Exc.setCell (wr.setCell ⟨b, 0, none⟩ (.int .i64 pc)) ⟨b, 1, none⟩ v).chg
  have ho' := e2.ow (e1.ow ho (fun g hg h => by simp at h; subst h; exact hF hg)) (fun g hg h => by simp at h; subst h; exact hF hg)
  exact ⟨[.int .i64 pc, v], F, rfl, (hb.setCell hbb _).setCell hbb _, ⟨[], F, ⟨rfl, rfl⟩, ⟨F, [], ho', rfl, by simp⟩, by simp⟩, hn, hf⟩
/- Runs of a program: what is refused, and the program's exported function. -/
theorem askRun_bad {R : Int} {os : List Ord} {regs : List Int} {steps : Int} (h : validProgS R os = false) : askRun R os regs steps = 1 := by simp [askRun, h]
theorem askRun_two {R : Int} {os : List Ord} {regs : List Int} {steps : Int} (h : validProgS R os = true) (h2 : regsOk R regs = false ∨ inRg steps 0 200 = false) : askRun R os regs steps = 2 := by
  rcases h2 with h2 | h2 <;> simp [askRun, h, h2]
theorem askRun_zero {R : Int} {os : List Ord} {regs : List Int} {steps : Int} (h : validProgS R os = true) (h2 : regsOk R regs = true) (h3 : inRg steps 0 200 = true) : askRun R os regs steps = 0 := by simp [askRun, h, h2, h3]
theorem askRun_ok {R : Int} {os : List Ord} {regs : List Int} {steps : Int} (h : askRun R os regs steps = 0) : validProgS R os = true ∧ regsOk R regs = true ∧ 0 ≤ steps ∧ steps ≤ 200 := by
  unfold askRun at h
  split at h
  · rename_i h1
    split at h
    · rename_i h2
      exact ⟨h1, h2.1, by have := h2.2; simp [inRg] at this; omega⟩
    · simp at h
  · simp at h
theorem RetACC.cfg {w w' : World} {c : Cfg} {n code : Int} {e : Ending} (h : RetACC w c.ds n code e w') : ∃ a1 c1 F, e = .returned (.tuple #[.agg #[.int .i64 c.pc, .slice a1 c.regs.length c1], .int .i64 n, .int .i64 code]) ∧ Below w.heap.size w w' ∧ Ow w' (dI c.regs) (.slice a1 c.regs.length c1) F ∧ F.Nodup ∧ ∀ g, g ∈ F → w.heap.size ≤ g := by
  obtain ⟨vs, F, rfl, hb, ho, hn, hF⟩ := h
  match vs, ho with
  | [v0, v1], ⟨G0, _, ⟨h0, h0'⟩, ⟨G1, _, h1, h2, h3⟩, h4⟩ =>
    subst h0 h0'
    have h2' : _ = [] := h2
    subst h2' h3
    simp only [List.append_nil, List.nil_append] at h4
    subst h4
    obtain ⟨a1, c1, rfl⟩ := h1.val
    exact ⟨a1, c1, _, rfl, hb, h1, hn, hF⟩
set_option maxHeartbeats 2000000 in
theorem regsCode_c (R : Int) (os : List Ord) (steps : Int) (ao : Option Addr) (co : Nat) (a : Option Addr) (c : Nat) (regs : List Int) (w : World) (ho : SlO Any w ao os) (hx : SlI Any w a regs) :
    Calls Try.prog 67 #[.agg #[.int .i64 R, .slice ao os.length co], .slice a regs.length c, .int .i64 steps] w (RetV w (.int .i64 (askRun R os regs steps))) := by
  have hb : Below w.heap.size w (w.alloc (.cells #[.int .i64 R, .slice ao os.length co] 52)) := below_alloc _ _
  have HV := Lib.hid (implValidProgram_c R Any ao co os _ (ho.below hb))
  have HB := Lib.hid hb
  have HX := Lib.hid hx
  clear hb ho hx
  cases hv : validProgS R os
  · rw [askRun_bad hv]
    rw [hv] at HV
    clear hv
    go_enter Try.func67, Try.ntmps67
    go_wp2_with fail
    refine HV.out.mono ?_
    rintro e w1 ⟨rfl, hb1⟩
    have HB1 := Lib.hid (HB.out.trans (hb1.mono (by simp <;> omega)))
    clear hb1
    go_wp2
    go_ret
    exact ⟨rfl, HB1.out⟩
  · rw [hv] at HV
    cases hr : regsOk R regs
    · rw [askRun_two hv (.inl hr)]
      have HR := Lib.hid hr
      clear hv hr
      go_enter Try.func67, Try.ntmps67
      go_wp2_with fail
      refine HV.out.mono ?_
      rintro e w1 ⟨rfl, hb1⟩
      have e0 : w1.cell? ⟨w.heap.size, 0, none⟩ = some (.int .i64 R) := by rw [bcell1 hb1 (by simp)]; simp [go_sem]
      have e1 : w1.cell? ⟨w.heap.size, 1, none⟩ = some (.slice ao os.length co) := by rw [bcell1 hb1 (by simp)]; simp [go_sem]
      have HB1 := Lib.hid (HB.out.trans (hb1.mono (by simp <;> omega)))
      have hic := areRegs_c R (.slice ao os.length co) a c regs w1 (HX.out.below HB1.out)
      rw [HR.out] at hic
      have HIC := Lib.hid hic
      clear hb1 hic
      go_wp2_with fail
      refine HIC.out.mono ?_
      rintro e w2 ⟨rfl, hb2⟩
      have HB2 := Lib.hid (bnext HB1.out hb2 (Nat.le_refl _))
      clear hb2
      go_wp2
      go_ret
      exact ⟨rfl, HB2.out⟩
    · cases hs : inRg steps 0 200
      · rw [askRun_two hv (.inr hs)]
        have HR := Lib.hid hr
        have HS := Lib.hid hs
        clear hv hr hs
        go_enter Try.func67, Try.ntmps67
        go_wp2_with fail
        refine HV.out.mono ?_
        rintro e w1 ⟨rfl, hb1⟩
        have e0 : w1.cell? ⟨w.heap.size, 0, none⟩ = some (.int .i64 R) := by rw [bcell1 hb1 (by simp)]; simp [go_sem]
        have e1 : w1.cell? ⟨w.heap.size, 1, none⟩ = some (.slice ao os.length co) := by rw [bcell1 hb1 (by simp)]; simp [go_sem]
        have HB1 := Lib.hid (HB.out.trans (hb1.mono (by simp <;> omega)))
        have hic := areRegs_c R (.slice ao os.length co) a c regs w1 (HX.out.below HB1.out)
        rw [HR.out] at hic
        have HIC := Lib.hid hic
        clear hb1 hic
        go_wp2_with fail
        refine HIC.out.mono ?_
        rintro e w2 ⟨rfl, hb2⟩
        have HB2 := Lib.hid (bnext HB1.out hb2 (Nat.le_refl _))
        clear hb2
        go_wp2_with fail
        refine (inRange_c steps 0 200 w2).mono ?_
        rintro e w3 ⟨rfl, rfl⟩
        have hS := HS.out
        go_wp2
        go_ret
        exact ⟨rfl, HB2.out⟩
      · rw [askRun_zero hv hr hs]
        have HR := Lib.hid hr
        have HS := Lib.hid hs
        clear hv hr hs
        go_enter Try.func67, Try.ntmps67
        go_wp2_with fail
        refine HV.out.mono ?_
        rintro e w1 ⟨rfl, hb1⟩
        have e0 : w1.cell? ⟨w.heap.size, 0, none⟩ = some (.int .i64 R) := by rw [bcell1 hb1 (by simp)]; simp [go_sem]
        have e1 : w1.cell? ⟨w.heap.size, 1, none⟩ = some (.slice ao os.length co) := by rw [bcell1 hb1 (by simp)]; simp [go_sem]
        have HB1 := Lib.hid (HB.out.trans (hb1.mono (by simp <;> omega)))
        have hic := areRegs_c R (.slice ao os.length co) a c regs w1 (HX.out.below HB1.out)
        rw [HR.out] at hic
        have HIC := Lib.hid hic
        clear hb1 hic
        go_wp2_with fail
        refine HIC.out.mono ?_
        rintro e w2 ⟨rfl, hb2⟩
        have HB2 := Lib.hid (bnext HB1.out hb2 (Nat.le_refl _))
        clear hb2
        go_wp2_with fail
        refine (inRange_c steps 0 200 w2).mono ?_
        rintro e w3 ⟨rfl, rfl⟩
        have hS := HS.out
        go_wp2
        go_ret
        exact ⟨rfl, HB2.out⟩
set_option maxHeartbeats 2000000 in
theorem l05Asked_c (R : Int) (os : List Ord) (steps : Int) (p : Nat) (ao : Option Addr) (co : Nat) (a : Option Addr) (c : Nat) (regs : List Int) (w : World) (ho : SlO Any w ao os) (hx : SlI Any w a regs) (hp0 : w.cell? ⟨p, 0, none⟩ = some (.int .i64 R)) (hp1 : w.cell? ⟨p, 1, none⟩ = some (.slice ao os.length co)) :
    Calls Try.prog 60 #[.pointer (some ⟨p, 0, none⟩), .slice a regs.length c, .int .i64 steps] w (RetV w (.int .i64 (askRun R os regs steps))) := by
  have hpl : p < w.heap.size := World.block_lt_of_cell? w _ hp0
  have HV := Lib.hid (l05Ok_c R Any ao co os p w ho hp0 hp1)
  have HX := Lib.hid hx
  clear ho hx
  cases hv : validProgS R os
  · rw [askRun_bad hv]
    rw [hv] at HV
    clear hv
    go_enter Try.func60, Try.ntmps60
    go_wp2_with fail
    refine HV.out.mono ?_
    rintro e w1 ⟨rfl, hb1⟩
    have HB1 := Lib.hid hb1
    clear hb1
    go_wp2
    go_ret
    exact ⟨rfl, HB1.out⟩
  · rw [hv] at HV
    cases hr : regsOk R regs
    · rw [askRun_two hv (.inl hr)]
      have HR := Lib.hid hr
      clear hv hr
      go_enter Try.func60, Try.ntmps60
      go_wp2_with fail
      refine HV.out.mono ?_
      rintro e w1 ⟨rfl, hb1⟩
      have HB1 := Lib.hid hb1
      have hic := l05Regs_c R p a c regs w1 (HX.out.below HB1.out) ((bcell1 HB1.out hpl).trans hp0)
      rw [HR.out] at hic
      have HIC := Lib.hid hic
      clear hb1 hic
      go_wp2_with fail
      refine HIC.out.mono ?_
      rintro e w2 ⟨rfl, rfl⟩
      go_wp2
      go_ret
      exact ⟨rfl, HB1.out⟩
    · cases hs : inRg steps 0 200
      · rw [askRun_two hv (.inr hs)]
        have HR := Lib.hid hr
        have HS := Lib.hid hs
        clear hv hr hs
        go_enter Try.func60, Try.ntmps60
        go_wp2_with fail
        refine HV.out.mono ?_
        rintro e w1 ⟨rfl, hb1⟩
        have HB1 := Lib.hid hb1
        have hic := l05Regs_c R p a c regs w1 (HX.out.below HB1.out) ((bcell1 HB1.out hpl).trans hp0)
        rw [HR.out] at hic
        have HIC := Lib.hid hic
        clear hb1 hic
        go_wp2_with fail
        refine HIC.out.mono ?_
        rintro e w2 ⟨rfl, rfl⟩
        go_wp2_with fail
        refine (l00In_c steps 0 200 _).mono ?_
        rintro e w3 ⟨rfl, rfl⟩
        have hS := HS.out
        go_wp2
        go_ret
        exact ⟨rfl, HB1.out⟩
      · rw [askRun_zero hv hr hs]
        have HR := Lib.hid hr
        have HS := Lib.hid hs
        clear hv hr hs
        go_enter Try.func60, Try.ntmps60
        go_wp2_with fail
        refine HV.out.mono ?_
        rintro e w1 ⟨rfl, hb1⟩
        have HB1 := Lib.hid hb1
        have hic := l05Regs_c R p a c regs w1 (HX.out.below HB1.out) ((bcell1 HB1.out hpl).trans hp0)
        rw [HR.out] at hic
        have HIC := Lib.hid hic
        clear hb1 hic
        go_wp2_with fail
        refine HIC.out.mono ?_
        rintro e w2 ⟨rfl, rfl⟩
        go_wp2_with fail
        refine (l00In_c steps 0 200 _).mono ?_
        rintro e w3 ⟨rfl, rfl⟩
        have hS := HS.out
        go_wp2
        go_ret
        exact ⟨rfl, HB1.out⟩

/- Runs of a program: the reference's. Written by mknl.py. -/
theorem runC_halt {os : List Ord} {k : Nat} {c : Cfg} (h : haltS os c.pc = true) : runC os k c = ([c], 0) := by cases k <;> simp [runC, h]
theorem runC_choice {os : List Ord} {k : Nat} {c : Cfg} (h : haltS os c.pc = false) (h2 : choice (nthO os c.pc.toNat) = true) : runC os (k + 1) c = ([c], 4) := by simp [runC, h, h2]
theorem runC_stuck {os : List Ord} {k : Nat} {c : Cfg} (h : haltS os c.pc = false) (h2 : choice (nthO os c.pc.toNat) = false) (h3 : (nextS os c.pc c.regs).2 = 3) : runC os (k + 1) c = ([c], 3) := by simp [runC, h, h2, h3]
theorem runC_step {os : List Ord} {k : Nat} {c : Cfg} (h : haltS os c.pc = false) (h2 : choice (nthO os c.pc.toNat) = false) (h3 : (nextS os c.pc c.regs).2 = 0) : runC os (k + 1) c = (c :: (runC os k (firstS os c)).1, (runC os k (firstS os c)).2) := by simp [runC, h, h2, h3]
theorem nthCfg_last (pre : List Cfg) (c : Cfg) : nthCfg (pre ++ [c]) pre.length = c := by simp [nthCfg]
set_option maxHeartbeats 8000000 in
set_option maxRecDepth 100000 in
theorem l05Run_c (R : Int) (os : List Ord) (steps : Nat) (p : Nat) (ao : Option Addr) (co : Nat) (a : Option Addr) (c : Nat) (regs : List Int) (w : World) (ho : SlO Any w ao os) (hx : SlI Any w a regs) (hp0 : w.cell? ⟨p, 0, none⟩ = some (.int .i64 R)) (hp1 : w.cell? ⟨p, 1, none⟩ = some (.slice ao os.length co)) (hvp : validProgS R os = true) (hrg : regsOk R regs = true) (hst : steps ≤ 200) :
    Calls Try.prog 87 #[.pointer (some ⟨p, 0, none⟩), .slice a regs.length c, .int .i64 steps] w (RetDC w (dCS (runC os steps ⟨0, regs⟩).1) (runC os steps ⟨0, regs⟩).2) := by
  have hR : 1 ≤ R ∧ R ≤ 3 ∧ 1 ≤ os.length ∧ os.length ≤ 6 := by simp [validProgS, inRg] at hvp; omega
  have hl8 : regs.length ≤ 8 := by have := (regsOk_ok hrg).1; omega
  have hpl : p < w.heap.size := World.block_lt_of_cell? w _ hp0
  have HV := Lib.hid hvp
  have HO := Lib.hid ho
  have HX := Lib.hid hx
  have HS := Lib.hid (start_ok (os := os) hrg)
  clear hvp ho hx hrg
  go_enter Try.func87, Try.ntmps87
  go_wp2_with fail
  refine (l00OwnN_c Any a c regs _ HX.out (by omega)).mono ?_
  rintro e w1 ⟨v1, rfl, hb1, hl1⟩
  obtain ⟨a1, c1, F1, rfl, ho1, hn1, hF1⟩ := hl1.ow (by unfold maxLen; omega)
  have hls := Lst.cfg1 (E := 68) ho1 hn1 hF1 hb1.size 0
  have HLS := Lib.hid hls
  have HB1 := Lib.hid hb1
  clear hls hb1 ho1 hn1 hF1 hl1
  go_wp2
  go_loopw [8, 9, 10, 11, 12, 13] (fun v i0 _ _ _ _ wr => ∃ (k : Nat) (pre : List Cfg) (cur : Cfg) (G : List Nat), k ≤ steps ∧ pre.length = k ∧ i0 = .int .i64 k ∧ Hid (runC os steps ⟨0, regs⟩ = (pre ++ (runC os (steps - k) cur).1, (runC os (steps - k) cur).2)) ∧ Hid (confOk R os.length cur.pc cur.regs = true) ∧ Hid (Below w.heap.size w wr) ∧ Hid (Lst 68 2 wr w.heap.size v (k + 1) ((pre ++ [cur]).flatMap Cfg.ds) G)) (fun _ i0 _ _ _ _ _ => steps - (intOf i0).toNat)
  case atStart => exact ⟨0, [], ⟨0, regs⟩, _, Nat.zero_le _, rfl, rfl, Lib.hid rfl, HS, Lib.hid (HB1.out.alloc HB1.out.size _), Lib.hid (by have := HLS.out; simpa [Cfg.ds] using this)⟩
  case round =>
    obtain ⟨k, pre, cur, G, hk, hpre, rfl, HE, HC, HBR, HL⟩ := hrel
    have hP : 0 ≤ cur.pc ∧ cur.pc ≤ os.length := by have := HC.out; simp [confOk, inRg] at this; omega
    obtain ⟨G', how, hnd, hsub⟩ := HL.out.ow (by omega) (by unfold maxLen; omega)
    obtain ⟨g, o, cc, a', c', F', ev, c0, c1', o1, n1, s1⟩ := (show Ow wr (dCS (pre ++ [cur])) _ G' from how).cfgAt hnd (i := k) (by simp; omega)
    have hlast : nthCfg (pre ++ [cur]) k = cur := by rw [← hpre]; exact nthCfg_last pre cur
    rw [hlast] at c0 c1' o1
    rw [show (pre ++ [cur]).length = k + 1 by simp [hpre]] at ev
    subst ev
    have hgl : g < wr.heap.size := World.block_lt_of_cell? wr _ c0
    have hpr : p < wr.heap.size := by have := HBR.out.size; omega
    have P0 := (bcell1 HBR.out hpl).trans hp0
    have P1 := (bcell1 HBR.out hpl).trans hp1
    have hOE : Hid (∀ w', Below wr.heap.size wr w' → SlI Any w' a' cur.regs) := Lib.hid (fun w' hb => (o1.below hb).arg)
    have ix : ∀ w', (Instr.indexAt 64 (.slice (some ⟨g, o, none⟩) (k + 1) cc) (.int .i64 k)).run Try.prog w' = .ok (.pointer (some ⟨g, o + k * 2, none⟩)) w' := fun w' => by
      have := ix_of (P := Try.prog) tabConfigSM.under tabConfigSM.size (a := some ⟨g, o, none⟩) (n := k + 1) (fun _ => ⟨g, o, rfl⟩) cc k w' (by omega) (by omega)
      simpa [adr, blk, ofs] using this
    clear how hnd hsub o1 n1 s1 hlast
    by_cases hks : k < steps
    rotate_left
    · have hres : runC os steps ⟨0, regs⟩ = (pre ++ [cur], 0) := by rw [HE.out, show steps - k = 0 by omega]; simp [runC]
      have HRS := Lib.hid hres
      clear hres HE
      go_wp2
      go_ret2
      rw [HRS.out]
      exact RetDC.ofLst (cs := pre ++ [cur]) 0 HL.out (by simp; omega) rfl HBR.out (by unfold maxLen; omega)
    · obtain ⟨k', hk'⟩ : ∃ k', steps - k = k' + 1 := ⟨steps - k - 1, by omega⟩
      rw [hk'] at HE
      have HH := Lib.hid (l05Halts_c os cur.pc ao co p wr (HO.out.below HBR.out) P1 hP.1 hP.2)
      cases hh : haltS os cur.pc
      rotate_left
      · have hres : runC os steps ⟨0, regs⟩ = (pre ++ [cur], 0) := by rw [HE.out, runC_halt hh]
        have HRS := Lib.hid hres
        rw [hh] at HH
        clear hres HE hh
        go_wp2_with fail
        refine HH.out.mono ?_
        rintro e w2 ⟨rfl, rfl⟩
        go_wp2
        go_ret2
        rw [HRS.out]
        exact RetDC.ofLst (cs := pre ++ [cur]) 0 HL.out (by simp; omega) rfl HBR.out (by unfold maxLen; omega)
      · rw [hh] at HH
        have hne : cur.pc ≠ os.length ∧ (nthO os cur.pc.toNat).op ≠ 3 := by simp [haltS] at hh; exact hh
        have hlt : cur.pc < os.length := by omega
        have i0 := fun w' => ixO HO.out co cur.pc w' hP.1 hlt
        have g0 := (HO.out.below HBR.out).c0 cur.pc.toNat (by omega)
        have g1 := (HO.out.below HBR.out).c1 cur.pc.toNat (by omega)
        have g2 := (HO.out.below HBR.out).c2 cur.pc.toNat (by omega)
        have g3 := (HO.out.below HBR.out).c3 cur.pc.toNat (by omega)
        have k0 := fun ob => ((below_alloc wr ob).cell (World.block_lt_of_cell? wr _ g0)).trans g0
        have k1 := fun ob => ((below_alloc wr ob).cell (World.block_lt_of_cell? wr _ g1)).trans g1
        have k2 := fun ob => ((below_alloc wr ob).cell (World.block_lt_of_cell? wr _ g2)).trans g2
        have k3 := fun ob => ((below_alloc wr ob).cell (World.block_lt_of_cell? wr _ g3)).trans g3
        have HHF := Lib.hid hh
        have HBA : Hid (Below wr.heap.size wr ((wr.alloc (.cells #[.int .i64 (nthO os cur.pc.toNat).op, .int .i64 (nthO os cur.pc.toNat).reg, .int .i64 (nthO os cur.pc.toNat).to, .int .i64 (nthO os cur.pc.toNat).els] 125)).drew)) := Lib.hid (below_alloc wr _).drew
        have HBO : Hid (Below w.heap.size w ((wr.alloc (.cells #[.int .i64 (nthO os cur.pc.toNat).op, .int .i64 (nthO os cur.pc.toNat).reg, .int .i64 (nthO os cur.pc.toNat).to, .int .i64 (nthO os cur.pc.toNat).els] 125)).drew)) := Lib.hid (bnext HBR.out HBA.out (Nat.le_refl _))
        clear hh hne
        cases hc : choice (nthO os cur.pc.toNat)
        rotate_left
        · have hres : runC os steps ⟨0, regs⟩ = (pre ++ [cur], 4) := by rw [HE.out, runC_choice HHF.out hc]
          have HRS := Lib.hid hres
          have bo : ((nthO os cur.pc.toNat).op == 1) = true := by simp only [choice, Bool.and_eq_true] at hc; exact hc.1
          have bt : ((nthO os cur.pc.toNat).to != (nthO os cur.pc.toNat).els) = true := by simp only [choice, Bool.and_eq_true] at hc; exact hc.2
          clear hres HE hc
          go_wp2_with fail
          refine HH.out.mono ?_
          rintro e w2 ⟨rfl, rfl⟩
          go_wp2
          go_region
          all_goals
            go_wp2
            go_ret2
            rw [HRS.out]
            exact RetDC.ofLst (cs := pre ++ [cur]) 4 (HL.out.below HBA.out) (by simp; omega) rfl HBO.out (by unfold maxLen; omega)
        · have HCC := Lib.hid hc
          have wC0 := (bcell1 HBA.out hgl).trans c0
          have wC1 := (bcell1 HBA.out hgl).trans c1'
          have wP0 := (bcell1 HBA.out hpr).trans P0
          have wP1 := (bcell1 HBA.out hpr).trans P1
          have HN := Lib.hid (l05Next_c R ao co p g (o + k * 2) os cur.pc a' c' cur.regs ((wr.alloc (.cells #[.int .i64 (nthO os cur.pc.toNat).op, .int .i64 (nthO os cur.pc.toNat).reg, .int .i64 (nthO os cur.pc.toNat).to, .int .i64 (nthO os cur.pc.toNat).els] 125)).drew) (HO.out.below HBO.out) (hOE.out _ HBA.out) wP0 wP1 wC0 wC1 HV.out HC.out)
          clear wC0 wC1 wP0 wP1
          by_cases e1 : (nthO os cur.pc.toNat).op = 1
          · have bo : ((nthO os cur.pc.toNat).op == 1) = true := by simp [e1]
            have bt : ((nthO os cur.pc.toNat).to != (nthO os cur.pc.toNat).els) = false := by simp only [choice, bo, Bool.true_and] at hc; exact hc
            clear hc e1
            go_wp2_with fail
            refine HH.out.mono ?_
            rintro e w2 ⟨rfl, rfl⟩
            go_wp2
            go_region
            all_goals
              go_wp2_with fail
              refine HN.out.mono ?_
              rintro e w3 ⟨v3, F3, rfl, hb3, ho3, hn3, hf3⟩
              have hz3 : wr.heap.size + 1 ≤ w3.heap.size := by have := hb3.size; (try simp at this); omega
              have HBC3 : Hid (Below wr.heap.size wr w3) := Lib.hid (bnext HBA.out hb3 (by simp))
              have HB3 : Hid (Below w.heap.size w w3) := Lib.hid (bnext HBO.out hb3 (Nat.le_refl _))
              have HL3 := Lib.hid (HL.out.below HBC3.out)
              have HO3 := Lib.hid ho3
              have HN3 := Lib.hid hn3
              have HF3 : Hid (∀ x, x ∈ F3 → wr.heap.size + 1 ≤ x) := Lib.hid (fun x hx => by have := hf3 x hx; (try simp at this); omega)
              clear hb3 ho3 hn3 hf3
              rcases nextS_code os cur.pc cur.regs with e0 | ⟨_, e3⟩
              rotate_left
              · have hres : runC os steps ⟨0, regs⟩ = (pre ++ [cur], 3) := by rw [HE.out, runC_stuck HHF.out HCC.out e3]
                have HRS := Lib.hid hres
                have b5 : ((nextS os cur.pc cur.regs).2 == 0) = false := by rw [e3]; rfl
                clear hres HE e3
                go_wp2
                go_ret2
                rw [HRS.out]
                exact RetDC.ofLst (cs := pre ++ [cur]) 3 HL3.out (by simp; omega) rfl HB3.out (by unfold maxLen; omega)
              · have hres : runC os steps ⟨0, regs⟩ = ((pre ++ [cur]) ++ (runC os (steps - (k + 1)) (firstS os cur)).1, (runC os (steps - (k + 1)) (firstS os cur)).2) := by rw [HE.out, runC_step HHF.out HCC.out e0, show steps - (k + 1) = k' by omega]; simp
                have HRS := Lib.hid hres
                have b5 : ((nextS os cur.pc cur.regs).2 == 0) = true := by rw [e0]; rfl
                have hpos := nextS_some HHF.out e0
                have hfg := firstS_get hpos
                have HOKF := Lib.hid (firstS_ok HV.out HC.out HHF.out e0)
                obtain ⟨g3, o3, c3, a5, c5, F5, ev, d0, d1, o5, n5, s5⟩ := HO3.out.cfgAt HN3.out hpos
                subst ev
                rw [← hfg.1] at d0 d1 o5
                simp only [Nat.zero_mul, Nat.add_zero, Nat.zero_add] at d0 d1
                have i3 : ∀ w', (Instr.indexAt 64 (.slice (some ⟨g3, o3, none⟩) (nextS os cur.pc cur.regs).1.length c3) (.int .i64 0)).run Try.prog w' = .ok (.pointer (some ⟨g3, o3, none⟩)) w' := fun w' => by
                  have := ix_of (P := Try.prog) tabConfigSM.under tabConfigSM.size (a := some ⟨g3, o3, none⟩) (n := (nextS os cur.pc cur.regs).1.length) (fun _ => ⟨g3, o3, rfl⟩) c3 0 w' (by omega) (by omega)
                  simpa [adr, blk, ofs] using this
                have HROW : Hid (RowAt (w3.alloc (.cells #[.int .i64 (firstS os cur).pc, .slice a5 (firstS os cur).regs.length c5] 68)) w3.heap.size 2 w.heap.size [.i (firstS os cur).pc, dI (firstS os cur).regs] [.int .i64 (firstS os cur).pc, .slice a5 (firstS os cur).regs.length c5] F5 G) :=
                  Lib.hid ⟨⟨[], F5, ⟨rfl, rfl⟩, ⟨F5, [], o5.below (below_alloc _ _), rfl, by simp⟩, by simp⟩, rfl, n5, fun x hx => by have h1 := HF3.out x (s5 x hx); have := HBR.out.size; omega, fun x hx hg => by have h1 := HF3.out x (s5 x hx); have h2 := (HL.out.lt x hg).2; omega, (fun j u hu => by match j, hu with | 0, hu => (simp at hu; subst hu; simp) | 1, hu => (simp at hu; subst hu; simp)), by simp [Value.oneCell']⟩
                have HL4 := Lib.hid (HL3.out.below (below_alloc w3 (.cells #[.int .i64 (firstS os cur).pc, .slice a5 (firstS os cur).regs.length c5] 68)))
                clear hres HE e0 hfg o5 n5 s5
                go_wp2_with (at_builtin; refine app_lst rfl _ _ 64 rfl tabConfigSM rfl (by omega) (by decide) w.heap.size _ (k + 1) _ _ _ _ _ rfl HL4.out w3.heap.size rfl HROW.out (by omega) (by have := HB3.out.size; first | omega | (simp; omega)) ?_)
                intro v7 w7 G7 hN
                have hb7 : Below w.heap.size w w7 := (HB3.out.alloc HB3.out.size _).trans (hN.chg.below (by have := HB3.out.size; simp; omega) (fun x hx => (HL4.out.lt x (ob_sub HL4.out x hx)).1))
                have HB7 := Lib.hid hb7
                have HL7 : Hid (Lst 68 2 w7 w.heap.size v7 (k + 1 + 1) (((pre ++ [cur]) ++ [firstS os cur]).flatMap Cfg.ds) G7) := Lib.hid (by have := hN.lst; simpa [List.flatMap_append, Cfg.ds] using this)
                clear hN hb7
                go_wp2
                go_roundw
                case rel => exact ⟨k + 1, pre ++ [cur], firstS os cur, G7, by omega, by simp; omega, by go_num, HRS, HOKF, HB7, HL7⟩
                case measure => simp [intOf]; omega
          · have bo : ((nthO os cur.pc.toNat).op == 1) = false := by simp [e1]
            clear hc e1
            go_wp2_with fail
            refine HH.out.mono ?_
            rintro e w2 ⟨rfl, rfl⟩
            go_wp2
            go_region
            all_goals
              go_wp2_with fail
              refine HN.out.mono ?_
              rintro e w3 ⟨v3, F3, rfl, hb3, ho3, hn3, hf3⟩
              have hz3 : wr.heap.size + 1 ≤ w3.heap.size := by have := hb3.size; (try simp at this); omega
              have HBC3 : Hid (Below wr.heap.size wr w3) := Lib.hid (bnext HBA.out hb3 (by simp))
              have HB3 : Hid (Below w.heap.size w w3) := Lib.hid (bnext HBO.out hb3 (Nat.le_refl _))
              have HL3 := Lib.hid (HL.out.below HBC3.out)
              have HO3 := Lib.hid ho3
              have HN3 := Lib.hid hn3
              have HF3 : Hid (∀ x, x ∈ F3 → wr.heap.size + 1 ≤ x) := Lib.hid (fun x hx => by have := hf3 x hx; (try simp at this); omega)
              clear hb3 ho3 hn3 hf3
              rcases nextS_code os cur.pc cur.regs with e0 | ⟨_, e3⟩
              rotate_left
              · have hres : runC os steps ⟨0, regs⟩ = (pre ++ [cur], 3) := by rw [HE.out, runC_stuck HHF.out HCC.out e3]
                have HRS := Lib.hid hres
                have b5 : ((nextS os cur.pc cur.regs).2 == 0) = false := by rw [e3]; rfl
                clear hres HE e3
                go_wp2
                go_ret2
                rw [HRS.out]
                exact RetDC.ofLst (cs := pre ++ [cur]) 3 HL3.out (by simp; omega) rfl HB3.out (by unfold maxLen; omega)
              · have hres : runC os steps ⟨0, regs⟩ = ((pre ++ [cur]) ++ (runC os (steps - (k + 1)) (firstS os cur)).1, (runC os (steps - (k + 1)) (firstS os cur)).2) := by rw [HE.out, runC_step HHF.out HCC.out e0, show steps - (k + 1) = k' by omega]; simp
                have HRS := Lib.hid hres
                have b5 : ((nextS os cur.pc cur.regs).2 == 0) = true := by rw [e0]; rfl
                have hpos := nextS_some HHF.out e0
                have hfg := firstS_get hpos
                have HOKF := Lib.hid (firstS_ok HV.out HC.out HHF.out e0)
                obtain ⟨g3, o3, c3, a5, c5, F5, ev, d0, d1, o5, n5, s5⟩ := HO3.out.cfgAt HN3.out hpos
                subst ev
                rw [← hfg.1] at d0 d1 o5
                simp only [Nat.zero_mul, Nat.add_zero, Nat.zero_add] at d0 d1
                have i3 : ∀ w', (Instr.indexAt 64 (.slice (some ⟨g3, o3, none⟩) (nextS os cur.pc cur.regs).1.length c3) (.int .i64 0)).run Try.prog w' = .ok (.pointer (some ⟨g3, o3, none⟩)) w' := fun w' => by
                  have := ix_of (P := Try.prog) tabConfigSM.under tabConfigSM.size (a := some ⟨g3, o3, none⟩) (n := (nextS os cur.pc cur.regs).1.length) (fun _ => ⟨g3, o3, rfl⟩) c3 0 w' (by omega) (by omega)
                  simpa [adr, blk, ofs] using this
                have HROW : Hid (RowAt (w3.alloc (.cells #[.int .i64 (firstS os cur).pc, .slice a5 (firstS os cur).regs.length c5] 68)) w3.heap.size 2 w.heap.size [.i (firstS os cur).pc, dI (firstS os cur).regs] [.int .i64 (firstS os cur).pc, .slice a5 (firstS os cur).regs.length c5] F5 G) :=
                  Lib.hid ⟨⟨[], F5, ⟨rfl, rfl⟩, ⟨F5, [], o5.below (below_alloc _ _), rfl, by simp⟩, by simp⟩, rfl, n5, fun x hx => by have h1 := HF3.out x (s5 x hx); have := HBR.out.size; omega, fun x hx hg => by have h1 := HF3.out x (s5 x hx); have h2 := (HL.out.lt x hg).2; omega, (fun j u hu => by match j, hu with | 0, hu => (simp at hu; subst hu; simp) | 1, hu => (simp at hu; subst hu; simp)), by simp [Value.oneCell']⟩
                have HL4 := Lib.hid (HL3.out.below (below_alloc w3 (.cells #[.int .i64 (firstS os cur).pc, .slice a5 (firstS os cur).regs.length c5] 68)))
                clear hres HE e0 hfg o5 n5 s5
                go_wp2_with (at_builtin; refine app_lst rfl _ _ 64 rfl tabConfigSM rfl (by omega) (by decide) w.heap.size _ (k + 1) _ _ _ _ _ rfl HL4.out w3.heap.size rfl HROW.out (by omega) (by have := HB3.out.size; first | omega | (simp; omega)) ?_)
                intro v7 w7 G7 hN
                have hb7 : Below w.heap.size w w7 := (HB3.out.alloc HB3.out.size _).trans (hN.chg.below (by have := HB3.out.size; simp; omega) (fun x hx => (HL4.out.lt x (ob_sub HL4.out x hx)).1))
                have HB7 := Lib.hid hb7
                have HL7 : Hid (Lst 68 2 w7 w.heap.size v7 (k + 1 + 1) (((pre ++ [cur]) ++ [firstS os cur]).flatMap Cfg.ds) G7) := Lib.hid (by have := hN.lst; simpa [List.flatMap_append, Cfg.ds] using this)
                clear hN hb7
                go_wp2
                go_roundw
                case rel => exact ⟨k + 1, pre ++ [cur], firstS os cur, G7, by omega, by simp; omega, by go_num, HRS, HOKF, HB7, HL7⟩
                case measure => simp [intOf]; omega

/- Runs of a program: the reference's exported function. -/
theorem runP_bad {R : Int} {os : List Ord} {regs : List Int} {steps : Int} (h : askRun R os regs steps ≠ 0) : runP R os regs steps = (zCfg, 0, askRun R os regs steps) := by rw [runP, if_neg h]
theorem runP_err {R : Int} {os : List Ord} {regs : List Int} {m : Nat} (h : askRun R os regs m = 0) (h2 : (runC os m ⟨0, regs⟩).2 ≠ 0) : runP R os regs m = (zCfg, 0, (runC os m ⟨0, regs⟩).2) := by
  rw [runP, if_pos h]; simp only [Int.toNat_natCast]; rw [runE_runC, if_neg h2]
theorem runP_fine {R : Int} {os : List Ord} {regs : List Int} {m n : Nat} (h : askRun R os regs m = 0) (h2 : (runC os m ⟨0, regs⟩).2 = 0) (hn : (runC os m ⟨0, regs⟩).1.length = n + 1) : runP R os regs m = (nthCfg (runC os m ⟨0, regs⟩).1 n, (n : Int), 0) := by
  rw [runP, if_pos h]; simp only [Int.toNat_natCast]; rw [runE_runC, if_pos h2, hn]
  have e : (runC os m ⟨0, regs⟩).1.getLastD zCfg = nthCfg (runC os m ⟨0, regs⟩).1 n := by
    rw [List.getLastD_eq_getLast?, List.getLast?_eq_getElem?, hn, nthCfg, List.getD_eq_getElem?_getD]; rfl
  rw [e]
  congr 2
  omega
