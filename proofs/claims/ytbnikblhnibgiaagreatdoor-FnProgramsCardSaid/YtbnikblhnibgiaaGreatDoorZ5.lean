/- Runs of a program: what they are. -/
import Derived.Test.YtbnikblhnibgiaaGreatDoorZ4
import Derived.Lib.SlicesCompact
namespace Go.Proofs.YtbnikblhnibgiaaGreatDoor
open Go.RowKit

/-- An order that leaves a choice. -/
def choice (o : Ord) : Bool := (o.op == 1) && (o.to != o.els)
/-- The first config that can follow. -/
def firstS (os : List Ord) (c : Cfg) : Cfg := (nextS os c.pc c.regs).1.headD zCfg
/-- The configs that a run meets, and a code. -/
def runC (os : List Ord) : Nat → Cfg → List Cfg × Int
  | 0, c => ([c], 0)
  | k + 1, c => if haltS os c.pc = true then ([c], 0) else if choice (nthO os c.pc.toNat) = true then ([c], 4)
      else if (nextS os c.pc c.regs).2 = 0 then (c :: (runC os k (firstS os c)).1, (runC os k (firstS os c)).2) else ([c], 3)
/-- The last config, how many steps, and a code. -/
def runE (os : List Ord) : Nat → Nat → Cfg → Cfg × Int × Int
  | 0, n, c => (c, n, 0)
  | k + 1, n, c => if haltS os c.pc = true then (c, n, 0) else if choice (nthO os c.pc.toNat) = true then (zCfg, 0, 4)
      else if (nextS os c.pc c.regs).2 = 0 then runE os k (n + 1) (firstS os c) else (zCfg, 0, 3)
theorem runC_pos (os : List Ord) : ∀ (k : Nat) (c : Cfg), 0 < (runC os k c).1.length
  | 0, _ => by simp [runC]
  | k + 1, c => by unfold runC; repeat (split <;> try simp)
theorem runC_len (os : List Ord) : ∀ (k : Nat) (c : Cfg), (runC os k c).1.length ≤ k + 1
  | 0, _ => by simp [runC]
  | k + 1, c => by
    have := runC_len os k (firstS os c)
    unfold runC
    repeat (split <;> try (simp; done))
    simp; omega
theorem runE_runC (os : List Ord) : ∀ (k n : Nat) (c : Cfg), runE os k n c = if (runC os k c).2 = 0 then ((runC os k c).1.getLastD zCfg, (n : Int) + ((runC os k c).1.length : Int) - 1, 0) else (zCfg, 0, (runC os k c).2)
  | 0, n, c => by simp [runE, runC]
  | k + 1, n, c => by
    unfold runE runC
    by_cases h1 : haltS os c.pc = true
    · simp [h1]
    · by_cases h2 : choice (nthO os c.pc.toNat) = true
      · simp [h1, h2]
      · by_cases h3 : (nextS os c.pc c.regs).2 = 0
        · have ih := runE_runC os k (n + 1) (firstS os c)
          have hp := runC_pos os k (firstS os c)
          simp only [h1, h2, h3, if_true, ih]
          by_cases h4 : (runC os k (firstS os c)).2 = 0
          · simp only [h4, if_true]
            have e1 : (c :: (runC os k (firstS os c)).1).getLastD zCfg = (runC os k (firstS os c)).1.getLastD zCfg := by
              match h : (runC os k (firstS os c)).1, hp with
              | x :: l, _ => simp [List.getLastD]
            simp only [Bool.false_eq_true, if_false, e1, List.length_cons]
            congr 2
            omega
          · simp [h4]
        · simp [h1, h2, h3]
/-- A valid program never leaves itself. -/
theorem set_cnt {regs : List Int} {i : Nat} {v : Int} {R : Int} (h : regsOk R regs = true) (hv : 0 ≤ v ∧ v ≤ 1000) : regsOk R (regs.set i v) = true := by
  simp only [regsOk, Bool.and_eq_true] at h ⊢
  refine ⟨by simpa using h.1, ?_⟩
  rw [allB, List.all_eq_true] at *
  intro x hx
  rcases List.mem_or_eq_of_mem_set hx with hx | rfl
  · exact h.2 x hx
  · simp [cntOk, inRg]; omega
theorem nextS_ok {R : Int} {os : List Ord} {pc : Int} {regs : List Int} (hvp : validProgS R os = true) (hcf : confOk R os.length pc regs = true) :
    ∀ c, c ∈ (nextS os pc regs).1 → confOk R os.length c.pc c.regs = true := by
  unfold nextS
  split
  · simp
  · rename_i hh
    have hR : 1 ≤ R ∧ R ≤ 3 ∧ 1 ≤ os.length ∧ os.length ≤ 6 := by simp [validProgS, inRg] at hvp; omega
    have hP : 0 ≤ pc ∧ pc ≤ os.length := by simp [confOk, inRg] at hcf; omega
    have hRg' : regsOk R regs = true := by simp only [confOk, Bool.and_eq_true] at hcf; exact hcf.2
    have hRg := regsOk_ok hRg'
    have hne : pc ≠ os.length ∧ (nthO os pc.toNat).op ≠ 3 := by simp [haltS] at hh; exact hh
    have hlt : pc < os.length := by omega
    have hok : okOrd R os.length (nthO os pc.toNat) = true := by
      simp only [validProgS, Bool.and_eq_true] at hvp
      have h := hvp.2
      rw [allO, List.all_eq_true] at h
      rw [nthO_lt (by omega)]; exact h _ (List.getElem_mem (by omega))
    have hop : ((nthO os pc.toNat).op = 1 ∨ (nthO os pc.toNat).op = 2) ∧ (0 ≤ (nthO os pc.toNat).reg ∧ (nthO os pc.toNat).reg < R) ∧ (0 ≤ (nthO os pc.toNat).to ∧ (nthO os pc.toNat).to ≤ os.length) ∧ (0 ≤ (nthO os pc.toNat).els ∧ (nthO os pc.toNat).els ≤ os.length) := by
      unfold okOrd at hok
      split at hok
      · rename_i h; simp [inRg] at hok; exact ⟨h, by omega, by omega, by omega⟩
      · simp at hok; exact absurd hok.1 hne.2
    have hvv := hRg.2 (nthO os pc.toNat).reg.toNat (by omega)
    have ht : inRg (nthO os pc.toNat).to 0 os.length = true := by simp [inRg]; omega
    have he : inRg (nthO os pc.toNat).els 0 os.length = true := by simp [inRg]; omega
    unfold nextO
    split
    · split
      · intro c hc
        simp at hc; subst hc
        simp only [confOk, ht, Bool.true_and]
        exact set_cnt hRg' (by omega)
      · intro c hc
        simp at hc; subst hc
        simp only [confOk, he, Bool.true_and]
        exact hRg'
    · split
      · simp
      · split
        · intro c hc
          simp at hc; subst hc
          simp only [confOk, ht, Bool.true_and]
          exact set_cnt hRg' (by omega)
        · intro c hc
          simp at hc
          rcases hc with rfl | rfl
          · simp only [confOk, ht, Bool.true_and]
            exact set_cnt hRg' (by omega)
          · simp only [confOk, he, Bool.true_and]
            exact set_cnt hRg' (by omega)
theorem nextS_some {os : List Ord} {pc : Int} {regs : List Int} (hh : haltS os pc = false) (h0 : (nextS os pc regs).2 = 0) : 0 < (nextS os pc regs).1.length := by
  unfold nextS at *
  rw [if_neg (by rw [hh]; simp)] at *
  unfold nextO at *
  split
  · split <;> simp
  · rename_i h2
    rw [if_neg h2] at h0
    split
    · rename_i h3
      rw [if_pos h3] at h0
      simp at h0
    · split <;> simp
theorem firstS_get {os : List Ord} {c : Cfg} (h : 0 < (nextS os c.pc c.regs).1.length) : firstS os c = nthCfg (nextS os c.pc c.regs).1 0 ∧ firstS os c ∈ (nextS os c.pc c.regs).1 := by
  unfold firstS nthCfg
  match (nextS os c.pc c.regs).1, h with
  | x :: l, _ => simp
theorem firstS_ok {R : Int} {os : List Ord} {c : Cfg} (hvp : validProgS R os = true) (hcf : confOk R os.length c.pc c.regs = true) (hh : haltS os c.pc = false) (h0 : (nextS os c.pc c.regs).2 = 0) : confOk R os.length (firstS os c).pc (firstS os c).regs = true :=
  nextS_ok hvp hcf _ (firstS_get (nextS_some hh h0)).2
theorem runE_halt {os : List Ord} {k n : Nat} {c : Cfg} (h : haltS os c.pc = true) : runE os k n c = (c, (n : Int), 0) := by cases k <;> simp [runE, h]
theorem runE_choice {os : List Ord} {k n : Nat} {c : Cfg} (h : haltS os c.pc = false) (h2 : choice (nthO os c.pc.toNat) = true) : runE os (k + 1) n c = (zCfg, 0, 4) := by simp [runE, h, h2]
theorem runE_stuck {os : List Ord} {k n : Nat} {c : Cfg} (h : haltS os c.pc = false) (h2 : choice (nthO os c.pc.toNat) = false) (h3 : (nextS os c.pc c.regs).2 = 3) : runE os (k + 1) n c = (zCfg, 0, 3) := by simp [runE, h, h2, h3]
theorem runE_step {os : List Ord} {k n : Nat} {c : Cfg} (h : haltS os c.pc = false) (h2 : choice (nthO os c.pc.toNat) = false) (h3 : (nextS os c.pc c.regs).2 = 0) : runE os (k + 1) n c = runE os k (n + 1) (firstS os c) := by simp [runE, h, h2, h3]
/-- What the registers and the steps are refused for. -/
def askRun (R : Int) (os : List Ord) (regs : List Int) (steps : Int) : Int := if validProgS R os = true then (if regsOk R regs = true ∧ inRg steps 0 200 = true then 0 else 2) else 1
def runP (R : Int) (os : List Ord) (regs : List Int) (steps : Int) : Cfg × Int × Int :=
  if askRun R os regs steps = 0 then runE os steps.toNat 0 ⟨0, regs⟩ else (zCfg, 0, askRun R os regs steps)
/-- The call returns a row in memory of its own, a number and a code. -/
def RetACC (w : World) (ds : List D) (n code : Int) (e : Ending) (w' : World) : Prop := ∃ vs F, e = .returned (.tuple #[.agg ⟨vs⟩, .int .i64 n, .int .i64 code]) ∧ Below w.heap.size w w' ∧ OwA w' ds vs F ∧ F.Nodup ∧ ∀ g, g ∈ F → w.heap.size ≤ g
theorem RetACC.zero {w w' : World} (n code : Int) (hb : Below w.heap.size w w') : RetACC w zCfg.ds n code (.returned (.tuple #[.agg #[.int .i64 0, .slice none 0 0], .int .i64 n, .int .i64 code])) w' :=
  ⟨[.int .i64 0, .slice none 0 0], [], rfl, hb, ⟨[], _, ⟨rfl, rfl⟩, ⟨[], [], Ow_empty _ _ _ _, rfl, rfl⟩, rfl⟩, by simp, by simp⟩
theorem start_ok {R : Int} {os : List Ord} {regs : List Int} (h : regsOk R regs = true) : confOk R os.length 0 regs = true := by simp [confOk, inRg, h]

/- Runs of a program: the program's. Written by mknj.py. -/
theorem Ow.cfgAt {w : World} {cs : List Cfg} {v : Value} {F : List Nat} (h : Ow w (dCS cs) v F) (hn : F.Nodup) {i : Nat} (hi : i < cs.length) :
    ∃ g o c a' c' F', v = .slice (some ⟨g, o, none⟩) cs.length c ∧ w.cell? ⟨g, o + i * 2, none⟩ = some (.int .i64 (nthCfg cs i).pc) ∧ w.cell? ⟨g, o + (i * 2 + 1), none⟩ = some (.slice a' (nthCfg cs i).regs.length c') ∧
      Ow w (dI (nthCfg cs i).regs) (.slice a' (nthCfg cs i).regs.length c') F' ∧ F'.Nodup ∧ ∀ x, x ∈ F' → x ∈ F := by
  obtain ⟨a, m, c, rfl, hl, _, hr⟩ := h
  rw [dCS_len] at hl
  obtain rfl : m = cs.length := by omega
  rcases hr with ⟨h0, _⟩ | ⟨g, o, F0, rfl, _, rfl, hr⟩
  · have := dCS_len cs; rw [h0] at this; simp at this; omega
  · have hg : g ∉ F0 := (List.nodup_cons.1 hn).1
    have hn0 : F0.Nodup := (List.nodup_cons.1 hn).2
    have key : ∀ j, j < 2 → (cs.flatMap Cfg.ds)[i * 2 + j]? = (nthCfg cs i).ds[j]? := fun j hj => row_get Cfg.ds 2 (fun _ => rfl) cs i j _ (nthCfg_get hi) hj
    obtain ⟨v0, f0, c0, _, o0, _⟩ := OwL.at _ _ _ _ hr hg hn0 (i * 2) (.i (nthCfg cs i).pc) (by have := key 0 (by omega); simpa [Cfg.ds] using this)
    obtain ⟨v1, f1, c1, _, o1, n1, s1, _⟩ := OwL.at _ _ _ _ hr hg hn0 (i * 2 + 1) (dI (nthCfg cs i).regs) (by have := key 1 (by omega); simpa [Cfg.ds] using this)
    obtain ⟨a', c', rfl, _⟩ := Ow_I.1 o1
    obtain ⟨rfl, _⟩ := o0
    exact ⟨g, o, c, a', c', f1, rfl, c0, c1, o1, n1, fun x hx => by simp [s1 x hx]⟩
theorem setA (w : World) (b : Nat) (v0 v1 : Value) {u0 u1 : Value} (h0 : w.cell? ⟨b, 0, none⟩ = some u0) (h1 : w.cell? ⟨b, 1, none⟩ = some u1) :
    ((w.setCell ⟨b, 0, none⟩ v0).setCell ⟨b, 1, none⟩ v1).cell? ⟨b, 0, none⟩ = some v0 ∧ ((w.setCell ⟨b, 0, none⟩ v0).setCell ⟨b, 1, none⟩ v1).cell? ⟨b, 1, none⟩ = some v1 ∧ (w.setCell ⟨b, 0, none⟩ v0).cell? ⟨b, 0, none⟩ = some v0 := by
  have e0 : (w.setCell ⟨b, 0, none⟩ v0).cell? ⟨b, 0, none⟩ = some v0 := World.cell?_setCell_same _ _ _ h0
  have e1 : (w.setCell ⟨b, 0, none⟩ v0).cell? ⟨b, 1, none⟩ = some u1 := by rw [World.cell?_setCell_other _ _ _ _ (by simp)]; exact h1
  exact ⟨by rw [World.cell?_setCell_other _ _ _ _ (by simp)]; exact e0, World.cell?_setCell_same _ _ _ e1, e0⟩
theorem bfroz1 {B b i : Nat} {w w' : World} (h : Below B w w') (hb : b < B) : w'.frozen? ⟨b, i, none⟩ = w.frozen? ⟨b, i, none⟩ := h.frozen hb
theorem RetACC.put {w wr : World} {b : Nat} {pc n code : Int} {regs : List Int} {v : Value} {F : List Nat} (hb : Below w.heap.size w wr) (hbb : w.heap.size ≤ b) (ho : Ow wr (dI regs) v F) (hF : b ∉ F) (hn : F.Nodup) (hf : ∀ g, g ∈ F → w.heap.size ≤ g) :
    RetACC w [.i pc, dI regs] n code (.returned (.tuple #[.agg #[.int .i64 pc, v], .int .i64 n, .int .i64 code])) ((wr.setCell ⟨b, 0, none⟩ (.int .i64 pc)).setCell ⟨b, 1, none⟩ v) := by
  have e1 := (Exc.setCell wr ⟨b, 0, none⟩ (.int .i64 pc)).chg
  have e2 := (Exc.setCell (wr.setCell ⟨b, 0, none⟩ (.int .i64 pc)) ⟨b, 1, none⟩ v).chg
  have ho' := e2.ow (e1.ow ho (fun g hg h => by simp at h; subst h; exact hF hg)) (fun g hg h => by simp at h; subst h; exact hF hg)
  exact ⟨[.int .i64 pc, v], F, rfl, (hb.setCell hbb _).setCell hbb _, ⟨[], F, ⟨rfl, rfl⟩, ⟨F, [], ho', rfl, by simp⟩, by simp⟩, hn, hf⟩
theorem runFn_c (pc : Int) (vr : Value) (w : World) : Calls Tryz.prog 30 #[.agg #[.int .i64 pc, vr]] w (fun e w' => e = .returned (.tuple #[]) ∧ Below w.heap.size w w') := by
  go_enter Tryz.func30, Tryz.ntmps30
  go_wp2
  go_end0
  exact ⟨rfl, below_alloc _ _⟩
set_option maxHeartbeats 8000000 in
set_option maxRecDepth 100000 in
theorem run_c (R : Int) (ao : Option Addr) (co : Nat) (os : List Ord) (ad : Addr) (c : Nat) (regs : List Int) (steps : Nat) (w : World) (ho : SlO Any w ao os) (hx : SlI Any w (some ad) regs) (hvp : validProgS R os = true) (hrg : regsOk R regs = true) (hst : steps ≤ 200) :
    Calls Tryz.prog 29 #[.agg #[.int .i64 R, .slice ao os.length co], .slice (some ad) regs.length c, .int .i64 steps, .func (.func 30) #[] #[]] w (RetACC w (runE os steps 0 ⟨0, regs⟩).1.ds (runE os steps 0 ⟨0, regs⟩).2.1 (runE os steps 0 ⟨0, regs⟩).2.2) := by
  have hR : 1 ≤ R ∧ R ≤ 3 ∧ 1 ≤ os.length ∧ os.length ≤ 6 := by simp [validProgS, inRg] at hvp; omega
  have hl8 : regs.length ≤ 8 := by have := (regsOk_ok hrg).1; omega
  have hb0 : Below w.heap.size w ((w.alloc (.cells #[.int .i64 R, .slice ao os.length co] 26)).alloc (.cells #[.int .i64 0, .slice none 0 0] 35)) := ((Below.refl _ _).alloc (Nat.le_refl _) _).alloc (by simp) _
  have hrun := callFunc_run Tryz.func30 (by kernel_rfl) rfl
  have HV := Lib.hid hvp
  have HO := Lib.hid ho
  have HX := Lib.hid hx
  have HB0 := Lib.hid hb0
  have HS := Lib.hid (start_ok (os := os) hrg)
  clear hvp ho hx hb0 hrg
  go_enter Tryz.func29, Tryz.ntmps29
  go_wp2_with fail
  refine (clone_c Any ad c regs _ (HX.out.below HB0.out) (by omega)).mono ?_
  rintro e w1 ⟨v1, F1, rfl, hb1, ho1, hn1, hf1⟩
  obtain ⟨a1, c1, e1, _⟩ := Ow_I.1 ho1
  subst e1
  have hz1 : w.heap.size + 2 ≤ w1.heap.size := by have := hb1.size; (try simp at this); omega
  have p0 : w1.cell? ⟨w.heap.size, 0, none⟩ = some (.int .i64 R) := by rw [bcell1 hb1 (by simp <;> omega)]; simp [go_sem]
  have p1 : w1.cell? ⟨w.heap.size, 1, none⟩ = some (.slice ao os.length co) := by rw [bcell1 hb1 (by simp <;> omega)]; simp [go_sem]
  have r0 : w1.cell? ⟨w.heap.size + 1, 0, none⟩ = some (.int .i64 0) := by rw [bcell1 hb1 (by simp)]; simp [go_sem]
  have r1 : w1.cell? ⟨w.heap.size + 1, 1, none⟩ = some (.slice none 0 0) := by rw [bcell1 hb1 (by simp)]; simp [go_sem]
  have z0 : w1.frozen? ⟨w.heap.size + 1, 0, none⟩ = false := by rw [hb1.frozen (by simp)]; simp [go_sem]
  have z1 : w1.frozen? ⟨w.heap.size + 1, 1, none⟩ = false := by rw [hb1.frozen (by simp)]; simp [go_sem]
  have HB1 : Hid (Below w.heap.size w w1) := Lib.hid (HB0.out.trans (hb1.mono (by simp <;> omega)))
  have HO1 := Lib.hid ho1
  have HN1 := Lib.hid hn1
  have HF1 : Hid (∀ g, g ∈ F1 → w.heap.size + 2 ≤ g) := Lib.hid (fun g hg => by have := hf1 g hg; (try simp at this); omega)
  clear hb1 ho1 hn1 hf1
  go_wp2
  go_loopw [12, 13, 14, 15] (fun i0 _ _ _ wr => ∃ (k : Nat) (cur : Cfg) (ac : Option Addr) (cc : Nat) (F : List Nat), k ≤ steps ∧ i0 = .int .i64 k ∧ Hid (runE os steps 0 ⟨0, regs⟩ = runE os (steps - k) k cur) ∧ Hid (confOk R os.length cur.pc cur.regs = true) ∧ Chg [w1.heap.size] (w1.alloc (.cells #[.int .i64 0, .slice a1 regs.length c1] 35)) wr ∧ wr.cell? ⟨w1.heap.size, 0, none⟩ = some (.int .i64 cur.pc) ∧ wr.cell? ⟨w1.heap.size, 1, none⟩ = some (.slice ac cur.regs.length cc) ∧ (wr.frozen? ⟨w1.heap.size, 0, none⟩ = false ∧ wr.frozen? ⟨w1.heap.size, 1, none⟩ = false) ∧ Hid (Ow wr (dI cur.regs) (.slice ac cur.regs.length cc) F) ∧ Hid F.Nodup ∧ Hid (∀ g, g ∈ F → w.heap.size + 2 ≤ g ∧ g ≠ w1.heap.size)) (fun i0 _ _ _ _ => steps - (intOf i0).toNat)
  case atStart => exact ⟨0, ⟨0, regs⟩, a1, c1, F1, Nat.zero_le _, rfl, Lib.hid rfl, HS, Chg.refl _ _, by simp [go_sem], by simp [go_sem], ⟨by simp [go_sem], by simp [go_sem]⟩, Lib.hid (HO1.out.below (below_alloc _ _)), HN1, Lib.hid fun g hg => ⟨HF1.out g hg, fun e => by have := Ow.lt _ _ _ HO1.out g hg; omega⟩⟩
  case round =>
    obtain ⟨k, cur, ac, cc, F, hk, rfl, HE, HC, hch, q0, q1, ⟨y0, y1⟩, HOW, HND, HFF⟩ := hrel
    have hP : 0 ≤ cur.pc ∧ cur.pc ≤ os.length := by have := HC.out; simp [confOk, inRg] at this; omega
    have hsz : w1.heap.size + 1 ≤ wr.heap.size := by have := hch.size; simp at this; omega
    have P0 := (hch.cell (b := w.heap.size) (by simp; omega) (by simp; omega) 0).trans (((below_alloc w1 _).cell (show w.heap.size < _ by omega)).trans p0)
    have P1 := (hch.cell (b := w.heap.size) (by simp; omega) (by simp; omega) 1).trans (((below_alloc w1 _).cell (show w.heap.size < _ by omega)).trans p1)
    have R0 := (hch.cell (b := w.heap.size + 1) (by simp; omega) (by simp; omega) 0).trans (((below_alloc w1 _).cell (show w.heap.size + 1 < _ by omega)).trans r0)
    have R1 := (hch.cell (b := w.heap.size + 1) (by simp; omega) (by simp; omega) 1).trans (((below_alloc w1 _).cell (show w.heap.size + 1 < _ by omega)).trans r1)
    have Z0 := (hch.frozen (b := w.heap.size + 1) (by simp; omega) (by simp; omega) 0).trans (((below_alloc w1 _).frozen (show w.heap.size + 1 < _ by omega)).trans z0)
    have Z1 := (hch.frozen (b := w.heap.size + 1) (by simp; omega) (by simp; omega) 1).trans (((below_alloc w1 _).frozen (show w.heap.size + 1 < _ by omega)).trans z1)
    have hbr : Below w.heap.size w wr := (HB1.out.alloc HB1.out.size _).trans (hch.below (by have := HB1.out.size; simp; omega) (fun x hx => by simp at hx; subst hx; exact HB1.out.size))
    have HBR := Lib.hid hbr
    have HCH := Lib.hid hch
    clear hch hbr
    by_cases hks : k = steps
    · have b1 : ((k : Int) == (steps : Int)) = true := by simp [hks]
      have hres : runE os steps 0 ⟨0, regs⟩ = (cur, (k : Int), 0) := by rw [HE.out, hks]; simp [runE]
      have HRS := Lib.hid hres
      clear hres HE
      go_wp2
      have sA := setA wr (w.heap.size + 1) (.int .i64 cur.pc) (.slice ac cur.regs.length cc) R0 R1
      refine bodyPost_ret (v := .tuple #[.agg #[.int .i64 cur.pc, .slice ac cur.regs.length cc], .int .i64 k, .int .i64 0]) (by simp [results, Tryz.results29, go_sem, sA]) rfl ?_
      rw [HRS.out]
      exact RetACC.put HBR.out (by omega) HOW.out (fun hg => by have := HFF.out _ hg; omega) HND.out (fun g hg => by have := HFF.out g hg; omega)
    · have hkl : k < steps := by omega
      have b1 : ((k : Int) == (steps : Int)) = false := by rw [beq_eq_false_iff_ne]; omega
      have HH := Lib.hid (halts_c R ao co os cur.pc (.slice ac cur.regs.length cc) wr (HO.out.below HBR.out) hP.1 hP.2)
      obtain ⟨k', hk'⟩ : ∃ k', steps - k = k' + 1 := ⟨steps - k - 1, by omega⟩
      rw [hk'] at HE
      cases hh : haltS os cur.pc
      rotate_left
      · have hres : runE os steps 0 ⟨0, regs⟩ = (cur, (k : Int), 0) := by rw [HE.out, runE_halt hh]
        have HRS := Lib.hid hres
        rw [hh] at HH
        clear hres HE hh
        go_wp2_with fail
        refine HH.out.mono ?_
        rintro e w2 ⟨rfl, hb2⟩
        have hz2 : wr.heap.size ≤ w2.heap.size := hb2.size
        replace P0 := (bcell1 hb2 (by omega)).trans P0
        replace P1 := (bcell1 hb2 (by omega)).trans P1
        replace R0 := (bcell1 hb2 (by omega)).trans R0
        replace R1 := (bcell1 hb2 (by omega)).trans R1
        replace Z0 := (bfroz1 hb2 (by omega)).trans Z0
        replace Z1 := (bfroz1 hb2 (by omega)).trans Z1
        replace q0 := (bcell1 hb2 (by omega)).trans q0
        replace q1 := (bcell1 hb2 (by omega)).trans q1
        replace y0 := (bfroz1 hb2 (by omega)).trans y0
        replace y1 := (bfroz1 hb2 (by omega)).trans y1
        have HB2 : Hid (Below w.heap.size w w2) := Lib.hid (bnext HBR.out hb2 (Nat.le_refl _))
        have HO2 : Hid (Ow w2 (dI cur.regs) (.slice ac cur.regs.length cc) F) := Lib.hid (HOW.out.below hb2)
        have HBC2 : Hid (Below wr.heap.size wr w2) := Lib.hid hb2
        clear hb2
        go_wp2
        have sA := setA w2 (w.heap.size + 1) (.int .i64 cur.pc) (.slice ac cur.regs.length cc) R0 R1
        refine bodyPost_ret (v := .tuple #[.agg #[.int .i64 cur.pc, .slice ac cur.regs.length cc], .int .i64 k, .int .i64 0]) (by simp [results, Tryz.results29, go_sem, sA]) rfl ?_
        rw [HRS.out]
        exact RetACC.put HB2.out (by omega) HO2.out (fun hg => by have := HFF.out _ hg; omega) HND.out (fun g hg => by have := HFF.out g hg; omega)
      · rw [hh] at HH
        have hne : cur.pc ≠ os.length ∧ (nthO os cur.pc.toNat).op ≠ 3 := by simp [haltS] at hh; exact hh
        have hlt : cur.pc < os.length := by omega
        have i0 := fun w' => ixO HO.out co cur.pc w' hP.1 hlt
        have t0 := HO.out.c0 cur.pc.toNat (by omega)
        have t2 := HO.out.c2 cur.pc.toNat (by omega)
        have t3 := HO.out.c3 cur.pc.toNat (by omega)
        have t1 := HO.out.c1 cur.pc.toNat (by omega)
        have HHF := Lib.hid hh
        clear hh hne
        cases hc : choice (nthO os cur.pc.toNat)
        rotate_left
        · have hres : runE os steps 0 ⟨0, regs⟩ = (zCfg, 0, 4) := by rw [HE.out, runE_choice HHF.out hc]
          have HRS := Lib.hid hres
          have bo : ((nthO os cur.pc.toNat).op == 1) = true := by simp only [choice, Bool.and_eq_true] at hc; exact hc.1
          have bt : ((nthO os cur.pc.toNat).to != (nthO os cur.pc.toNat).els) = true := by simp only [choice, Bool.and_eq_true] at hc; exact hc.2
          clear hres HE hc
          go_wp2_with fail
          refine HH.out.mono ?_
          rintro e w2 ⟨rfl, hb2⟩
          have hz2 : wr.heap.size ≤ w2.heap.size := hb2.size
          replace P0 := (bcell1 hb2 (by omega)).trans P0
          replace P1 := (bcell1 hb2 (by omega)).trans P1
          replace R0 := (bcell1 hb2 (by omega)).trans R0
          replace R1 := (bcell1 hb2 (by omega)).trans R1
          replace Z0 := (bfroz1 hb2 (by omega)).trans Z0
          replace Z1 := (bfroz1 hb2 (by omega)).trans Z1
          replace q0 := (bcell1 hb2 (by omega)).trans q0
          replace q1 := (bcell1 hb2 (by omega)).trans q1
          replace y0 := (bfroz1 hb2 (by omega)).trans y0
          replace y1 := (bfroz1 hb2 (by omega)).trans y1
          have HB2 : Hid (Below w.heap.size w w2) := Lib.hid (bnext HBR.out hb2 (Nat.le_refl _))
          have HO2 : Hid (Ow w2 (dI cur.regs) (.slice ac cur.regs.length cc) F) := Lib.hid (HOW.out.below hb2)
          have HBC2 : Hid (Below wr.heap.size wr w2) := Lib.hid hb2
          clear hb2
          have aP0 := fun ob => (bcell1 (below_alloc w2 ob) (by omega)).trans P0
          have aP1 := fun ob => (bcell1 (below_alloc w2 ob) (by omega)).trans P1
          have aR0 := fun ob => (bcell1 (below_alloc w2 ob) (by omega)).trans R0
          have aR1 := fun ob => (bcell1 (below_alloc w2 ob) (by omega)).trans R1
          have aZ0 := fun ob => (bfroz1 (below_alloc w2 ob) (by omega)).trans Z0
          have aZ1 := fun ob => (bfroz1 (below_alloc w2 ob) (by omega)).trans Z1
          have aq0 := fun ob => (bcell1 (below_alloc w2 ob) (by omega)).trans q0
          have aq1 := fun ob => (bcell1 (below_alloc w2 ob) (by omega)).trans q1
          replace t0 := (HB2.out.cell (World.block_lt_of_cell? w _ t0)).trans t0
          replace t1 := (HB2.out.cell (World.block_lt_of_cell? w _ t1)).trans t1
          replace t2 := (HB2.out.cell (World.block_lt_of_cell? w _ t2)).trans t2
          replace t3 := (HB2.out.cell (World.block_lt_of_cell? w _ t3)).trans t3
          go_wp2
          have sA := setA (w2.alloc (.cells #[.int .i64 (nthO os cur.pc.toNat).op, .int .i64 (nthO os cur.pc.toNat).reg, .int .i64 (nthO os cur.pc.toNat).to, .int .i64 (nthO os cur.pc.toNat).els] 66)) (w.heap.size + 1) (.int .i64 0) (.slice none 0 0) (aR0 _) (aR1 _)
          refine bodyPost_ret (v := .tuple #[.agg #[.int .i64 0, .slice none 0 0], .int .i64 0, .int .i64 4]) (by simp [results, Tryz.results29, go_sem, sA]) rfl ?_
          rw [HRS.out]
          exact RetACC.zero _ _ (((HB2.out.alloc HB2.out.size _).setCell (show w.heap.size ≤ w.heap.size + 1 by omega) _).setCell (show w.heap.size ≤ w.heap.size + 1 by omega) _)
        · have HCC := Lib.hid hc
          by_cases e1 : (nthO os cur.pc.toNat).op = 1
          · have bo : ((nthO os cur.pc.toNat).op == 1) = true := by simp [e1]
            have bt : ((nthO os cur.pc.toNat).to != (nthO os cur.pc.toNat).els) = false := by simp only [choice, bo, Bool.true_and] at hc; exact hc
            clear hc e1
            go_wp2_with fail
            refine HH.out.mono ?_
            rintro e w2 ⟨rfl, hb2⟩
            have hz2 : wr.heap.size ≤ w2.heap.size := hb2.size
            replace P0 := (bcell1 hb2 (by omega)).trans P0
            replace P1 := (bcell1 hb2 (by omega)).trans P1
            replace R0 := (bcell1 hb2 (by omega)).trans R0
            replace R1 := (bcell1 hb2 (by omega)).trans R1
            replace Z0 := (bfroz1 hb2 (by omega)).trans Z0
            replace Z1 := (bfroz1 hb2 (by omega)).trans Z1
            replace q0 := (bcell1 hb2 (by omega)).trans q0
            replace q1 := (bcell1 hb2 (by omega)).trans q1
            replace y0 := (bfroz1 hb2 (by omega)).trans y0
            replace y1 := (bfroz1 hb2 (by omega)).trans y1
            have HB2 : Hid (Below w.heap.size w w2) := Lib.hid (bnext HBR.out hb2 (Nat.le_refl _))
            have HO2 : Hid (Ow w2 (dI cur.regs) (.slice ac cur.regs.length cc) F) := Lib.hid (HOW.out.below hb2)
            have HBC2 : Hid (Below wr.heap.size wr w2) := Lib.hid hb2
            clear hb2
            have aP0 := fun ob => (bcell1 (below_alloc w2 ob) (by omega)).trans P0
            have aP1 := fun ob => (bcell1 (below_alloc w2 ob) (by omega)).trans P1
            have aR0 := fun ob => (bcell1 (below_alloc w2 ob) (by omega)).trans R0
            have aR1 := fun ob => (bcell1 (below_alloc w2 ob) (by omega)).trans R1
            have aZ0 := fun ob => (bfroz1 (below_alloc w2 ob) (by omega)).trans Z0
            have aZ1 := fun ob => (bfroz1 (below_alloc w2 ob) (by omega)).trans Z1
            have aq0 := fun ob => (bcell1 (below_alloc w2 ob) (by omega)).trans q0
            have aq1 := fun ob => (bcell1 (below_alloc w2 ob) (by omega)).trans q1
            replace t0 := (HB2.out.cell (World.block_lt_of_cell? w _ t0)).trans t0
            replace t1 := (HB2.out.cell (World.block_lt_of_cell? w _ t1)).trans t1
            replace t2 := (HB2.out.cell (World.block_lt_of_cell? w _ t2)).trans t2
            replace t3 := (HB2.out.cell (World.block_lt_of_cell? w _ t3)).trans t3
            have HBA := Lib.hid (fun ob => HB2.out.alloc HB2.out.size ob)
            go_wp2_with fail
            refine (next_c R ao co os cur.pc ac cc cur.regs _ (HO.out.below (HBA.out _)) ((HO2.out.below (below_alloc _ _)).arg) HV.out HC.out).mono ?_
            rintro e w3 ⟨v3, F3, rfl, hb3, ho3, hn3, hf3⟩
            have hz3 : w2.heap.size + 1 ≤ w3.heap.size := by have := hb3.size; (try simp at this); omega
            have HBC3 : Hid (Below wr.heap.size wr w3) := Lib.hid (HBC2.out.trans (((below_alloc _ _).trans (hb3.mono (by simp))).mono hz2))
            replace P0 := (bcell1 hb3 (by simp; omega)).trans ((bcell1 (below_alloc w2 _) (by omega)).trans P0)
            replace P1 := (bcell1 hb3 (by simp; omega)).trans ((bcell1 (below_alloc w2 _) (by omega)).trans P1)
            replace R0 := (bcell1 hb3 (by simp; omega)).trans ((bcell1 (below_alloc w2 _) (by omega)).trans R0)
            replace R1 := (bcell1 hb3 (by simp; omega)).trans ((bcell1 (below_alloc w2 _) (by omega)).trans R1)
            replace Z0 := (bfroz1 hb3 (by simp; omega)).trans ((bfroz1 (below_alloc w2 _) (by omega)).trans Z0)
            replace Z1 := (bfroz1 hb3 (by simp; omega)).trans ((bfroz1 (below_alloc w2 _) (by omega)).trans Z1)
            replace q0 := (bcell1 hb3 (by simp; omega)).trans ((bcell1 (below_alloc w2 _) (by omega)).trans q0)
            replace q1 := (bcell1 hb3 (by simp; omega)).trans ((bcell1 (below_alloc w2 _) (by omega)).trans q1)
            replace y0 := (bfroz1 hb3 (by simp; omega)).trans ((bfroz1 (below_alloc w2 _) (by omega)).trans y0)
            replace y1 := (bfroz1 hb3 (by simp; omega)).trans ((bfroz1 (below_alloc w2 _) (by omega)).trans y1)
            have HB3 : Hid (Below w.heap.size w w3) := Lib.hid (bnext (HBA.out _) hb3 (Nat.le_refl _))
            have HO3 := Lib.hid ho3
            have HN3 := Lib.hid hn3
            have HF3 : Hid (∀ g, g ∈ F3 → w2.heap.size + 1 ≤ g) := Lib.hid (fun g hg => by have := hf3 g hg; (try simp at this); omega)
            clear hb3 ho3 hn3 hf3 t0 t1 t2 t3 aP0 aP1 aR0 aR1 aZ0 aZ1 aq0 aq1
            rcases nextS_code os cur.pc cur.regs with e0 | ⟨_, e3⟩
            rotate_left
            · have hres : runE os steps 0 ⟨0, regs⟩ = (zCfg, 0, 3) := by rw [HE.out, runE_stuck HHF.out HCC.out e3]
              have HRS := Lib.hid hres
              have b5 : ((nextS os cur.pc cur.regs).2 != 0) = true := by rw [e3]; rfl
              have E3 := Lib.hid e3
              clear hres HE e3
              go_wp2
              have sA := setA w3 (w.heap.size + 1) (.int .i64 0) (.slice none 0 0) R0 R1
              refine bodyPost_ret (v := .tuple #[.agg #[.int .i64 0, .slice none 0 0], .int .i64 0, .int .i64 (nextS os cur.pc cur.regs).2]) (by simp [results, Tryz.results29, go_sem, sA]) rfl ?_
              rw [HRS.out, E3.out]
              exact RetACC.zero _ _ ((HB3.out.setCell (show w.heap.size ≤ w.heap.size + 1 by omega) _).setCell (show w.heap.size ≤ w.heap.size + 1 by omega) _)
            · have hres : runE os steps 0 ⟨0, regs⟩ = runE os (steps - (k + 1)) (k + 1) (firstS os cur) := by rw [HE.out, runE_step HHF.out HCC.out e0]; congr 1; omega
              have HRS := Lib.hid hres
              have b5 : ((nextS os cur.pc cur.regs).2 != 0) = false := by rw [e0]; rfl
              have hpos := nextS_some HHF.out e0
              have hfg := firstS_get hpos
              have HOKF := Lib.hid (firstS_ok HV.out HC.out HHF.out e0)
              obtain ⟨g, o, c3, a', c', F', ev, c0, c1', o1, n1, s1⟩ := HO3.out.cfgAt HN3.out hpos
              subst ev
              rw [← hfg.1] at c0 c1' o1
              simp only [Nat.zero_mul, Nat.add_zero, Nat.zero_add] at c0 c1'
              have i3 : ∀ w', (Instr.indexAt 41 (.slice (some ⟨g, o, none⟩) (nextS os cur.pc cur.regs).1.length c3) (.int .i64 0)).run Tryz.prog w' = .ok (.pointer (some ⟨g, o, none⟩)) w' := fun w' => by
                have := ix_of (P := Tryz.prog) tabConfigSM.under tabConfigSM.size (a := some ⟨g, o, none⟩) (n := (nextS os cur.pc cur.regs).1.length) (fun _ => ⟨g, o, rfl⟩) c3 0 w' (by omega) (by omega)
                simpa [adr, blk, ofs] using this
              have O1 := Lib.hid o1
              have N1 := Lib.hid n1
              have S1 := Lib.hid s1
              clear hres HE e0 hfg o1 n1 s1
              go_wp2_with fail
              refine (runFn_c cur.pc _ w3).mono ?_
              rintro e w4 ⟨rfl, hb4⟩
              have hz4 : w3.heap.size ≤ w4.heap.size := hb4.size
              replace c0 := (hb4.cell (World.block_lt_of_cell? w3 _ c0)).trans c0
              replace c1' := (hb4.cell (World.block_lt_of_cell? w3 _ c1')).trans c1'
              replace P0 := (bcell1 hb4 (by omega)).trans P0
              replace P1 := (bcell1 hb4 (by omega)).trans P1
              replace R0 := (bcell1 hb4 (by omega)).trans R0
              replace R1 := (bcell1 hb4 (by omega)).trans R1
              replace Z0 := (bfroz1 hb4 (by omega)).trans Z0
              replace Z1 := (bfroz1 hb4 (by omega)).trans Z1
              replace q0 := (bcell1 hb4 (by omega)).trans q0
              replace q1 := (bcell1 hb4 (by omega)).trans q1
              replace y0 := (bfroz1 hb4 (by omega)).trans y0
              replace y1 := (bfroz1 hb4 (by omega)).trans y1
              have HBC4 : Hid (Below wr.heap.size wr w4) := Lib.hid (bnext HBC3.out hb4 (Nat.le_refl _))
              have O4 := Lib.hid (O1.out.below hb4)
              clear hb4
              go_wp2
              go_roundw
              case rel =>
                have hx1 : w1.heap.size ∉ F' := fun hg => by have := HF3.out _ (S1.out _ hg); omega
                have x1 := (Exc.setCell w4 ⟨w1.heap.size, 0, none⟩ (.int .i64 (firstS os cur).pc)).chg
                have x2 := (Exc.setCell (w4.setCell ⟨w1.heap.size, 0, none⟩ (.int .i64 (firstS os cur).pc)) ⟨w1.heap.size, 1, none⟩ (.slice a' (firstS os cur).regs.length c')).chg
                have sx := setA w4 w1.heap.size (.int .i64 (firstS os cur).pc) (.slice a' (firstS os cur).regs.length c') q0 q1
                exact ⟨k + 1, firstS os cur, a', c', F', by omega, by go_num, HRS, HOKF, (HCH.out.trans (Chg.ofBelow HBC4.out)).trans (x1.trans x2), sx.1, sx.2.1, ⟨by rw [World.frozen?_setCell, World.frozen?_setCell]; exact y0, by rw [World.frozen?_setCell, World.frozen?_setCell]; exact y1⟩,
                  Lib.hid (x2.ow (x1.ow O4.out (fun g hg h => by simp at h; subst h; exact hx1 hg)) (fun g hg h => by simp at h; subst h; exact hx1 hg)), N1, Lib.hid fun x hx => by have := HF3.out _ (S1.out _ hx); omega⟩
              case measure => simp [intOf]; omega
          · have bo : ((nthO os cur.pc.toNat).op == 1) = false := by simp [e1]
            clear hc e1
            go_wp2_with fail
            refine HH.out.mono ?_
            rintro e w2 ⟨rfl, hb2⟩
            have hz2 : wr.heap.size ≤ w2.heap.size := hb2.size
            replace P0 := (bcell1 hb2 (by omega)).trans P0
            replace P1 := (bcell1 hb2 (by omega)).trans P1
            replace R0 := (bcell1 hb2 (by omega)).trans R0
            replace R1 := (bcell1 hb2 (by omega)).trans R1
            replace Z0 := (bfroz1 hb2 (by omega)).trans Z0
            replace Z1 := (bfroz1 hb2 (by omega)).trans Z1
            replace q0 := (bcell1 hb2 (by omega)).trans q0
            replace q1 := (bcell1 hb2 (by omega)).trans q1
            replace y0 := (bfroz1 hb2 (by omega)).trans y0
            replace y1 := (bfroz1 hb2 (by omega)).trans y1
            have HB2 : Hid (Below w.heap.size w w2) := Lib.hid (bnext HBR.out hb2 (Nat.le_refl _))
            have HO2 : Hid (Ow w2 (dI cur.regs) (.slice ac cur.regs.length cc) F) := Lib.hid (HOW.out.below hb2)
            have HBC2 : Hid (Below wr.heap.size wr w2) := Lib.hid hb2
            clear hb2
            have aP0 := fun ob => (bcell1 (below_alloc w2 ob) (by omega)).trans P0
            have aP1 := fun ob => (bcell1 (below_alloc w2 ob) (by omega)).trans P1
            have aR0 := fun ob => (bcell1 (below_alloc w2 ob) (by omega)).trans R0
            have aR1 := fun ob => (bcell1 (below_alloc w2 ob) (by omega)).trans R1
            have aZ0 := fun ob => (bfroz1 (below_alloc w2 ob) (by omega)).trans Z0
            have aZ1 := fun ob => (bfroz1 (below_alloc w2 ob) (by omega)).trans Z1
            have aq0 := fun ob => (bcell1 (below_alloc w2 ob) (by omega)).trans q0
            have aq1 := fun ob => (bcell1 (below_alloc w2 ob) (by omega)).trans q1
            replace t0 := (HB2.out.cell (World.block_lt_of_cell? w _ t0)).trans t0
            replace t1 := (HB2.out.cell (World.block_lt_of_cell? w _ t1)).trans t1
            replace t2 := (HB2.out.cell (World.block_lt_of_cell? w _ t2)).trans t2
            replace t3 := (HB2.out.cell (World.block_lt_of_cell? w _ t3)).trans t3
            have HBA := Lib.hid (fun ob => HB2.out.alloc HB2.out.size ob)
            go_wp2_with fail
            refine (next_c R ao co os cur.pc ac cc cur.regs _ (HO.out.below (HBA.out _)) ((HO2.out.below (below_alloc _ _)).arg) HV.out HC.out).mono ?_
            rintro e w3 ⟨v3, F3, rfl, hb3, ho3, hn3, hf3⟩
            have hz3 : w2.heap.size + 1 ≤ w3.heap.size := by have := hb3.size; (try simp at this); omega
            have HBC3 : Hid (Below wr.heap.size wr w3) := Lib.hid (HBC2.out.trans (((below_alloc _ _).trans (hb3.mono (by simp))).mono hz2))
            replace P0 := (bcell1 hb3 (by simp; omega)).trans ((bcell1 (below_alloc w2 _) (by omega)).trans P0)
            replace P1 := (bcell1 hb3 (by simp; omega)).trans ((bcell1 (below_alloc w2 _) (by omega)).trans P1)
            replace R0 := (bcell1 hb3 (by simp; omega)).trans ((bcell1 (below_alloc w2 _) (by omega)).trans R0)
            replace R1 := (bcell1 hb3 (by simp; omega)).trans ((bcell1 (below_alloc w2 _) (by omega)).trans R1)
            replace Z0 := (bfroz1 hb3 (by simp; omega)).trans ((bfroz1 (below_alloc w2 _) (by omega)).trans Z0)
            replace Z1 := (bfroz1 hb3 (by simp; omega)).trans ((bfroz1 (below_alloc w2 _) (by omega)).trans Z1)
            replace q0 := (bcell1 hb3 (by simp; omega)).trans ((bcell1 (below_alloc w2 _) (by omega)).trans q0)
            replace q1 := (bcell1 hb3 (by simp; omega)).trans ((bcell1 (below_alloc w2 _) (by omega)).trans q1)
            replace y0 := (bfroz1 hb3 (by simp; omega)).trans ((bfroz1 (below_alloc w2 _) (by omega)).trans y0)
            replace y1 := (bfroz1 hb3 (by simp; omega)).trans ((bfroz1 (below_alloc w2 _) (by omega)).trans y1)
            have HB3 : Hid (Below w.heap.size w w3) := Lib.hid (bnext (HBA.out _) hb3 (Nat.le_refl _))
            have HO3 := Lib.hid ho3
            have HN3 := Lib.hid hn3
            have HF3 : Hid (∀ g, g ∈ F3 → w2.heap.size + 1 ≤ g) := Lib.hid (fun g hg => by have := hf3 g hg; (try simp at this); omega)
            clear hb3 ho3 hn3 hf3 t0 t1 t2 t3 aP0 aP1 aR0 aR1 aZ0 aZ1 aq0 aq1
            rcases nextS_code os cur.pc cur.regs with e0 | ⟨_, e3⟩
            rotate_left
            · have hres : runE os steps 0 ⟨0, regs⟩ = (zCfg, 0, 3) := by rw [HE.out, runE_stuck HHF.out HCC.out e3]
              have HRS := Lib.hid hres
              have b5 : ((nextS os cur.pc cur.regs).2 != 0) = true := by rw [e3]; rfl
              have E3 := Lib.hid e3
              clear hres HE e3
              go_wp2
              have sA := setA w3 (w.heap.size + 1) (.int .i64 0) (.slice none 0 0) R0 R1
              refine bodyPost_ret (v := .tuple #[.agg #[.int .i64 0, .slice none 0 0], .int .i64 0, .int .i64 (nextS os cur.pc cur.regs).2]) (by simp [results, Tryz.results29, go_sem, sA]) rfl ?_
              rw [HRS.out, E3.out]
              exact RetACC.zero _ _ ((HB3.out.setCell (show w.heap.size ≤ w.heap.size + 1 by omega) _).setCell (show w.heap.size ≤ w.heap.size + 1 by omega) _)
            · have hres : runE os steps 0 ⟨0, regs⟩ = runE os (steps - (k + 1)) (k + 1) (firstS os cur) := by rw [HE.out, runE_step HHF.out HCC.out e0]; congr 1; omega
              have HRS := Lib.hid hres
              have b5 : ((nextS os cur.pc cur.regs).2 != 0) = false := by rw [e0]; rfl
              have hpos := nextS_some HHF.out e0
              have hfg := firstS_get hpos
              have HOKF := Lib.hid (firstS_ok HV.out HC.out HHF.out e0)
              obtain ⟨g, o, c3, a', c', F', ev, c0, c1', o1, n1, s1⟩ := HO3.out.cfgAt HN3.out hpos
              subst ev
              rw [← hfg.1] at c0 c1' o1
              simp only [Nat.zero_mul, Nat.add_zero, Nat.zero_add] at c0 c1'
              have i3 : ∀ w', (Instr.indexAt 41 (.slice (some ⟨g, o, none⟩) (nextS os cur.pc cur.regs).1.length c3) (.int .i64 0)).run Tryz.prog w' = .ok (.pointer (some ⟨g, o, none⟩)) w' := fun w' => by
                have := ix_of (P := Tryz.prog) tabConfigSM.under tabConfigSM.size (a := some ⟨g, o, none⟩) (n := (nextS os cur.pc cur.regs).1.length) (fun _ => ⟨g, o, rfl⟩) c3 0 w' (by omega) (by omega)
                simpa [adr, blk, ofs] using this
              have O1 := Lib.hid o1
              have N1 := Lib.hid n1
              have S1 := Lib.hid s1
              clear hres HE e0 hfg o1 n1 s1
              go_wp2_with fail
              refine (runFn_c cur.pc _ w3).mono ?_
              rintro e w4 ⟨rfl, hb4⟩
              have hz4 : w3.heap.size ≤ w4.heap.size := hb4.size
              replace c0 := (hb4.cell (World.block_lt_of_cell? w3 _ c0)).trans c0
              replace c1' := (hb4.cell (World.block_lt_of_cell? w3 _ c1')).trans c1'
              replace P0 := (bcell1 hb4 (by omega)).trans P0
              replace P1 := (bcell1 hb4 (by omega)).trans P1
              replace R0 := (bcell1 hb4 (by omega)).trans R0
              replace R1 := (bcell1 hb4 (by omega)).trans R1
              replace Z0 := (bfroz1 hb4 (by omega)).trans Z0
              replace Z1 := (bfroz1 hb4 (by omega)).trans Z1
              replace q0 := (bcell1 hb4 (by omega)).trans q0
              replace q1 := (bcell1 hb4 (by omega)).trans q1
              replace y0 := (bfroz1 hb4 (by omega)).trans y0
              replace y1 := (bfroz1 hb4 (by omega)).trans y1
              have HBC4 : Hid (Below wr.heap.size wr w4) := Lib.hid (bnext HBC3.out hb4 (Nat.le_refl _))
              have O4 := Lib.hid (O1.out.below hb4)
              clear hb4
              go_wp2
              go_roundw
              case rel =>
                have hx1 : w1.heap.size ∉ F' := fun hg => by have := HF3.out _ (S1.out _ hg); omega
                have x1 := (Exc.setCell w4 ⟨w1.heap.size, 0, none⟩ (.int .i64 (firstS os cur).pc)).chg
                have x2 := (Exc.setCell (w4.setCell ⟨w1.heap.size, 0, none⟩ (.int .i64 (firstS os cur).pc)) ⟨w1.heap.size, 1, none⟩ (.slice a' (firstS os cur).regs.length c')).chg
                have sx := setA w4 w1.heap.size (.int .i64 (firstS os cur).pc) (.slice a' (firstS os cur).regs.length c') q0 q1
                exact ⟨k + 1, firstS os cur, a', c', F', by omega, by go_num, HRS, HOKF, (HCH.out.trans (Chg.ofBelow HBC4.out)).trans (x1.trans x2), sx.1, sx.2.1, ⟨by rw [World.frozen?_setCell, World.frozen?_setCell]; exact y0, by rw [World.frozen?_setCell, World.frozen?_setCell]; exact y1⟩,
                  Lib.hid (x2.ow (x1.ow O4.out (fun g hg h => by simp at h; subst h; exact hx1 hg)) (fun g hg h => by simp at h; subst h; exact hx1 hg)), N1, Lib.hid fun x hx => by have := HF3.out _ (S1.out _ hx); omega⟩
              case measure => simp [intOf]; omega

/- Runs of a program: what is refused, and the program's exported function. -/
theorem askRun_bad {R : Int} {os : List Ord} {regs : List Int} {steps : Int} (h : validProgS R os = false) : askRun R os regs steps = 1 := by simp [askRun, h]
theorem askRun_two {R : Int} {os : List Ord} {regs : List Int} {steps : Int} (h : validProgS R os = true) (h2 : regsOk R regs = false ∨ inRg steps 0 200 = false) : askRun R os regs steps = 2 := by
  rcases h2 with h2 | h2 <;> simp [askRun, h, h2]
theorem askRun_zero {R : Int} {os : List Ord} {regs : List Int} {steps : Int} (h : validProgS R os = true) (h2 : regsOk R regs = true) (h3 : inRg steps 0 200 = true) : askRun R os regs steps = 0 := by simp [askRun, h, h2, h3]
theorem askRun_ok {R : Int} {os : List Ord} {regs : List Int} {steps : Int} (h : askRun R os regs steps = 0) : validProgS R os = true ∧ regsOk R regs = true ∧ 0 ≤ steps ∧ steps ≤ 200 := by
  unfold askRun at h
  split at h
  · rename_i h1
    split at h
    · rename_i h2
      exact ⟨h1, h2.1, by have := h2.2; simp [inRg] at this; omega⟩
    · simp at h
  · simp at h
theorem RetACC.cfg {w w' : World} {c : Cfg} {n code : Int} {e : Ending} (h : RetACC w c.ds n code e w') : ∃ a1 c1 F, e = .returned (.tuple #[.agg #[.int .i64 c.pc, .slice a1 c.regs.length c1], .int .i64 n, .int .i64 code]) ∧ Below w.heap.size w w' ∧ Ow w' (dI c.regs) (.slice a1 c.regs.length c1) F ∧ F.Nodup ∧ ∀ g, g ∈ F → w.heap.size ≤ g := by
  obtain ⟨vs, F, rfl, hb, ho, hn, hF⟩ := h
  match vs, ho with
  | [v0, v1], ⟨G0, _, ⟨h0, h0'⟩, ⟨G1, _, h1, h2, h3⟩, h4⟩ =>
    subst h0 h0'
    have h2' : _ = [] := h2
    subst h2' h3
    simp only [List.append_nil, List.nil_append] at h4
    subst h4
    obtain ⟨a1, c1, rfl⟩ := h1.val
    exact ⟨a1, c1, _, rfl, hb, h1, hn, hF⟩
set_option maxHeartbeats 2000000 in
theorem regsCode_c (R : Int) (os : List Ord) (steps : Int) (ao : Option Addr) (co : Nat) (a : Option Addr) (c : Nat) (regs : List Int) (w : World) (ho : SlO Any w ao os) (hx : SlI Any w a regs) :
    Calls Tryz.prog 28 #[.agg #[.int .i64 R, .slice ao os.length co], .slice a regs.length c, .int .i64 steps] w (RetV w (.int .i64 (askRun R os regs steps))) := by
  have hb : Below w.heap.size w (w.alloc (.cells #[.int .i64 R, .slice ao os.length co] 26)) := below_alloc _ _
  have HV := Lib.hid (implValidProgram_c R Any ao co os _ (ho.below hb))
  have HB := Lib.hid hb
  have HX := Lib.hid hx
  clear hb ho hx
  cases hv : validProgS R os
  · rw [askRun_bad hv]
    rw [hv] at HV
    clear hv
    go_enter Tryz.func28, Tryz.ntmps28
    go_wp2_with fail
    refine HV.out.mono ?_
    rintro e w1 ⟨rfl, hb1⟩
    have HB1 := Lib.hid (HB.out.trans (hb1.mono (by simp <;> omega)))
    clear hb1
    go_wp2
    go_ret
    exact ⟨rfl, HB1.out⟩
  · rw [hv] at HV
    cases hr : regsOk R regs
    · rw [askRun_two hv (.inl hr)]
      have HR := Lib.hid hr
      clear hv hr
      go_enter Tryz.func28, Tryz.ntmps28
      go_wp2_with fail
      refine HV.out.mono ?_
      rintro e w1 ⟨rfl, hb1⟩
      have e0 : w1.cell? ⟨w.heap.size, 0, none⟩ = some (.int .i64 R) := by rw [bcell1 hb1 (by simp)]; simp [go_sem]
      have e1 : w1.cell? ⟨w.heap.size, 1, none⟩ = some (.slice ao os.length co) := by rw [bcell1 hb1 (by simp)]; simp [go_sem]
      have HB1 := Lib.hid (HB.out.trans (hb1.mono (by simp <;> omega)))
      have hic := areRegs_c R (.slice ao os.length co) a c regs w1 (HX.out.below HB1.out)
      rw [HR.out] at hic
      have HIC := Lib.hid hic
      clear hb1 hic
      go_wp2_with fail
      refine HIC.out.mono ?_
      rintro e w2 ⟨rfl, hb2⟩
      have HB2 := Lib.hid (bnext HB1.out hb2 (Nat.le_refl _))
      clear hb2
      go_wp2
      go_ret
      exact ⟨rfl, HB2.out⟩
    · cases hs : inRg steps 0 200
      · rw [askRun_two hv (.inr hs)]
        have HR := Lib.hid hr
        have HS := Lib.hid hs
        clear hv hr hs
        go_enter Tryz.func28, Tryz.ntmps28
        go_wp2_with fail
        refine HV.out.mono ?_
        rintro e w1 ⟨rfl, hb1⟩
        have e0 : w1.cell? ⟨w.heap.size, 0, none⟩ = some (.int .i64 R) := by rw [bcell1 hb1 (by simp)]; simp [go_sem]
        have e1 : w1.cell? ⟨w.heap.size, 1, none⟩ = some (.slice ao os.length co) := by rw [bcell1 hb1 (by simp)]; simp [go_sem]
        have HB1 := Lib.hid (HB.out.trans (hb1.mono (by simp <;> omega)))
        have hic := areRegs_c R (.slice ao os.length co) a c regs w1 (HX.out.below HB1.out)
        rw [HR.out] at hic
        have HIC := Lib.hid hic
        clear hb1 hic
        go_wp2_with fail
        refine HIC.out.mono ?_
        rintro e w2 ⟨rfl, hb2⟩
        have HB2 := Lib.hid (bnext HB1.out hb2 (Nat.le_refl _))
        clear hb2
        go_wp2_with fail
        refine (inRange_c steps 0 200 w2).mono ?_
        rintro e w3 ⟨rfl, rfl⟩
        have hS := HS.out
        go_wp2
        go_ret
        exact ⟨rfl, HB2.out⟩
      · rw [askRun_zero hv hr hs]
        have HR := Lib.hid hr
        have HS := Lib.hid hs
        clear hv hr hs
        go_enter Tryz.func28, Tryz.ntmps28
        go_wp2_with fail
        refine HV.out.mono ?_
        rintro e w1 ⟨rfl, hb1⟩
        have e0 : w1.cell? ⟨w.heap.size, 0, none⟩ = some (.int .i64 R) := by rw [bcell1 hb1 (by simp)]; simp [go_sem]
        have e1 : w1.cell? ⟨w.heap.size, 1, none⟩ = some (.slice ao os.length co) := by rw [bcell1 hb1 (by simp)]; simp [go_sem]
        have HB1 := Lib.hid (HB.out.trans (hb1.mono (by simp <;> omega)))
        have hic := areRegs_c R (.slice ao os.length co) a c regs w1 (HX.out.below HB1.out)
        rw [HR.out] at hic
        have HIC := Lib.hid hic
        clear hb1 hic
        go_wp2_with fail
        refine HIC.out.mono ?_
        rintro e w2 ⟨rfl, hb2⟩
        have HB2 := Lib.hid (bnext HB1.out hb2 (Nat.le_refl _))
        clear hb2
        go_wp2_with fail
        refine (inRange_c steps 0 200 w2).mono ?_
        rintro e w3 ⟨rfl, rfl⟩
        have hS := HS.out
        go_wp2
        go_ret
        exact ⟨rfl, HB2.out⟩
set_option maxHeartbeats 2000000 in
theorem implRunProgram_d (R : Int) (os : List Ord) (regs : List Int) (steps : Int) {vo vr : Value} (w : World) (h1 : Rd Any w (dO os) vo) (h2 : Rd Any w (dI regs) vr) :
    Calls Tryz.prog 9 #[.agg #[.int .i64 R, vo], vr, .int .i64 steps] w (RetACC w (runP R os regs steps).1.ds (runP R os regs steps).2.1 (runP R os regs steps).2.2) := by
  obtain ⟨ao, co, rfl, ho⟩ := Rd_O.1 h1
  obtain ⟨a, c, rfl, hx⟩ := Rd_I.1 h2
  clear h1 h2
  have hb0 : Below w.heap.size w ((w.alloc (.cells #[.int .i64 R, .slice ao os.length co] 26)).alloc (.cells #[.int .i64 0, .slice none 0 0] 35)) := ((Below.refl _ _).alloc (Nat.le_refl _) _).alloc (by simp) _
  have HC := Lib.hid (regsCode_c R os steps ao co a c regs _ (ho.below hb0) (hx.below hb0))
  have HB0 := Lib.hid hb0
  have HO := Lib.hid ho
  have HX := Lib.hid hx
  clear hb0 ho hx
  by_cases hk : askRun R os regs steps = 0
  · obtain ⟨k1, k2, k3, k4⟩ := askRun_ok hk
    have hl : 0 < regs.length := by have := (regsOk_ok k2).1; simp [validProgS, inRg] at k1; omega
    obtain ⟨_, g, o, rfl⟩ := HX.out.ptr hl
    obtain ⟨m, rfl⟩ : ∃ m : Nat, steps = m := ⟨steps.toNat, by omega⟩
    have hres : runP R os regs m = runE os m 0 ⟨0, regs⟩ := by rw [runP, if_pos hk]; simp
    rw [hres]
    rw [hk] at HC
    have HV := Lib.hid k1
    have HR := Lib.hid k2
    clear hres hk k1 k2
    go_enter Tryz.func9, Tryz.ntmps9
    go_wp2_with fail
    refine HC.out.mono ?_
    rintro e w1 ⟨rfl, hb1⟩
    have hz1 : w.heap.size + 2 ≤ w1.heap.size := by have := hb1.size; (try simp at this); omega
    have P0 : w1.cell? ⟨w.heap.size, 0, none⟩ = some (.int .i64 R) := by rw [bcell1 hb1 (by simp <;> omega)]; simp [go_sem]
    have P1 : w1.cell? ⟨w.heap.size, 1, none⟩ = some (.slice ao os.length co) := by rw [bcell1 hb1 (by simp <;> omega)]; simp [go_sem]
    have R0 : w1.cell? ⟨w.heap.size + 1, 0, none⟩ = some (.int .i64 0) := by rw [bcell1 hb1 (by simp)]; simp [go_sem]
    have R1 : w1.cell? ⟨w.heap.size + 1, 1, none⟩ = some (.slice none 0 0) := by rw [bcell1 hb1 (by simp)]; simp [go_sem]
    have Z0 : w1.frozen? ⟨w.heap.size + 1, 0, none⟩ = false := by rw [bfroz1 hb1 (by simp)]; simp [go_sem]
    have Z1 : w1.frozen? ⟨w.heap.size + 1, 1, none⟩ = false := by rw [bfroz1 hb1 (by simp)]; simp [go_sem]
    have HB1 : Hid (Below w.heap.size w w1) := Lib.hid (HB0.out.trans (hb1.mono (by simp <;> omega)))
    clear hb1
    go_wp2_with fail
    refine (run_c R ao co os ⟨g, o, none⟩ c regs m w1 (HO.out.below HB1.out) (HX.out.below HB1.out) HV.out HR.out (by omega)).mono ?_
    rintro e w2 hr2
    obtain ⟨a2, c2, F2, rfl, hb2, ho2, hn2, hf2⟩ := hr2.cfg
    have hz2 : w1.heap.size ≤ w2.heap.size := hb2.size
    replace R0 := (bcell1 hb2 (by omega)).trans R0
    replace R1 := (bcell1 hb2 (by omega)).trans R1
    replace Z0 := (bfroz1 hb2 (by omega)).trans Z0
    replace Z1 := (bfroz1 hb2 (by omega)).trans Z1
    have HB2 := Lib.hid (bnext HB1.out hb2 (Nat.le_refl _))
    have HO2 := Lib.hid ho2
    have HN2 := Lib.hid hn2
    have HF2 := Lib.hid hf2
    have sA := setA w2 (w.heap.size + 1) (.int .i64 (runE os m 0 ⟨0, regs⟩).1.pc) (.slice a2 (runE os m 0 ⟨0, regs⟩).1.regs.length c2) R0 R1
    clear hb2 ho2 hn2 hf2 hr2
    go_wp2
    refine bodyPost_ret (v := .tuple #[.agg #[.int .i64 (runE os m 0 ⟨0, regs⟩).1.pc, .slice a2 (runE os m 0 ⟨0, regs⟩).1.regs.length c2], .int .i64 (runE os m 0 ⟨0, regs⟩).2.1, .int .i64 (runE os m 0 ⟨0, regs⟩).2.2]) (by simp [results, Tryz.results9, go_sem, sA]) rfl ?_
    exact RetACC.put HB2.out (by omega) HO2.out (fun hg => by have := HF2.out _ hg; omega) HN2.out (fun x hx => by have := HF2.out x hx; omega)
  · have hres : runP R os regs steps = (zCfg, 0, askRun R os regs steps) := by rw [runP, if_neg hk]
    have bk : (askRun R os regs steps != 0) = true := by simp [hk]
    rw [hres]
    clear hres hk
    go_enter Tryz.func9, Tryz.ntmps9
    go_wp2_with fail
    refine HC.out.mono ?_
    rintro e w1 ⟨rfl, hb1⟩
    have hz1 : w.heap.size + 2 ≤ w1.heap.size := by have := hb1.size; (try simp at this); omega
    have P0 : w1.cell? ⟨w.heap.size, 0, none⟩ = some (.int .i64 R) := by rw [bcell1 hb1 (by simp <;> omega)]; simp [go_sem]
    have P1 : w1.cell? ⟨w.heap.size, 1, none⟩ = some (.slice ao os.length co) := by rw [bcell1 hb1 (by simp <;> omega)]; simp [go_sem]
    have R0 : w1.cell? ⟨w.heap.size + 1, 0, none⟩ = some (.int .i64 0) := by rw [bcell1 hb1 (by simp)]; simp [go_sem]
    have R1 : w1.cell? ⟨w.heap.size + 1, 1, none⟩ = some (.slice none 0 0) := by rw [bcell1 hb1 (by simp)]; simp [go_sem]
    have Z0 : w1.frozen? ⟨w.heap.size + 1, 0, none⟩ = false := by rw [bfroz1 hb1 (by simp)]; simp [go_sem]
    have Z1 : w1.frozen? ⟨w.heap.size + 1, 1, none⟩ = false := by rw [bfroz1 hb1 (by simp)]; simp [go_sem]
    have HB1 : Hid (Below w.heap.size w w1) := Lib.hid (HB0.out.trans (hb1.mono (by simp <;> omega)))
    clear hb1
    have sA := setA w1 (w.heap.size + 1) (.int .i64 0) (.slice none 0 0) R0 R1
    go_wp2
    refine bodyPost_ret (v := .tuple #[.agg #[.int .i64 0, .slice none 0 0], .int .i64 0, .int .i64 (askRun R os regs steps)]) (by simp [results, Tryz.results9, go_sem, sA]) rfl ?_
    exact RetACC.zero _ _ ((HB1.out.setCell (show w.heap.size ≤ w.heap.size + 1 by omega) _).setCell (show w.heap.size ≤ w.heap.size + 1 by omega) _)
set_option maxHeartbeats 2000000 in
theorem l05Asked_c (R : Int) (os : List Ord) (steps : Int) (p : Nat) (ao : Option Addr) (co : Nat) (a : Option Addr) (c : Nat) (regs : List Int) (w : World) (ho : SlO Any w ao os) (hx : SlI Any w a regs) (hp0 : w.cell? ⟨p, 0, none⟩ = some (.int .i64 R)) (hp1 : w.cell? ⟨p, 1, none⟩ = some (.slice ao os.length co)) :
    Calls Tryz.prog 31 #[.pointer (some ⟨p, 0, none⟩), .slice a regs.length c, .int .i64 steps] w (RetV w (.int .i64 (askRun R os regs steps))) := by
  have hpl : p < w.heap.size := World.block_lt_of_cell? w _ hp0
  have HV := Lib.hid (l05Ok_c R Any ao co os p w ho hp0 hp1)
  have HX := Lib.hid hx
  clear ho hx
  cases hv : validProgS R os
  · rw [askRun_bad hv]
    rw [hv] at HV
    clear hv
    go_enter Tryz.func31, Tryz.ntmps31
    go_wp2_with fail
    refine HV.out.mono ?_
    rintro e w1 ⟨rfl, hb1⟩
    have HB1 := Lib.hid hb1
    clear hb1
    go_wp2
    go_ret
    exact ⟨rfl, HB1.out⟩
  · rw [hv] at HV
    cases hr : regsOk R regs
    · rw [askRun_two hv (.inl hr)]
      have HR := Lib.hid hr
      clear hv hr
      go_enter Tryz.func31, Tryz.ntmps31
      go_wp2_with fail
      refine HV.out.mono ?_
      rintro e w1 ⟨rfl, hb1⟩
      have HB1 := Lib.hid hb1
      have hic := l05Regs_c R p a c regs w1 (HX.out.below HB1.out) ((bcell1 HB1.out hpl).trans hp0)
      rw [HR.out] at hic
      have HIC := Lib.hid hic
      clear hb1 hic
      go_wp2_with fail
      refine HIC.out.mono ?_
      rintro e w2 ⟨rfl, rfl⟩
      go_wp2
      go_ret
      exact ⟨rfl, HB1.out⟩
    · cases hs : inRg steps 0 200
      · rw [askRun_two hv (.inr hs)]
        have HR := Lib.hid hr
        have HS := Lib.hid hs
        clear hv hr hs
        go_enter Tryz.func31, Tryz.ntmps31
        go_wp2_with fail
        refine HV.out.mono ?_
        rintro e w1 ⟨rfl, hb1⟩
        have HB1 := Lib.hid hb1
        have hic := l05Regs_c R p a c regs w1 (HX.out.below HB1.out) ((bcell1 HB1.out hpl).trans hp0)
        rw [HR.out] at hic
        have HIC := Lib.hid hic
        clear hb1 hic
        go_wp2_with fail
        refine HIC.out.mono ?_
        rintro e w2 ⟨rfl, rfl⟩
        go_wp2_with fail
        refine (l00In_c steps 0 200 _).mono ?_
        rintro e w3 ⟨rfl, rfl⟩
        have hS := HS.out
        go_wp2
        go_ret
        exact ⟨rfl, HB1.out⟩
      · rw [askRun_zero hv hr hs]
        have HR := Lib.hid hr
        have HS := Lib.hid hs
        clear hv hr hs
        go_enter Tryz.func31, Tryz.ntmps31
        go_wp2_with fail
        refine HV.out.mono ?_
        rintro e w1 ⟨rfl, hb1⟩
        have HB1 := Lib.hid hb1
        have hic := l05Regs_c R p a c regs w1 (HX.out.below HB1.out) ((bcell1 HB1.out hpl).trans hp0)
        rw [HR.out] at hic
        have HIC := Lib.hid hic
        clear hb1 hic
        go_wp2_with fail
        refine HIC.out.mono ?_
        rintro e w2 ⟨rfl, rfl⟩
        go_wp2_with fail
        refine (l00In_c steps 0 200 _).mono ?_
        rintro e w3 ⟨rfl, rfl⟩
        have hS := HS.out
        go_wp2
        go_ret
        exact ⟨rfl, HB1.out⟩

/- Runs of a program: the reference's. Written by mknl.py. -/
theorem runC_halt {os : List Ord} {k : Nat} {c : Cfg} (h : haltS os c.pc = true) : runC os k c = ([c], 0) := by cases k <;> simp [runC, h]
theorem runC_choice {os : List Ord} {k : Nat} {c : Cfg} (h : haltS os c.pc = false) (h2 : choice (nthO os c.pc.toNat) = true) : runC os (k + 1) c = ([c], 4) := by simp [runC, h, h2]
theorem runC_stuck {os : List Ord} {k : Nat} {c : Cfg} (h : haltS os c.pc = false) (h2 : choice (nthO os c.pc.toNat) = false) (h3 : (nextS os c.pc c.regs).2 = 3) : runC os (k + 1) c = ([c], 3) := by simp [runC, h, h2, h3]
theorem runC_step {os : List Ord} {k : Nat} {c : Cfg} (h : haltS os c.pc = false) (h2 : choice (nthO os c.pc.toNat) = false) (h3 : (nextS os c.pc c.regs).2 = 0) : runC os (k + 1) c = (c :: (runC os k (firstS os c)).1, (runC os k (firstS os c)).2) := by simp [runC, h, h2, h3]
theorem nthCfg_last (pre : List Cfg) (c : Cfg) : nthCfg (pre ++ [c]) pre.length = c := by simp [nthCfg]
set_option maxHeartbeats 8000000 in
set_option maxRecDepth 100000 in
theorem l05Run_c (R : Int) (os : List Ord) (steps : Nat) (p : Nat) (ao : Option Addr) (co : Nat) (a : Option Addr) (c : Nat) (regs : List Int) (w : World) (ho : SlO Any w ao os) (hx : SlI Any w a regs) (hp0 : w.cell? ⟨p, 0, none⟩ = some (.int .i64 R)) (hp1 : w.cell? ⟨p, 1, none⟩ = some (.slice ao os.length co)) (hvp : validProgS R os = true) (hrg : regsOk R regs = true) (hst : steps ≤ 200) :
    Calls Tryz.prog 32 #[.pointer (some ⟨p, 0, none⟩), .slice a regs.length c, .int .i64 steps] w (RetDC w (dCS (runC os steps ⟨0, regs⟩).1) (runC os steps ⟨0, regs⟩).2) := by
  have hR : 1 ≤ R ∧ R ≤ 3 ∧ 1 ≤ os.length ∧ os.length ≤ 6 := by simp [validProgS, inRg] at hvp; omega
  have hl8 : regs.length ≤ 8 := by have := (regsOk_ok hrg).1; omega
  have hpl : p < w.heap.size := World.block_lt_of_cell? w _ hp0
  have HV := Lib.hid hvp
  have HO := Lib.hid ho
  have HX := Lib.hid hx
  have HS := Lib.hid (start_ok (os := os) hrg)
  clear hvp ho hx hrg
  go_enter Tryz.func32, Tryz.ntmps32
  go_wp2_with fail
  refine (l00OwnN_c Any a c regs _ HX.out (by omega)).mono ?_
  rintro e w1 ⟨v1, rfl, hb1, hl1⟩
  obtain ⟨a1, c1, F1, rfl, ho1, hn1, hF1⟩ := hl1.ow (by unfold maxLen; omega)
  have hls := Lst.cfg1 (E := 35) ho1 hn1 hF1 hb1.size 0
  have HLS := Lib.hid hls
  have HB1 := Lib.hid hb1
  clear hls hb1 ho1 hn1 hF1 hl1
  go_wp2
  go_loopw [8, 9, 10, 11, 12, 13] (fun v i0 _ _ _ _ wr => ∃ (k : Nat) (pre : List Cfg) (cur : Cfg) (G : List Nat), k ≤ steps ∧ pre.length = k ∧ i0 = .int .i64 k ∧ Hid (runC os steps ⟨0, regs⟩ = (pre ++ (runC os (steps - k) cur).1, (runC os (steps - k) cur).2)) ∧ Hid (confOk R os.length cur.pc cur.regs = true) ∧ Hid (Below w.heap.size w wr) ∧ Hid (Lst 35 2 wr w.heap.size v (k + 1) ((pre ++ [cur]).flatMap Cfg.ds) G)) (fun _ i0 _ _ _ _ _ => steps - (intOf i0).toNat)
  case atStart => exact ⟨0, [], ⟨0, regs⟩, _, Nat.zero_le _, rfl, rfl, Lib.hid rfl, HS, Lib.hid (HB1.out.alloc HB1.out.size _), Lib.hid (by have := HLS.out; simpa [Cfg.ds] using this)⟩
  case round =>
    obtain ⟨k, pre, cur, G, hk, hpre, rfl, HE, HC, HBR, HL⟩ := hrel
    have hP : 0 ≤ cur.pc ∧ cur.pc ≤ os.length := by have := HC.out; simp [confOk, inRg] at this; omega
    obtain ⟨G', how, hnd, hsub⟩ := HL.out.ow (by omega) (by unfold maxLen; omega)
    obtain ⟨g, o, cc, a', c', F', ev, c0, c1', o1, n1, s1⟩ := (show Ow wr (dCS (pre ++ [cur])) _ G' from how).cfgAt hnd (i := k) (by simp; omega)
    have hlast : nthCfg (pre ++ [cur]) k = cur := by rw [← hpre]; exact nthCfg_last pre cur
    rw [hlast] at c0 c1' o1
    rw [show (pre ++ [cur]).length = k + 1 by simp [hpre]] at ev
    subst ev
    have hgl : g < wr.heap.size := World.block_lt_of_cell? wr _ c0
    have hpr : p < wr.heap.size := by have := HBR.out.size; omega
    have P0 := (bcell1 HBR.out hpl).trans hp0
    have P1 := (bcell1 HBR.out hpl).trans hp1
    have hOE : Hid (∀ w', Below wr.heap.size wr w' → SlI Any w' a' cur.regs) := Lib.hid (fun w' hb => (o1.below hb).arg)
    have ix : ∀ w', (Instr.indexAt 41 (.slice (some ⟨g, o, none⟩) (k + 1) cc) (.int .i64 k)).run Tryz.prog w' = .ok (.pointer (some ⟨g, o + k * 2, none⟩)) w' := fun w' => by
      have := ix_of (P := Tryz.prog) tabConfigSM.under tabConfigSM.size (a := some ⟨g, o, none⟩) (n := k + 1) (fun _ => ⟨g, o, rfl⟩) cc k w' (by omega) (by omega)
      simpa [adr, blk, ofs] using this
    clear how hnd hsub o1 n1 s1 hlast
    by_cases hks : k < steps
    rotate_left
    · have hres : runC os steps ⟨0, regs⟩ = (pre ++ [cur], 0) := by rw [HE.out, show steps - k = 0 by omega]; simp [runC]
      have HRS := Lib.hid hres
      clear hres HE
      go_wp2
      go_ret2
      rw [HRS.out]
      exact RetDC.ofLst (cs := pre ++ [cur]) 0 HL.out (by simp; omega) rfl HBR.out (by unfold maxLen; omega)
    · obtain ⟨k', hk'⟩ : ∃ k', steps - k = k' + 1 := ⟨steps - k - 1, by omega⟩
      rw [hk'] at HE
      have HH := Lib.hid (l05Halts_c os cur.pc ao co p wr (HO.out.below HBR.out) P1 hP.1 hP.2)
      cases hh : haltS os cur.pc
      rotate_left
      · have hres : runC os steps ⟨0, regs⟩ = (pre ++ [cur], 0) := by rw [HE.out, runC_halt hh]
        have HRS := Lib.hid hres
        rw [hh] at HH
        clear hres HE hh
        go_wp2_with fail
        refine HH.out.mono ?_
        rintro e w2 ⟨rfl, rfl⟩
        go_wp2
        go_ret2
        rw [HRS.out]
        exact RetDC.ofLst (cs := pre ++ [cur]) 0 HL.out (by simp; omega) rfl HBR.out (by unfold maxLen; omega)
      · rw [hh] at HH
        have hne : cur.pc ≠ os.length ∧ (nthO os cur.pc.toNat).op ≠ 3 := by simp [haltS] at hh; exact hh
        have hlt : cur.pc < os.length := by omega
        have i0 := fun w' => ixO HO.out co cur.pc w' hP.1 hlt
        have g0 := (HO.out.below HBR.out).c0 cur.pc.toNat (by omega)
        have g1 := (HO.out.below HBR.out).c1 cur.pc.toNat (by omega)
        have g2 := (HO.out.below HBR.out).c2 cur.pc.toNat (by omega)
        have g3 := (HO.out.below HBR.out).c3 cur.pc.toNat (by omega)
        have k0 := fun ob => ((below_alloc wr ob).cell (World.block_lt_of_cell? wr _ g0)).trans g0
        have k1 := fun ob => ((below_alloc wr ob).cell (World.block_lt_of_cell? wr _ g1)).trans g1
        have k2 := fun ob => ((below_alloc wr ob).cell (World.block_lt_of_cell? wr _ g2)).trans g2
        have k3 := fun ob => ((below_alloc wr ob).cell (World.block_lt_of_cell? wr _ g3)).trans g3
        have HHF := Lib.hid hh
        have HBA : Hid (Below wr.heap.size wr ((wr.alloc (.cells #[.int .i64 (nthO os cur.pc.toNat).op, .int .i64 (nthO os cur.pc.toNat).reg, .int .i64 (nthO os cur.pc.toNat).to, .int .i64 (nthO os cur.pc.toNat).els] 66)).drew)) := Lib.hid (below_alloc wr _).drew
        have HBO : Hid (Below w.heap.size w ((wr.alloc (.cells #[.int .i64 (nthO os cur.pc.toNat).op, .int .i64 (nthO os cur.pc.toNat).reg, .int .i64 (nthO os cur.pc.toNat).to, .int .i64 (nthO os cur.pc.toNat).els] 66)).drew)) := Lib.hid (bnext HBR.out HBA.out (Nat.le_refl _))
        clear hh hne
        cases hc : choice (nthO os cur.pc.toNat)
        rotate_left
        · have hres : runC os steps ⟨0, regs⟩ = (pre ++ [cur], 4) := by rw [HE.out, runC_choice HHF.out hc]
          have HRS := Lib.hid hres
          have bo : ((nthO os cur.pc.toNat).op == 1) = true := by simp only [choice, Bool.and_eq_true] at hc; exact hc.1
          have bt : ((nthO os cur.pc.toNat).to != (nthO os cur.pc.toNat).els) = true := by simp only [choice, Bool.and_eq_true] at hc; exact hc.2
          clear hres HE hc
          go_wp2_with fail
          refine HH.out.mono ?_
          rintro e w2 ⟨rfl, rfl⟩
          go_wp2
          go_region
          all_goals
            go_wp2
            go_ret2
            rw [HRS.out]
            exact RetDC.ofLst (cs := pre ++ [cur]) 4 (HL.out.below HBA.out) (by simp; omega) rfl HBO.out (by unfold maxLen; omega)
        · have HCC := Lib.hid hc
          have wC0 := (bcell1 HBA.out hgl).trans c0
          have wC1 := (bcell1 HBA.out hgl).trans c1'
          have wP0 := (bcell1 HBA.out hpr).trans P0
          have wP1 := (bcell1 HBA.out hpr).trans P1
          have HN := Lib.hid (l05Next_c R ao co p g (o + k * 2) os cur.pc a' c' cur.regs ((wr.alloc (.cells #[.int .i64 (nthO os cur.pc.toNat).op, .int .i64 (nthO os cur.pc.toNat).reg, .int .i64 (nthO os cur.pc.toNat).to, .int .i64 (nthO os cur.pc.toNat).els] 66)).drew) (HO.out.below HBO.out) (hOE.out _ HBA.out) wP0 wP1 wC0 wC1 HV.out HC.out)
          clear wC0 wC1 wP0 wP1
          by_cases e1 : (nthO os cur.pc.toNat).op = 1
          · have bo : ((nthO os cur.pc.toNat).op == 1) = true := by simp [e1]
            have bt : ((nthO os cur.pc.toNat).to != (nthO os cur.pc.toNat).els) = false := by simp only [choice, bo, Bool.true_and] at hc; exact hc
            clear hc e1
            go_wp2_with fail
            refine HH.out.mono ?_
            rintro e w2 ⟨rfl, rfl⟩
            go_wp2
            go_region
            all_goals
              go_wp2_with fail
              refine HN.out.mono ?_
              rintro e w3 ⟨v3, F3, rfl, hb3, ho3, hn3, hf3⟩
              have hz3 : wr.heap.size + 1 ≤ w3.heap.size := by have := hb3.size; (try simp at this); omega
              have HBC3 : Hid (Below wr.heap.size wr w3) := Lib.hid (bnext HBA.out hb3 (by simp))
              have HB3 : Hid (Below w.heap.size w w3) := Lib.hid (bnext HBO.out hb3 (Nat.le_refl _))
              have HL3 := Lib.hid (HL.out.below HBC3.out)
              have HO3 := Lib.hid ho3
              have HN3 := Lib.hid hn3
              have HF3 : Hid (∀ x, x ∈ F3 → wr.heap.size + 1 ≤ x) := Lib.hid (fun x hx => by have := hf3 x hx; (try simp at this); omega)
              clear hb3 ho3 hn3 hf3
              rcases nextS_code os cur.pc cur.regs with e0 | ⟨_, e3⟩
              rotate_left
              · have hres : runC os steps ⟨0, regs⟩ = (pre ++ [cur], 3) := by rw [HE.out, runC_stuck HHF.out HCC.out e3]
                have HRS := Lib.hid hres
                have b5 : ((nextS os cur.pc cur.regs).2 == 0) = false := by rw [e3]; rfl
                clear hres HE e3
                go_wp2
                go_ret2
                rw [HRS.out]
                exact RetDC.ofLst (cs := pre ++ [cur]) 3 HL3.out (by simp; omega) rfl HB3.out (by unfold maxLen; omega)
              · have hres : runC os steps ⟨0, regs⟩ = ((pre ++ [cur]) ++ (runC os (steps - (k + 1)) (firstS os cur)).1, (runC os (steps - (k + 1)) (firstS os cur)).2) := by rw [HE.out, runC_step HHF.out HCC.out e0, show steps - (k + 1) = k' by omega]; simp
                have HRS := Lib.hid hres
                have b5 : ((nextS os cur.pc cur.regs).2 == 0) = true := by rw [e0]; rfl
                have hpos := nextS_some HHF.out e0
                have hfg := firstS_get hpos
                have HOKF := Lib.hid (firstS_ok HV.out HC.out HHF.out e0)
                obtain ⟨g3, o3, c3, a5, c5, F5, ev, d0, d1, o5, n5, s5⟩ := HO3.out.cfgAt HN3.out hpos
                subst ev
                rw [← hfg.1] at d0 d1 o5
                simp only [Nat.zero_mul, Nat.add_zero, Nat.zero_add] at d0 d1
                have i3 : ∀ w', (Instr.indexAt 41 (.slice (some ⟨g3, o3, none⟩) (nextS os cur.pc cur.regs).1.length c3) (.int .i64 0)).run Tryz.prog w' = .ok (.pointer (some ⟨g3, o3, none⟩)) w' := fun w' => by
                  have := ix_of (P := Tryz.prog) tabConfigSM.under tabConfigSM.size (a := some ⟨g3, o3, none⟩) (n := (nextS os cur.pc cur.regs).1.length) (fun _ => ⟨g3, o3, rfl⟩) c3 0 w' (by omega) (by omega)
                  simpa [adr, blk, ofs] using this
                have HROW : Hid (RowAt (w3.alloc (.cells #[.int .i64 (firstS os cur).pc, .slice a5 (firstS os cur).regs.length c5] 35)) w3.heap.size 2 w.heap.size [.i (firstS os cur).pc, dI (firstS os cur).regs] [.int .i64 (firstS os cur).pc, .slice a5 (firstS os cur).regs.length c5] F5 G) :=
                  Lib.hid ⟨⟨[], F5, ⟨rfl, rfl⟩, ⟨F5, [], o5.below (below_alloc _ _), rfl, by simp⟩, by simp⟩, rfl, n5, fun x hx => by have h1 := HF3.out x (s5 x hx); have := HBR.out.size; omega, fun x hx hg => by have h1 := HF3.out x (s5 x hx); have h2 := (HL.out.lt x hg).2; omega, (fun j u hu => by match j, hu with | 0, hu => (simp at hu; subst hu; simp) | 1, hu => (simp at hu; subst hu; simp)), by simp [Value.oneCell']⟩
                have HL4 := Lib.hid (HL3.out.below (below_alloc w3 (.cells #[.int .i64 (firstS os cur).pc, .slice a5 (firstS os cur).regs.length c5] 35)))
                clear hres HE e0 hfg o5 n5 s5
                go_wp2_with (at_builtin; refine app_lst rfl _ _ 41 rfl tabConfigSM rfl (by omega) (by decide) w.heap.size _ (k + 1) _ _ _ _ _ rfl HL4.out w3.heap.size rfl HROW.out (by omega) (by have := HB3.out.size; first | omega | (simp; omega)) ?_)
                intro v7 w7 G7 hN
                have hb7 : Below w.heap.size w w7 := (HB3.out.alloc HB3.out.size _).trans (hN.chg.below (by have := HB3.out.size; simp; omega) (fun x hx => (HL4.out.lt x (ob_sub HL4.out x hx)).1))
                have HB7 := Lib.hid hb7
                have HL7 : Hid (Lst 35 2 w7 w.heap.size v7 (k + 1 + 1) (((pre ++ [cur]) ++ [firstS os cur]).flatMap Cfg.ds) G7) := Lib.hid (by have := hN.lst; simpa [List.flatMap_append, Cfg.ds] using this)
                clear hN hb7
                go_wp2
                go_roundw
                case rel => exact ⟨k + 1, pre ++ [cur], firstS os cur, G7, by omega, by simp; omega, by go_num, HRS, HOKF, HB7, HL7⟩
                case measure => simp [intOf]; omega
          · have bo : ((nthO os cur.pc.toNat).op == 1) = false := by simp [e1]
            clear hc e1
            go_wp2_with fail
            refine HH.out.mono ?_
            rintro e w2 ⟨rfl, rfl⟩
            go_wp2
            go_region
            all_goals
              go_wp2_with fail
              refine HN.out.mono ?_
              rintro e w3 ⟨v3, F3, rfl, hb3, ho3, hn3, hf3⟩
              have hz3 : wr.heap.size + 1 ≤ w3.heap.size := by have := hb3.size; (try simp at this); omega
              have HBC3 : Hid (Below wr.heap.size wr w3) := Lib.hid (bnext HBA.out hb3 (by simp))
              have HB3 : Hid (Below w.heap.size w w3) := Lib.hid (bnext HBO.out hb3 (Nat.le_refl _))
              have HL3 := Lib.hid (HL.out.below HBC3.out)
              have HO3 := Lib.hid ho3
              have HN3 := Lib.hid hn3
              have HF3 : Hid (∀ x, x ∈ F3 → wr.heap.size + 1 ≤ x) := Lib.hid (fun x hx => by have := hf3 x hx; (try simp at this); omega)
              clear hb3 ho3 hn3 hf3
              rcases nextS_code os cur.pc cur.regs with e0 | ⟨_, e3⟩
              rotate_left
              · have hres : runC os steps ⟨0, regs⟩ = (pre ++ [cur], 3) := by rw [HE.out, runC_stuck HHF.out HCC.out e3]
                have HRS := Lib.hid hres
                have b5 : ((nextS os cur.pc cur.regs).2 == 0) = false := by rw [e3]; rfl
                clear hres HE e3
                go_wp2
                go_ret2
                rw [HRS.out]
                exact RetDC.ofLst (cs := pre ++ [cur]) 3 HL3.out (by simp; omega) rfl HB3.out (by unfold maxLen; omega)
              · have hres : runC os steps ⟨0, regs⟩ = ((pre ++ [cur]) ++ (runC os (steps - (k + 1)) (firstS os cur)).1, (runC os (steps - (k + 1)) (firstS os cur)).2) := by rw [HE.out, runC_step HHF.out HCC.out e0, show steps - (k + 1) = k' by omega]; simp
                have HRS := Lib.hid hres
                have b5 : ((nextS os cur.pc cur.regs).2 == 0) = true := by rw [e0]; rfl
                have hpos := nextS_some HHF.out e0
                have hfg := firstS_get hpos
                have HOKF := Lib.hid (firstS_ok HV.out HC.out HHF.out e0)
                obtain ⟨g3, o3, c3, a5, c5, F5, ev, d0, d1, o5, n5, s5⟩ := HO3.out.cfgAt HN3.out hpos
                subst ev
                rw [← hfg.1] at d0 d1 o5
                simp only [Nat.zero_mul, Nat.add_zero, Nat.zero_add] at d0 d1
                have i3 : ∀ w', (Instr.indexAt 41 (.slice (some ⟨g3, o3, none⟩) (nextS os cur.pc cur.regs).1.length c3) (.int .i64 0)).run Tryz.prog w' = .ok (.pointer (some ⟨g3, o3, none⟩)) w' := fun w' => by
                  have := ix_of (P := Tryz.prog) tabConfigSM.under tabConfigSM.size (a := some ⟨g3, o3, none⟩) (n := (nextS os cur.pc cur.regs).1.length) (fun _ => ⟨g3, o3, rfl⟩) c3 0 w' (by omega) (by omega)
                  simpa [adr, blk, ofs] using this
                have HROW : Hid (RowAt (w3.alloc (.cells #[.int .i64 (firstS os cur).pc, .slice a5 (firstS os cur).regs.length c5] 35)) w3.heap.size 2 w.heap.size [.i (firstS os cur).pc, dI (firstS os cur).regs] [.int .i64 (firstS os cur).pc, .slice a5 (firstS os cur).regs.length c5] F5 G) :=
                  Lib.hid ⟨⟨[], F5, ⟨rfl, rfl⟩, ⟨F5, [], o5.below (below_alloc _ _), rfl, by simp⟩, by simp⟩, rfl, n5, fun x hx => by have h1 := HF3.out x (s5 x hx); have := HBR.out.size; omega, fun x hx hg => by have h1 := HF3.out x (s5 x hx); have h2 := (HL.out.lt x hg).2; omega, (fun j u hu => by match j, hu with | 0, hu => (simp at hu; subst hu; simp) | 1, hu => (simp at hu; subst hu; simp)), by simp [Value.oneCell']⟩
                have HL4 := Lib.hid (HL3.out.below (below_alloc w3 (.cells #[.int .i64 (firstS os cur).pc, .slice a5 (firstS os cur).regs.length c5] 35)))
                clear hres HE e0 hfg o5 n5 s5
                go_wp2_with (at_builtin; refine app_lst rfl _ _ 41 rfl tabConfigSM rfl (by omega) (by decide) w.heap.size _ (k + 1) _ _ _ _ _ rfl HL4.out w3.heap.size rfl HROW.out (by omega) (by have := HB3.out.size; first | omega | (simp; omega)) ?_)
                intro v7 w7 G7 hN
                have hb7 : Below w.heap.size w w7 := (HB3.out.alloc HB3.out.size _).trans (hN.chg.below (by have := HB3.out.size; simp; omega) (fun x hx => (HL4.out.lt x (ob_sub HL4.out x hx)).1))
                have HB7 := Lib.hid hb7
                have HL7 : Hid (Lst 35 2 w7 w.heap.size v7 (k + 1 + 1) (((pre ++ [cur]) ++ [firstS os cur]).flatMap Cfg.ds) G7) := Lib.hid (by have := hN.lst; simpa [List.flatMap_append, Cfg.ds] using this)
                clear hN hb7
                go_wp2
                go_roundw
                case rel => exact ⟨k + 1, pre ++ [cur], firstS os cur, G7, by omega, by simp; omega, by go_num, HRS, HOKF, HB7, HL7⟩
                case measure => simp [intOf]; omega

/- Runs of a program: the reference's exported function. -/
theorem runP_bad {R : Int} {os : List Ord} {regs : List Int} {steps : Int} (h : askRun R os regs steps ≠ 0) : runP R os regs steps = (zCfg, 0, askRun R os regs steps) := by rw [runP, if_neg h]
theorem runP_err {R : Int} {os : List Ord} {regs : List Int} {m : Nat} (h : askRun R os regs m = 0) (h2 : (runC os m ⟨0, regs⟩).2 ≠ 0) : runP R os regs m = (zCfg, 0, (runC os m ⟨0, regs⟩).2) := by
  rw [runP, if_pos h]; simp only [Int.toNat_natCast]; rw [runE_runC, if_neg h2]
theorem runP_fine {R : Int} {os : List Ord} {regs : List Int} {m n : Nat} (h : askRun R os regs m = 0) (h2 : (runC os m ⟨0, regs⟩).2 = 0) (hn : (runC os m ⟨0, regs⟩).1.length = n + 1) : runP R os regs m = (nthCfg (runC os m ⟨0, regs⟩).1 n, (n : Int), 0) := by
  rw [runP, if_pos h]; simp only [Int.toNat_natCast]; rw [runE_runC, if_pos h2, hn]
  have e : (runC os m ⟨0, regs⟩).1.getLastD zCfg = nthCfg (runC os m ⟨0, regs⟩).1 n := by
    rw [List.getLastD_eq_getLast?, List.getLast?_eq_getElem?, hn, nthCfg, List.getD_eq_getElem?_getD]; rfl
  rw [e]
  congr 2
  omega
set_option maxHeartbeats 2000000 in
theorem specRunProgram_d (R : Int) (os : List Ord) (regs : List Int) (steps : Int) {vo vr : Value} (w : World) (h1 : Rd Any w (dO os) vo) (h2 : Rd Any w (dI regs) vr) :
    Calls Tryz.prog 10 #[.agg #[.int .i64 R, vo], vr, .int .i64 steps] w (RetACC w (runP R os regs steps).1.ds (runP R os regs steps).2.1 (runP R os regs steps).2.2) := by
  obtain ⟨ao, co, rfl, ho⟩ := Rd_O.1 h1
  obtain ⟨a, c, rfl, hx⟩ := Rd_I.1 h2
  clear h1 h2
  have hb0 : Below w.heap.size w ((w.alloc (.cells #[.int .i64 R, .slice ao os.length co] 26)).alloc (.cells #[.int .i64 0, .slice none 0 0] 35)) := ((Below.refl _ _).alloc (Nat.le_refl _) _).alloc (by simp) _
  have HC := Lib.hid (l05Asked_c R os steps w.heap.size ao co a c regs _ (ho.below hb0) (hx.below hb0) (by simp [go_sem]) (by simp [go_sem]))
  have HB0 := Lib.hid hb0
  have HO := Lib.hid ho
  have HX := Lib.hid hx
  clear hb0 ho hx
  by_cases hk : askRun R os regs steps = 0
  rotate_left
  · rw [runP_bad hk]
    have bk : (askRun R os regs steps != 0) = true := by simp [hk]
    clear hk
    go_enter Tryz.func10, Tryz.ntmps10
    go_wp2_with fail
    refine HC.out.mono ?_
    rintro e w1 ⟨rfl, hb1⟩
    have hz1 : w.heap.size + 2 ≤ w1.heap.size := by have := hb1.size; (try simp at this); omega
    have P0 : w1.cell? ⟨w.heap.size, 0, none⟩ = some (.int .i64 R) := by rw [bcell1 hb1 (by simp <;> omega)]; simp [go_sem]
    have P1 : w1.cell? ⟨w.heap.size, 1, none⟩ = some (.slice ao os.length co) := by rw [bcell1 hb1 (by simp <;> omega)]; simp [go_sem]
    have R0 : w1.cell? ⟨w.heap.size + 1, 0, none⟩ = some (.int .i64 0) := by rw [bcell1 hb1 (by simp)]; simp [go_sem]
    have R1 : w1.cell? ⟨w.heap.size + 1, 1, none⟩ = some (.slice none 0 0) := by rw [bcell1 hb1 (by simp)]; simp [go_sem]
    have Z0 : w1.frozen? ⟨w.heap.size + 1, 0, none⟩ = false := by rw [bfroz1 hb1 (by simp)]; simp [go_sem]
    have Z1 : w1.frozen? ⟨w.heap.size + 1, 1, none⟩ = false := by rw [bfroz1 hb1 (by simp)]; simp [go_sem]
    have HB1 : Hid (Below w.heap.size w w1) := Lib.hid (HB0.out.trans (hb1.mono (by simp <;> omega)))
    clear hb1
    have sA := setA w1 (w.heap.size + 1) (.int .i64 0) (.slice none 0 0) R0 R1
    go_wp2
    refine bodyPost_ret (v := .tuple #[.agg #[.int .i64 0, .slice none 0 0], .int .i64 0, .int .i64 (askRun R os regs steps)]) (by simp [results, Tryz.results10, go_sem, sA]) rfl ?_
    exact RetACC.zero _ _ ((HB1.out.setCell (show w.heap.size ≤ w.heap.size + 1 by omega) _).setCell (show w.heap.size ≤ w.heap.size + 1 by omega) _)
  · obtain ⟨k1, k2, k3, k4⟩ := askRun_ok hk
    obtain ⟨m, rfl⟩ : ∃ m : Nat, steps = m := ⟨steps.toNat, by omega⟩
    have HV := Lib.hid k1
    have HR := Lib.hid k2
    have HK := Lib.hid hk
    have hlen := runC_len os m ⟨0, regs⟩
    obtain ⟨n, hn⟩ : ∃ n, (runC os m ⟨0, regs⟩).1.length = n + 1 := ⟨(runC os m ⟨0, regs⟩).1.length - 1, by have := runC_pos os m ⟨0, regs⟩; omega⟩
    have hn2 : n ≤ 200 := by omega
    have HLN := Lib.hid hn
    rw [hk] at HC
    clear hk k1 k2 hlen hn
    by_cases h5 : (runC os m ⟨0, regs⟩).2 = 0
    rotate_left
    · rw [runP_err HK.out h5]
      have bk : ((runC os m ⟨0, regs⟩).2 != 0) = true := by simp [h5]
      clear h5
      go_enter Tryz.func10, Tryz.ntmps10
      go_wp2_with fail
      refine HC.out.mono ?_
      rintro e w1 ⟨rfl, hb1⟩
      have hz1 : w.heap.size + 2 ≤ w1.heap.size := by have := hb1.size; (try simp at this); omega
      have P0 : w1.cell? ⟨w.heap.size, 0, none⟩ = some (.int .i64 R) := by rw [bcell1 hb1 (by simp <;> omega)]; simp [go_sem]
      have P1 : w1.cell? ⟨w.heap.size, 1, none⟩ = some (.slice ao os.length co) := by rw [bcell1 hb1 (by simp <;> omega)]; simp [go_sem]
      have R0 : w1.cell? ⟨w.heap.size + 1, 0, none⟩ = some (.int .i64 0) := by rw [bcell1 hb1 (by simp)]; simp [go_sem]
      have R1 : w1.cell? ⟨w.heap.size + 1, 1, none⟩ = some (.slice none 0 0) := by rw [bcell1 hb1 (by simp)]; simp [go_sem]
      have Z0 : w1.frozen? ⟨w.heap.size + 1, 0, none⟩ = false := by rw [bfroz1 hb1 (by simp)]; simp [go_sem]
      have Z1 : w1.frozen? ⟨w.heap.size + 1, 1, none⟩ = false := by rw [bfroz1 hb1 (by simp)]; simp [go_sem]
      have HB1 : Hid (Below w.heap.size w w1) := Lib.hid (HB0.out.trans (hb1.mono (by simp <;> omega)))
      clear hb1
      go_wp2_with fail
      refine (l05Run_c R os m w.heap.size ao co a c regs w1 (HO.out.below HB1.out) (HX.out.below HB1.out) P0 P1 HV.out HR.out (by omega)).mono ?_
      rintro e w2 ⟨v2, F2, rfl, hb2, ho2, hn2, hf2⟩
      obtain ⟨a2, c2, rfl⟩ := (show ∃ a c, v2 = .slice a (n + 1) c by obtain ⟨a2, c2, e2, _⟩ := Rd_CS ho2.rdA; exact ⟨a2, c2, by rw [← HLN.out]; exact e2⟩)
      have hz2 : w1.heap.size ≤ w2.heap.size := hb2.size
      replace R0 := (bcell1 hb2 (by omega)).trans R0
      replace R1 := (bcell1 hb2 (by omega)).trans R1
      replace Z0 := (bfroz1 hb2 (by omega)).trans Z0
      replace Z1 := (bfroz1 hb2 (by omega)).trans Z1
      have HB2 := Lib.hid (bnext HB1.out hb2 (Nat.le_refl _))
      have HO2 := Lib.hid ho2
      have HN2 := Lib.hid hn2
      have HF2 := Lib.hid hf2
      clear hb2 ho2 hn2 hf2
      have sA := setA w2 (w.heap.size + 1) (.int .i64 0) (.slice none 0 0) R0 R1
      go_wp2
      refine bodyPost_ret (v := .tuple #[.agg #[.int .i64 0, .slice none 0 0], .int .i64 0, .int .i64 (runC os m ⟨0, regs⟩).2]) (by simp [results, Tryz.results10, go_sem, sA]) rfl ?_
      exact RetACC.zero _ _ ((HB2.out.setCell (show w.heap.size ≤ w.heap.size + 1 by omega) _).setCell (show w.heap.size ≤ w.heap.size + 1 by omega) _)
    · rw [runP_fine HK.out h5 HLN.out]
      have bk : ((runC os m ⟨0, regs⟩).2 != 0) = false := by simp [h5]
      clear h5
      go_enter Tryz.func10, Tryz.ntmps10
      go_wp2_with fail
      refine HC.out.mono ?_
      rintro e w1 ⟨rfl, hb1⟩
      have hz1 : w.heap.size + 2 ≤ w1.heap.size := by have := hb1.size; (try simp at this); omega
      have P0 : w1.cell? ⟨w.heap.size, 0, none⟩ = some (.int .i64 R) := by rw [bcell1 hb1 (by simp <;> omega)]; simp [go_sem]
      have P1 : w1.cell? ⟨w.heap.size, 1, none⟩ = some (.slice ao os.length co) := by rw [bcell1 hb1 (by simp <;> omega)]; simp [go_sem]
      have R0 : w1.cell? ⟨w.heap.size + 1, 0, none⟩ = some (.int .i64 0) := by rw [bcell1 hb1 (by simp)]; simp [go_sem]
      have R1 : w1.cell? ⟨w.heap.size + 1, 1, none⟩ = some (.slice none 0 0) := by rw [bcell1 hb1 (by simp)]; simp [go_sem]
      have Z0 : w1.frozen? ⟨w.heap.size + 1, 0, none⟩ = false := by rw [bfroz1 hb1 (by simp)]; simp [go_sem]
      have Z1 : w1.frozen? ⟨w.heap.size + 1, 1, none⟩ = false := by rw [bfroz1 hb1 (by simp)]; simp [go_sem]
      have HB1 : Hid (Below w.heap.size w w1) := Lib.hid (HB0.out.trans (hb1.mono (by simp <;> omega)))
      clear hb1
      go_wp2_with fail
      refine (l05Run_c R os m w.heap.size ao co a c regs w1 (HO.out.below HB1.out) (HX.out.below HB1.out) P0 P1 HV.out HR.out (by omega)).mono ?_
      rintro e w2 ⟨v2, F2, rfl, hb2, ho2, hn2, hf2⟩
      obtain ⟨a2, c2, rfl⟩ := (show ∃ a c, v2 = .slice a (n + 1) c by obtain ⟨a2, c2, e2, _⟩ := Rd_CS ho2.rdA; exact ⟨a2, c2, by rw [← HLN.out]; exact e2⟩)
      have hz2 : w1.heap.size ≤ w2.heap.size := hb2.size
      replace R0 := (bcell1 hb2 (by omega)).trans R0
      replace R1 := (bcell1 hb2 (by omega)).trans R1
      replace Z0 := (bfroz1 hb2 (by omega)).trans Z0
      replace Z1 := (bfroz1 hb2 (by omega)).trans Z1
      have HB2 := Lib.hid (bnext HB1.out hb2 (Nat.le_refl _))
      have HO2 := Lib.hid ho2
      have HN2 := Lib.hid hn2
      have HF2 := Lib.hid hf2
      clear hb2 ho2 hn2 hf2
      obtain ⟨g3, o3, c3, a5, c5, F5, ev, d0, d1, o5, n5, s5⟩ := HO2.out.cfgAt HN2.out (i := n) (by have := HLN.out; omega)
      rw [HLN.out] at ev
      cases ev
      have i3 : ∀ w', (Instr.indexAt 41 (.slice (some ⟨g3, o3, none⟩) (n + 1) c2) (.int .i64 n)).run Tryz.prog w' = .ok (.pointer (some ⟨g3, o3 + n * 2, none⟩)) w' := fun w' => by
        have := ix_of (P := Tryz.prog) tabConfigSM.under tabConfigSM.size (a := some ⟨g3, o3, none⟩) (n := n + 1) (fun _ => ⟨g3, o3, rfl⟩) c2 n w' (by omega) (by omega)
        simpa [adr, blk, ofs] using this
      have sA := setA w2 (w.heap.size + 1) (.int .i64 (nthCfg (runC os m ⟨0, regs⟩).1 n).pc) (.slice a5 (nthCfg (runC os m ⟨0, regs⟩).1 n).regs.length c5) R0 R1
      rw [← Nat.add_assoc] at d1
      have O5 := Lib.hid o5
      have N5 := Lib.hid n5
      have S5 := Lib.hid s5
      clear o5 n5 s5
      go_wp2
      refine bodyPost_ret (v := .tuple #[.agg #[.int .i64 (nthCfg (runC os m ⟨0, regs⟩).1 n).pc, .slice a5 (nthCfg (runC os m ⟨0, regs⟩).1 n).regs.length c5], .int .i64 n, .int .i64 0]) (by simp [results, Tryz.results10, go_sem, sA]) rfl ?_
      exact RetACC.put HB2.out (by omega) O5.out (fun hg => by have := HF2.out _ (S5.out _ hg); omega) N5.out (fun x hx => by have := HF2.out x (S5.out x hx); omega)
theorem implRunProgram_l (R : Int) (os : List Ord) (regs : List Int) (steps : Int) {vo vr : Value} (w : World) (h1 : Rd Any w (dO os) vo) (h2 : Rd Any w (dI regs) vr) :
    Calls Tryz.prog 9 #[.agg #[.int .i64 R, vo], vr, .int .i64 steps] w (RetACC w [.i (runP R os regs steps).1.pc, dI (runP R os regs steps).1.regs] (runP R os regs steps).2.1 (runP R os regs steps).2.2) := implRunProgram_d R os regs steps w h1 h2
theorem specRunProgram_l (R : Int) (os : List Ord) (regs : List Int) (steps : Int) {vo vr : Value} (w : World) (h1 : Rd Any w (dO os) vo) (h2 : Rd Any w (dI regs) vr) :
    Calls Tryz.prog 10 #[.agg #[.int .i64 R, vo], vr, .int .i64 steps] w (RetACC w [.i (runP R os regs steps).1.pc, dI (runP R os regs steps).1.regs] (runP R os regs steps).2.1 (runP R os regs steps).2.2) := specRunProgram_d R os regs steps w h1 h2
theorem firstS_small (os : List Ord) (c : Cfg) : (firstS os c).regs.length ≤ c.regs.length := by
  unfold firstS
  have h := (nextS_small os c.pc c.regs).2
  match e : (nextS os c.pc c.regs).1, h with
  | [], _ => simp [zCfg]
  | x :: l, h => exact Nat.le_of_eq (h x (by simp))
theorem runE_small (os : List Ord) : ∀ (k n : Nat) (c : Cfg), (runE os k n c).1.regs.length ≤ c.regs.length
  | 0, _, _ => by simp [runE]
  | k + 1, n, c => by
    have := runE_small os k (n + 1) (firstS os c)
    have := firstS_small os c
    unfold runE
    split
    · simp
    · split
      · simp [zCfg]
      · split
        · omega
        · simp [zCfg]
theorem runP_cnt (R : Int) (os : List Ord) (regs : List Int) (steps : Int) : cnt (dI (runP R os regs steps).1.regs) ≤ 16777216 := by
  rw [cnt_dI]
  unfold runP
  split
  · rename_i h
    obtain ⟨k1, k2, _⟩ := askRun_ok h
    have h1 := (regsOk_ok k2).1
    have h2 : R ≤ 3 := by simp [validProgS, inRg] at k1; omega
    have h3 := runE_small os steps.toNat 0 ⟨0, regs⟩
    have h4 : (⟨0, regs⟩ : Cfg).regs.length = regs.length := rfl
    omega
  · simp [zCfg]
end Go.Proofs.YtbnikblhnibgiaaGreatDoor

/- The values with which a program can halt: what is computed. No program is in sight. -/
namespace Go.Proofs.YtbnikblhnibgiaaGreatDoor
open Go.RowKit

/-- Two configs are one. -/
def eqC (a b : Cfg) : Bool := (a.pc == b.pc) && eqI a.regs b.regs
theorem eqC_iff {a b : Cfg} : eqC a b = true ↔ a = b := by
  simp only [eqC, eqI, Bool.and_eq_true, beq_iff_eq, decide_eq_true_eq]
  constructor
  · rintro ⟨h1, h2⟩
    cases a; cases b; simp at h1 h2; subst h1 h2; rfl
  · rintro rfl; exact ⟨rfl, rfl⟩
/-- The place of the first config for which p says yes, or -1. -/
def idxC (p : Cfg → Bool) (cs : List Cfg) : Int := match cs.findIdx? p with | some i => (i : Int) | none => -1
theorem idxC_at {p : Cfg → Bool} {cs : List Cfg} {k : Nat} (hk : k < cs.length) (h : ∀ j, j < k → p (nthCfg cs j) = false) (hp : p (nthCfg cs k) = true) : idxC p cs = k := by
  have : cs.findIdx? p = some k := by
    rw [List.findIdx?_eq_some_iff_getElem]
    refine ⟨hk, by rw [← nthCfg_lt hk]; exact hp, fun j hj => ?_⟩
    have := h j hj
    rw [nthCfg_lt (by omega)] at this
    simp [this]
  simp [idxC, this]
theorem idxC_none {p : Cfg → Bool} {cs : List Cfg} (h : ∀ j, j < cs.length → p (nthCfg cs j) = false) : idxC p cs = -1 := by
  have : cs.findIdx? p = none := by
    rw [List.findIdx?_eq_none_iff]
    intro x hx
    obtain ⟨j, hj, rfl⟩ := List.getElem_of_mem hx
    have := h j hj
    rwa [nthCfg_lt hj] at this
  simp [idxC, this]
def hasC (all : List Cfg) (d : Cfg) : Bool := all.any fun c => eqC c d
theorem idxC_any (p : Cfg → Bool) (cs : List Cfg) : decide (0 ≤ idxC p cs) = cs.any p := by
  unfold idxC
  cases h : cs.findIdx? p with
  | none =>
    rw [List.findIdx?_eq_none_iff] at h
    have : cs.any p = false := by rw [List.any_eq_false]; intro x hx; simp [h x hx]
    simp [this]
  | some i =>
    rw [List.findIdx?_eq_some_iff_getElem] at h
    obtain ⟨hi, hp, _⟩ := h
    have : cs.any p = true := List.any_eq_true.2 ⟨_, List.getElem_mem hi, hp⟩
    simp [this]
theorem idxC_neg (p : Cfg → Bool) (cs : List Cfg) : decide (idxC p cs < 0) = !cs.any p := by
  rw [← idxC_any]
  by_cases h : 0 ≤ idxC p cs
  · rw [decide_eq_true h, decide_eq_false (by omega)]; rfl
  · rw [decide_eq_false h, decide_eq_true (by omega)]; rfl
/-- A config is put behind the others, if it isn't among them. -/
def addC (all : List Cfg) (d : Cfg) : List Cfg := if hasC all d = true then all else all ++ [d]
def addTo (all ds : List Cfg) : Nat → List Cfg
  | 0 => all
  | j + 1 => addC (addTo all ds j) (nthCfg ds j)
theorem addTo_pre (all ds : List Cfg) : ∀ j, ∃ t, addTo all ds j = all ++ t
  | 0 => ⟨[], by simp [addTo]⟩
  | j + 1 => by
    obtain ⟨t, h⟩ := addTo_pre all ds j
    unfold addTo addC
    split
    · exact ⟨t, h⟩
    · exact ⟨t ++ [nthCfg ds j], by rw [h, List.append_assoc]⟩
theorem addTo_len (all ds : List Cfg) : ∀ j, (addTo all ds j).length ≤ all.length + j
  | 0 => by simp [addTo]
  | j + 1 => by
    have := addTo_len all ds j
    unfold addTo addC
    split
    · omega
    · rw [List.length_append, List.length_cons, List.length_nil]; omega
theorem addTo_mem (all ds : List Cfg) : ∀ (j : Nat), j ≤ ds.length → ∀ c, c ∈ addTo all ds j → c ∈ all ∨ c ∈ ds
  | 0, _, c, h => .inl (by simpa [addTo] using h)
  | j + 1, hj, c, h => by
    unfold addTo addC at h
    split at h
    · exact addTo_mem all ds j (by omega) c h
    · rcases List.mem_append.1 h with h | h
      · exact addTo_mem all ds j (by omega) c h
      · simp at h; subst h
        right; rw [nthCfg_lt (by omega)]; exact List.getElem_mem (by omega)
/-- What the first i of the configs from place fr on lead to. -/
def expTo (os : List Ord) (all : List Cfg) (fr : Nat) : Nat → List Cfg × Int
  | 0 => (all, 0)
  | i + 1 => if (expTo os all fr i).2 = 0 then
      (if (nextS os (nthCfg all (fr + i)).pc (nthCfg all (fr + i)).regs).2 = 0 then
        (if 200 < (addTo (expTo os all fr i).1 (nextS os (nthCfg all (fr + i)).pc (nthCfg all (fr + i)).regs).1 (nextS os (nthCfg all (fr + i)).pc (nthCfg all (fr + i)).regs).1.length).length then ([], 3)
         else (addTo (expTo os all fr i).1 (nextS os (nthCfg all (fr + i)).pc (nthCfg all (fr + i)).regs).1 (nextS os (nthCfg all (fr + i)).pc (nthCfg all (fr + i)).regs).1.length, 0))
       else ([], 3))
    else ([], 3)
def rndTo (os : List Ord) (regs : List Int) : Nat → List Cfg × Nat × Int
  | 0 => ([⟨0, regs⟩], 0, 0)
  | n + 1 => if (rndTo os regs n).2.2 = 0 then
      (if (expTo os (rndTo os regs n).1 (rndTo os regs n).2.1 ((rndTo os regs n).1.length - (rndTo os regs n).2.1)).2 = 0 then
        ((expTo os (rndTo os regs n).1 (rndTo os regs n).2.1 ((rndTo os regs n).1.length - (rndTo os regs n).2.1)).1, (rndTo os regs n).1.length, 0) else ([], 0, 3))
    else ([], 0, 3)
/-- All configs are right. -/
def allC (R : Int) (n : Nat) (cs : List Cfg) : Prop := ∀ c, c ∈ cs → confOk R n c.pc c.regs = true
theorem allC.at {R : Int} {n : Nat} {cs : List Cfg} (h : allC R n cs) {i : Nat} (hi : i < cs.length) : confOk R n (nthCfg cs i).pc (nthCfg cs i).regs = true := by
  rw [nthCfg_lt hi]; exact h _ (List.getElem_mem hi)
theorem nthCfg_app {all t : List Cfg} {i : Nat} (h : i < all.length) : nthCfg (all ++ t) i = nthCfg all i := by
  rw [nthCfg_lt (by rw [List.length_append]; omega), nthCfg_lt h, List.getElem_append_left h]
theorem expTo_pre (os : List Ord) (all : List Cfg) (fr : Nat) : ∀ i, (expTo os all fr i).2 = 0 → ∃ t, (expTo os all fr i).1 = all ++ t
  | 0, _ => ⟨[], by simp [expTo]⟩
  | i + 1, h => by
    unfold expTo at h ⊢
    split at h
    · rename_i h1
      rw [if_pos h1]
      split at h
      · rename_i h2
        rw [if_pos h2]
        split at h
        · exact absurd h (by decide)
        · rename_i h3
          rw [if_neg h3]
          obtain ⟨t, ht⟩ := expTo_pre os all fr i h1
          obtain ⟨t2, ht2⟩ := addTo_pre (expTo os all fr i).1 (nextS os (nthCfg all (fr + i)).pc (nthCfg all (fr + i)).regs).1 (nextS os (nthCfg all (fr + i)).pc (nthCfg all (fr + i)).regs).1.length
          exact ⟨t ++ t2, by rw [ht2, ht, List.append_assoc]⟩
      · exact absurd h (by decide)
    · exact absurd h (by decide)
theorem expTo_code (os : List Ord) (all : List Cfg) (fr : Nat) : ∀ i, (expTo os all fr i).2 = 0 ∨ expTo os all fr i = ([], 3)
  | 0 => .inl rfl
  | i + 1 => by
    unfold expTo
    split
    · split
      · split
        · exact .inr rfl
        · exact .inl rfl
      · exact .inr rfl
    · exact .inr rfl
theorem expTo_len (os : List Ord) (all : List Cfg) (fr : Nat) (h200 : all.length ≤ 200) : ∀ i, (expTo os all fr i).1.length ≤ 200
  | 0 => h200
  | i + 1 => by
    unfold expTo
    split
    · split
      · split
        · simp
        · rename_i h; simp only; omega
      · simp
    · simp
theorem expTo_ok {R : Int} {os : List Ord} (hvp : validProgS R os = true) {all : List Cfg} (hall : allC R os.length all) (fr : Nat) : ∀ i, fr + i ≤ all.length → allC R os.length (expTo os all fr i).1
  | 0, _ => hall
  | i + 1, hi => by
    have ih := expTo_ok hvp hall fr i (by omega)
    unfold expTo
    split
    · split
      · split
        · intro c hc; simp at hc
        · intro c hc
          rcases addTo_mem _ _ _ (Nat.le_refl _) c hc with h | h
          · exact ih c h
          · exact nextS_ok hvp (hall.at (by omega)) c h
      · intro c hc; simp at hc
    · intro c hc; simp at hc
theorem expTo_stay {os : List Ord} {all : List Cfg} {fr i : Nat} (h : (expTo os all fr i).2 ≠ 0) : ∀ d, (expTo os all fr (i + d)).2 = 3
  | 0 => by
    rcases expTo_code os all fr i with h1 | h1
    · exact absurd h1 h
    · rw [Nat.add_zero, h1]
  | d + 1 => by
    have ih := expTo_stay h d
    rw [← Nat.add_assoc, expTo, if_neg (by rw [ih]; decide)]
theorem expTo_step {os : List Ord} {all : List Cfg} {fr i : Nat} (h : (expTo os all fr i).2 = 0) (h2 : (nextS os (nthCfg all (fr + i)).pc (nthCfg all (fr + i)).regs).2 = 0)
    (h3 : ¬ 200 < (addTo (expTo os all fr i).1 (nextS os (nthCfg all (fr + i)).pc (nthCfg all (fr + i)).regs).1 (nextS os (nthCfg all (fr + i)).pc (nthCfg all (fr + i)).regs).1.length).length) :
    expTo os all fr (i + 1) = (addTo (expTo os all fr i).1 (nextS os (nthCfg all (fr + i)).pc (nthCfg all (fr + i)).regs).1 (nextS os (nthCfg all (fr + i)).pc (nthCfg all (fr + i)).regs).1.length, 0) := by
  rw [expTo, if_pos h, if_pos h2, if_neg h3]
theorem expTo_stuck {os : List Ord} {all : List Cfg} {fr i : Nat} (h2 : ¬ (nextS os (nthCfg all (fr + i)).pc (nthCfg all (fr + i)).regs).2 = 0) : (expTo os all fr (i + 1)).2 = 3 := by
  rw [expTo]
  split
  · simp
  · rfl
theorem expTo_many {os : List Ord} {all : List Cfg} {fr i : Nat}
    (h3 : 200 < (addTo (expTo os all fr i).1 (nextS os (nthCfg all (fr + i)).pc (nthCfg all (fr + i)).regs).1 (nextS os (nthCfg all (fr + i)).pc (nthCfg all (fr + i)).regs).1.length).length) : (expTo os all fr (i + 1)).2 = 3 := by
  rw [expTo]
  split
  · simp
  · rfl
/-- What is known of the rounds. -/
structure RndOk (R : Int) (os : List Ord) (s : List Cfg × Nat × Int) : Prop where
  ok : allC R os.length s.1
  fr : s.2.1 ≤ s.1.length
  len : s.1.length ≤ 200
theorem rndTo_ok {R : Int} {os : List Ord} {regs : List Int} (hvp : validProgS R os = true) (hr : regsOk R regs = true) : ∀ n, RndOk R os (rndTo os regs n)
  | 0 => ⟨fun c hc => by simp [rndTo] at hc; subst hc; exact start_ok hr, by simp [rndTo], by simp [rndTo]⟩
  | n + 1 => by
    have ih := rndTo_ok hvp hr n
    unfold rndTo
    split
    · split
      · rename_i h2
        obtain ⟨t, ht⟩ := expTo_pre _ _ _ _ h2
        exact ⟨expTo_ok hvp ih.ok _ _ (by have := ih.fr; omega), by simp only [ht, List.length_append]; omega, expTo_len _ _ _ ih.len _⟩
      · exact ⟨fun c hc => by simp at hc, by simp, by simp⟩
    · exact ⟨fun c hc => by simp at hc, by simp, by simp⟩
theorem rndTo_code (os : List Ord) (regs : List Int) : ∀ n, (rndTo os regs n).2.2 = 0 ∨ (rndTo os regs n).2.2 = 3
  | 0 => .inl rfl
  | n + 1 => by
    unfold rndTo
    split
    · split
      · exact .inl rfl
      · exact .inr rfl
    · exact .inr rfl
theorem rndTo_err {os : List Ord} {regs : List Int} {n : Nat} (h : ¬ (rndTo os regs n).2.2 = 0) : ∀ d, (rndTo os regs (n + d)).2.2 = 3
  | 0 => by rcases rndTo_code os regs n with h1 | h1; exact absurd h1 h; exact h1
  | d + 1 => by rw [← Nat.add_assoc, rndTo, if_neg (by rw [rndTo_err h d]; decide)]
theorem rndTo_fall {os : List Ord} {regs : List Int} {n m i : Nat} (hn : n < m) (hi : i ≤ (rndTo os regs n).1.length - (rndTo os regs n).2.1) (h : (expTo os (rndTo os regs n).1 (rndTo os regs n).2.1 i).2 = 3) : (rndTo os regs m).2.2 = 3 := by
  have h1 : ¬ (rndTo os regs (n + 1)).2.2 = 0 := by
    rw [rndTo]
    split
    · obtain ⟨d, hd⟩ : ∃ d, (rndTo os regs n).1.length - (rndTo os regs n).2.1 = i + d := ⟨_, (Nat.add_sub_cancel' hi).symm⟩
      rw [hd, if_neg (by rw [expTo_stay (by rw [h]; decide) d]; decide)]
      decide
    · decide
  have := rndTo_err h1 (m - (n + 1))
  rwa [show n + 1 + (m - (n + 1)) = m by omega] at this
theorem rndTo_step {os : List Ord} {regs : List Int} {n : Nat} (h : (rndTo os regs n).2.2 = 0) (h2 : (expTo os (rndTo os regs n).1 (rndTo os regs n).2.1 ((rndTo os regs n).1.length - (rndTo os regs n).2.1)).2 = 0) :
    rndTo os regs (n + 1) = ((expTo os (rndTo os regs n).1 (rndTo os regs n).2.1 ((rndTo os regs n).1.length - (rndTo os regs n).2.1)).1, (rndTo os regs n).1.length, 0) := by
  rw [rndTo, if_pos h, if_pos h2]
theorem rndTo_rest {os : List Ord} {regs : List Int} {n : Nat} (h : (rndTo os regs n).2.2 = 0) (h2 : (rndTo os regs n).2.1 = (rndTo os regs n).1.length) : ∀ d, rndTo os regs (n + d) = rndTo os regs n
  | 0 => rfl
  | d + 1 => by
    have ih := rndTo_rest h h2 d
    have e : (rndTo os regs (n + d)).1.length - (rndTo os regs (n + d)).2.1 = 0 := by rw [ih]; omega
    rw [← Nat.add_assoc, rndTo, e]
    simp only [expTo]
    rw [ih, if_pos h, if_pos trivial]
    match hh : rndTo os regs n, h, h2 with
    | (a, b, c), h, h2 => simp only at h h2 ⊢; rw [h, h2]
/-- A number is put to its place among rising ones, once. -/
def putS : List Int → Int → List Int
  | [], n => [n]
  | x :: xs, n => if n ≤ x then (if n < x then n :: x :: xs else x :: xs) else x :: putS xs n
/-- The values with which the first k of the configs halt. -/
def valTo (os : List Ord) (all : List Cfg) : Nat → List Int
  | 0 => []
  | k + 1 => if haltS os (nthCfg all k).pc = true then putS (valTo os all k) (nth (nthCfg all k).regs 0) else valTo os all k
def rawTo (os : List Ord) (all : List Cfg) : Nat → List Int
  | 0 => []
  | k + 1 => if haltS os (nthCfg all k).pc = true then rawTo os all k ++ [nth (nthCfg all k).regs 0] else rawTo os all k
def haltValuesS (R : Int) (os : List Ord) (regs : List Int) (steps : Int) : List Int × Int :=
  if askRun R os regs steps = 0 then (if (rndTo os regs steps.toNat).2.2 = 0 then (valTo os (rndTo os regs steps.toNat).1 (rndTo os regs steps.toNat).1.length, 0) else ([], 3)) else ([], askRun R os regs steps)
theorem rawTo_len (os : List Ord) (all : List Cfg) : ∀ k, (rawTo os all k).length ≤ k
  | 0 => by simp [rawTo]
  | k + 1 => by
    have := rawTo_len os all k
    unfold rawTo
    split
    · rw [List.length_append, List.length_cons, List.length_nil]; omega
    · omega
theorem putS_len : ∀ (l : List Int) (n : Int), (putS l n).length ≤ l.length + 1
  | [], n => by simp [putS]
  | x :: xs, n => by
    have := putS_len xs n
    unfold putS
    split
    · split <;> simp
    · simp only [List.length_cons]; omega
theorem valTo_len (os : List Ord) (all : List Cfg) : ∀ k, (valTo os all k).length ≤ k
  | 0 => by simp [valTo]
  | k + 1 => by
    have := valTo_len os all k
    unfold valTo
    split
    · have := putS_len (valTo os all k) (nth (nthCfg all k).regs 0); omega
    · omega
theorem putS_mem : ∀ (l : List Int) (n y : Int), y ∈ putS l n ↔ y = n ∨ y ∈ l
  | [], n, y => by simp [putS]
  | x :: xs, n, y => by
    have ih := putS_mem xs n y
    unfold putS
    split
    · split
      · simp
      · have : n = x := by omega
        subst this; simp
    · rw [List.mem_cons, ih, List.mem_cons]
      constructor
      · rintro (h | h | h)
        · exact .inr (.inl h)
        · exact .inl h
        · exact .inr (.inr h)
      · rintro (h | h | h)
        · exact .inr (.inl h)
        · exact .inl h
        · exact .inr (.inr h)
theorem putS_up : ∀ (l : List Int) (n : Int), l.Pairwise (· < ·) → (putS l n).Pairwise (· < ·)
  | [], n, _ => by simp [putS]
  | x :: xs, n, h => by
    obtain ⟨h1, h2⟩ := List.pairwise_cons.1 h
    unfold putS
    split
    · split
      · rename_i h4
        refine List.pairwise_cons.2 ⟨fun y hy => ?_, h⟩
        rcases List.mem_cons.1 hy with rfl | hy
        · exact h4
        · have := h1 y hy; omega
      · exact h
    · refine List.pairwise_cons.2 ⟨fun y hy => ?_, putS_up xs n h2⟩
      rcases (putS_mem xs n y).1 hy with rfl | hy
      · omega
      · exact h1 y hy
theorem valTo_up (os : List Ord) (all : List Cfg) : ∀ k, (valTo os all k).Pairwise (· < ·)
  | 0 => by simp [valTo]
  | k + 1 => by
    unfold valTo
    split
    · exact putS_up _ _ (valTo_up os all k)
    · exact valTo_up os all k
theorem valTo_mem (os : List Ord) (all : List Cfg) (y : Int) : ∀ k, y ∈ valTo os all k ↔ y ∈ rawTo os all k
  | 0 => by simp [valTo, rawTo]
  | k + 1 => by
    have ih := valTo_mem os all y k
    unfold valTo rawTo
    split
    · rw [putS_mem, List.mem_append, ih, List.mem_singleton]
      exact Or.comm
    · exact ih
theorem up_ext : ∀ (a b : List Int), a.Pairwise (· < ·) → b.Pairwise (· < ·) → (∀ y, y ∈ a ↔ y ∈ b) → a = b
  | [], [], _, _, _ => rfl
  | [], y :: b, _, _, h => by have := (h y).2 (by simp); simp at this
  | x :: a, [], _, _, h => by have := (h x).1 (by simp); simp at this
  | x :: a, y :: b, h1, h2, h => by
    obtain ⟨p1, q1⟩ := List.pairwise_cons.1 h1
    obtain ⟨p2, q2⟩ := List.pairwise_cons.1 h2
    have e : x = y := by
      rcases List.mem_cons.1 ((h x).1 (by simp)) with e | e
      · exact e
      · rcases List.mem_cons.1 ((h y).2 (by simp)) with e2 | e2
        · exact e2.symm
        · have := p2 x e; have := p1 y e2; omega
    subst e
    congr 1
    refine up_ext a b q1 q2 fun z => ?_
    have hz := h z
    constructor
    · intro hm
      rcases List.mem_cons.1 (hz.1 (by simp [hm])) with e | e
      · have := p1 z hm; omega
      · exact e
    · intro hm
      rcases List.mem_cons.1 (hz.2 (by simp [hm])) with e | e
      · have := p2 z hm; omega
      · exact e
/-- Of rising numbers, each once. -/
theorem compact_up (d : Array Int) (hd : ∀ i j, i ≤ j → j < d.size → d[i]! ≤ d[j]!) : ∀ m, m ≤ d.size → (Lib.compactUpTo d m).Pairwise (· < ·) ∧ (∀ y, y ∈ Lib.compactUpTo d m ↔ ∃ j, j < m ∧ d[j]! = y)
  | 0, _ => ⟨by simp [Lib.compactUpTo], fun y => by simp [Lib.compactUpTo]⟩
  | m + 1, hm => by
    obtain ⟨h1, h2⟩ := compact_up d hd m (by omega)
    rw [Lib.compactUpTo_succ]
    by_cases hk : Lib.keeps d m = true
    · rw [if_pos hk]
      refine ⟨List.pairwise_append.2 ⟨h1, by simp, fun a ha b hb => ?_⟩, fun y => ?_⟩
      · simp at hb; subst hb
        obtain ⟨j, hj, rfl⟩ := (h2 a).1 ha
        simp only [Lib.keeps, decide_eq_true_eq] at hk
        have e1 := hd j (m - 1) (by omega) (by omega)
        have e2 := hd (m - 1) m (by omega) (by omega)
        rcases hk with hk | hk
        · omega
        · omega
      · rw [List.mem_append, h2, List.mem_singleton]
        constructor
        · rintro (⟨j, hj, e⟩ | e)
          · exact ⟨j, by omega, e⟩
          · exact ⟨m, by omega, e.symm⟩
        · rintro ⟨j, hj, e⟩
          by_cases e2 : j = m
          · subst e2; exact .inr e.symm
          · exact .inl ⟨j, by omega, e⟩
    · rw [if_neg hk, List.append_nil]
      refine ⟨h1, fun y => ?_⟩
      rw [h2]
      constructor
      · rintro ⟨j, hj, e⟩; exact ⟨j, by omega, e⟩
      · rintro ⟨j, hj, e⟩
        by_cases e2 : j = m
        · subst e2
          simp only [Lib.keeps, decide_eq_true_eq, not_or, ne_eq, Decidable.not_not] at hk
          exact ⟨j - 1, by omega, by rw [← hk.2]; exact e⟩
        · exact ⟨j, by omega, e⟩
theorem sorted_vals (os : List Ord) (all : List Cfg) (k : Nat) : Lib.compact ((rawTo os all k).mergeSort fun x y => decide (x ≤ y)) = valTo os all k := by
  obtain ⟨l, hl⟩ : ∃ l, l = (rawTo os all k).mergeSort fun x y => decide (x ≤ y) := ⟨_, rfl⟩
  have hs : l.Pairwise (fun x y => decide (x ≤ y) = true) := by
    rw [hl]
    exact List.pairwise_mergeSort (fun a b c h1 h2 => by simp at *; omega) (fun a b => by simp; omega) _
  have hm : ∀ y, y ∈ l ↔ y ∈ rawTo os all k := fun y => by rw [hl]; exact List.mem_mergeSort
  rw [← hl]
  have hd : ∀ i j, i ≤ j → j < l.toArray.size → l.toArray[i]! ≤ l.toArray[j]! := fun i j h1 h2 => by
    have h2' : j < l.length := by simpa using h2
    rw [getElem!_pos l.toArray i (by simp; omega), getElem!_pos l.toArray j h2, List.getElem_toArray, List.getElem_toArray]
    rcases Nat.lt_or_eq_of_le h1 with h | h
    · have := List.pairwise_iff_getElem.1 hs i j (by omega) h2' h
      simpa using this
    · subst h; exact Int.le_refl _
  obtain ⟨c1, c2⟩ := compact_up l.toArray hd l.length (by simp)
  refine up_ext _ _ c1 (valTo_up os all k) fun y => ?_
  rw [valTo_mem, ← hm, Lib.compact, c2]
  constructor
  · rintro ⟨j, hj, rfl⟩
    rw [getElem!_pos l.toArray j (by simpa using hj), List.getElem_toArray]
    exact List.getElem_mem hj
  · intro h
    obtain ⟨j, hj, rfl⟩ := List.getElem_of_mem h
    exact ⟨j, hj, by rw [getElem!_pos l.toArray j (by simpa using hj), List.getElem_toArray]⟩
theorem haltValues_cnt (R : Int) (os : List Ord) (regs : List Int) (steps : Int) : cnt (dI (haltValuesS R os regs steps).1) ≤ 16777216 := by
  rw [cnt_dI]
  unfold haltValuesS
  split
  · rename_i ha
    split
    · obtain ⟨hv, hr, _⟩ := askRun_ok ha
      have := valTo_len os (rndTo os regs steps.toNat).1 (rndTo os regs steps.toNat).1.length
      have := (rndTo_ok hv hr steps.toNat).len
      simp only; omega
    · simp
  · simp
end Go.Proofs.YtbnikblhnibgiaaGreatDoor
