/- What is accepted up to a number: what it is, and the program's. -/
import Derived.Test.YtbnikblhnibgiaaGreatDoorZ5
import Derived.Test.YtbnikblhnibgiaaGreatDoorZ2
import Derived.Laws.BitsLemmas
namespace Go.Proofs.YtbnikblhnibgiaaGreatDoor
open Go.RowKit

/-- The registers to begin with. -/
def regsN (r : Nat) (n : Int) : List Int := (List.replicate r (0 : Int)).set 0 n
/-- Whether a number is accepted, and a code. -/
def accF (R : Int) (os : List Ord) (steps : Int) (k : Nat) : Bool × Int := (haltS os (runP R os (regsN R.toNat k) steps).1.pc, (runP R os (regsN R.toNat k) steps).2.2)
/-- The first k numbers gone through. -/
def accTo (f : Nat → Bool × Int) : Nat → List Int × Int
  | 0 => ([], 0)
  | k + 1 => if (accTo f k).2 = 0 then (if (f k).2 = 0 then (if (f k).1 = true then ((accTo f k).1 ++ [(k : Int)], 0) else ((accTo f k).1, 0)) else ([], (f k).2)) else accTo f k
theorem accTo_len (f : Nat → Bool × Int) : ∀ k, (accTo f k).1.length ≤ k
  | 0 => by simp [accTo]
  | k + 1 => by
    have := accTo_len f k
    unfold accTo
    split
    · split
      · split
        · simp; omega
        · simp; omega
      · simp
    · omega
theorem accTo_stay {f : Nat → Bool × Int} {k : Nat} (h : (accTo f k).2 ≠ 0) : ∀ d, accTo f (k + d) = accTo f k
  | 0 => rfl
  | d + 1 => by
    have ih := accTo_stay h d
    rw [← Nat.add_assoc, accTo, if_neg (by rw [ih]; exact h)]
    exact ih
theorem accTo_err {f : Nat → Bool × Int} {k m : Nat} (h : (accTo f k).2 = 0) (h2 : (f k).2 ≠ 0) (hk : k < m) : accTo f m = ([], (f k).2) := by
  have e : accTo f (k + 1) = ([], (f k).2) := by rw [accTo, if_pos h, if_neg h2]
  have := accTo_stay (k := k + 1) (by rw [e]; exact h2) (m - (k + 1))
  rw [show k + 1 + (m - (k + 1)) = m by omega] at this
  rw [this, e]
theorem accTo_yes {f : Nat → Bool × Int} {k : Nat} (h : (accTo f k).2 = 0) (h2 : (f k).2 = 0) (h3 : (f k).1 = true) : accTo f (k + 1) = ((accTo f k).1 ++ [(k : Int)], 0) := by rw [accTo, if_pos h, if_pos h2, if_pos h3]
theorem accTo_no {f : Nat → Bool × Int} {k : Nat} (h : (accTo f k).2 = 0) (h2 : (f k).2 = 0) (h3 : (f k).1 = false) : accTo f (k + 1) = ((accTo f k).1, 0) := by rw [accTo, if_pos h, if_pos h2, if_neg (by rw [h3]; simp)]
def acceptedS (R : Int) (os : List Ord) (most steps : Int) : List Int × Int :=
  if validProgS R os = true then (if inRg most 0 1000 = true ∧ inRg steps 0 200 = true then accTo (accF R os steps) (most.toNat + 1) else ([], 2)) else ([], 1)
theorem regsN_len (r : Nat) (n : Int) : (regsN r n).length = r := by simp [regsN]
theorem regsN_ok {r : Nat} {k : Nat} (hk : k ≤ 1000) : regsOk r (regsN r k) = true := by
  have h0 : regsOk (r : Int) (List.replicate r (0 : Int)) = true := by
    simp only [regsOk, Bool.and_eq_true]
    refine ⟨by simp, ?_⟩
    rw [allB, List.all_eq_true]
    intro x hx
    rw [(List.mem_replicate.1 hx).2]
    simp [cntOk, inRg]
  exact set_cnt h0 (by omega)
theorem runE_pc {R : Int} {os : List Ord} (hv : validProgS R os = true) : ∀ (k n : Nat) (c : Cfg), confOk R os.length c.pc c.regs = true → 0 ≤ (runE os k n c).1.pc ∧ (runE os k n c).1.pc ≤ os.length
  | 0, n, c, h => by
    simp only [runE]
    simp [confOk, inRg] at h; omega
  | k + 1, n, c, h => by
    have hp : 0 ≤ c.pc ∧ c.pc ≤ os.length := by simp [confOk, inRg] at h; omega
    unfold runE
    split
    · exact hp
    · rename_i hh
      split
      · simp [zCfg]
      · split
        · rename_i h0
          exact runE_pc hv k (n + 1) _ (firstS_ok hv h (by simpa using hh) h0)
        · simp [zCfg]
theorem runP_pc {R : Int} {os : List Ord} {regs : List Int} {steps : Int} : 0 ≤ (runP R os regs steps).1.pc ∧ (runP R os regs steps).1.pc ≤ os.length := by
  unfold runP
  split
  · rename_i h
    obtain ⟨k1, k2, _⟩ := askRun_ok h
    exact runE_pc k1 _ _ _ (start_ok k2)
  · simp [zCfg]
theorem accepted_cnt (R : Int) (os : List Ord) (most steps : Int) : cnt (dI (acceptedS R os most steps).1) ≤ 16777216 := by
  rw [cnt_dI]
  unfold acceptedS
  split
  · split
    · rename_i h
      have := accTo_len (accF R os steps) (most.toNat + 1)
      have : most ≤ 1000 := by have := h.1; simp [inRg] at this; omega
      omega
    · simp
  · simp
theorem acc_bad {R : Int} {os : List Ord} {most steps : Int} (h : validProgS R os = false) : acceptedS R os most steps = ([], 1) := by simp [acceptedS, h]
theorem acc_two {R : Int} {os : List Ord} {most steps : Int} (h : validProgS R os = true) (h2 : inRg most 0 1000 = false ∨ inRg steps 0 200 = false) : acceptedS R os most steps = ([], 2) := by
  rcases h2 with h2 | h2 <;> simp [acceptedS, h, h2]
theorem acc_fine {R : Int} {os : List Ord} {m : Nat} {steps : Int} (h : validProgS R os = true) (h2 : inRg m 0 1000 = true) (h3 : inRg steps 0 200 = true) : acceptedS R os m steps = accTo (accF R os steps) (m + 1) := by
  simp [acceptedS, h, h2, h3]
theorem accF_ask {r : Nat} {os : List Ord} {st k : Nat} (hv : validProgS r os = true) (hk : k ≤ 1000) (hs : inRg st 0 200 = true) : askRun r os (regsN r k) st = 0 := askRun_zero hv (regsN_ok hk) hs
theorem accF_err {r : Nat} {os : List Ord} {st k : Nat} (ha : askRun r os (regsN r k) st = 0) (h : (runC os st ⟨0, regsN r k⟩).2 ≠ 0) : accF r os st k = (haltS os 0, (runC os st ⟨0, regsN r k⟩).2) := by
  simp only [accF, Int.toNat_natCast, runP_err ha h, zCfg]
theorem accF_fine {r : Nat} {os : List Ord} {st k n : Nat} (ha : askRun r os (regsN r k) st = 0) (h : (runC os st ⟨0, regsN r k⟩).2 = 0) (hn : (runC os st ⟨0, regsN r k⟩).1.length = n + 1) : accF r os st k = (haltS os (nthCfg (runC os st ⟨0, regsN r k⟩).1 n).pc, 0) := by
  simp only [accF, Int.toNat_natCast, runP_fine ha h hn]
end Go.Proofs.YtbnikblhnibgiaaGreatDoor

/- Which numbers a program accepts: plain law. No program is in sight. -/
namespace Go.Proofs.YtbnikblhnibgiaaGreatDoor
open Go.RowKit

/-- No order has two ways. -/
def plainO (os : List Ord) : Prop := ∀ k, k < os.length → choice (nthO os k) = false
theorem nth_set_or (xs : List Int) (i : Nat) (v : Int) (j : Nat) : nth (xs.set i v) j = v ∨ nth (xs.set i v) j = nth xs j := by
  unfold nth
  rw [List.getD_eq_getElem?_getD, List.getD_eq_getElem?_getD, List.getElem?_set]
  split
  · split
    · exact .inl rfl
    · rename_i h1 h2; subst h1; right; rw [List.getElem?_eq_none (by omega)]
  · exact .inr rfl
theorem next_le {os : List Ord} {c : Cfg} {m : Int} (h : ∀ j, nth c.regs j ≤ m) (hm : 0 ≤ m) : ∀ d, d ∈ (nextS os c.pc c.regs).1 → ∀ j, nth d.regs j ≤ m + 1 := by
  intro d hd j
  unfold nextS at hd
  split at hd
  · simp at hd
  · unfold nextO at hd
    have hv := h (nthO os c.pc.toNat).reg.toNat
    have hj := h j
    have o1 := nth_set_or c.regs (nthO os c.pc.toNat).reg.toNat (nth c.regs (nthO os c.pc.toNat).reg.toNat - 1) j
    have o2 := nth_set_or c.regs (nthO os c.pc.toNat).reg.toNat (nth c.regs (nthO os c.pc.toNat).reg.toNat + 1) j
    split at hd
    · split at hd
      · simp at hd; subst hd; simp only; omega
      · simp at hd; subst hd; simp only; omega
    · split at hd
      · simp at hd
      · split at hd
        · simp at hd; subst hd; simp only; omega
        · simp at hd
          rcases hd with rfl | rfl
          · simp only; omega
          · simp only; omega
theorem next_zero {os : List Ord} {c : Cfg} (h : ∀ j, nth c.regs j ≤ 999) : (nextS os c.pc c.regs).2 = 0 := by
  unfold nextS
  split
  · rfl
  · unfold nextO
    have hv := h (nthO os c.pc.toNat).reg.toNat
    split
    · split <;> rfl
    · rw [if_neg (by omega)]
theorem runE_fine {R : Int} {os : List Ord} (hv : validProgS R os = true) (hp : plainO os) : ∀ (k n : Nat) (c : Cfg) (m : Int), (∀ j, nth c.regs j ≤ m) → 0 ≤ m → m + k ≤ 1000 → confOk R os.length c.pc c.regs = true →
    (runE os k n c).2.2 = 0 ∧ (∀ j, nth (runE os k n c).1.regs j ≤ m + k) ∧ confOk R os.length (runE os k n c).1.pc (runE os k n c).1.regs = true
  | 0, n, c, m, h, h0, hm, hc => by simp only [runE]; exact ⟨trivial, fun j => by have := h j; omega, hc⟩
  | k + 1, n, c, m, h, h0, hm, hc => by
    unfold runE
    by_cases hh : haltS os c.pc = true
    · simp only [hh, if_true]; exact ⟨trivial, fun j => by have := h j; omega, hc⟩
    · have hh' : haltS os c.pc = false := by simpa using hh
      have hP : 0 ≤ c.pc ∧ c.pc ≤ os.length := by simp [confOk, inRg] at hc; omega
      have hlt : c.pc.toNat < os.length := by
        have : c.pc ≠ os.length := by simp [haltS] at hh; exact hh.1
        omega
      have hz := next_zero (os := os) (c := c) (fun j => by have := h j; omega)
      rw [if_neg hh, if_neg (by rw [hp _ hlt]; simp), if_pos hz]
      have ih := runE_fine hv hp k (n + 1) (firstS os c) (m + 1) (next_le h h0 _ (firstS_get (nextS_some hh' hz)).2) (by omega) (by omega) (firstS_ok hv hc hh' hz)
      exact ⟨ih.1, fun j => by have := ih.2.1 j; omega, ih.2.2⟩
theorem accTo_all {f : Nat → Bool × Int} : ∀ (k : Nat), (∀ j, j < k → (f j).2 = 0) → (accTo f k).2 = 0 ∧ ∀ n : Nat, (accTo f k).1.count (n : Int) = if n < k ∧ (f n).1 = true then 1 else 0
  | 0, _ => ⟨rfl, fun n => by simp [accTo]⟩
  | k + 1, h => by
    obtain ⟨i1, i2⟩ := accTo_all k fun j hj => h j (by omega)
    unfold accTo
    rw [if_pos i1, if_pos (h k (by omega))]
    by_cases hf : (f k).1 = true
    · rw [if_pos hf]
      refine ⟨rfl, fun n => ?_⟩
      show ((accTo f k).1 ++ [(k : Int)]).count (n : Int) = _
      rw [List.count_append, i2 n]
      by_cases e : n = k
      · subst e
        simp [hf]
      · have he : ¬ (k : Int) = (n : Int) := by omega
        have h1 : ([(k : Int)]).count (n : Int) = 0 := by simp [List.count_cons, he]
        rw [h1, Nat.add_zero]
        by_cases hn : n < k ∧ (f n).1 = true
        · rw [if_pos hn, if_pos ⟨by omega, hn.2⟩]
        · rw [if_neg hn, if_neg (fun h2 => hn ⟨by omega, h2.2⟩)]
    · rw [if_neg hf]
      refine ⟨rfl, fun n => ?_⟩
      show (accTo f k).1.count (n : Int) = _
      rw [i2 n]
      by_cases e : n = k
      · subst e
        rw [if_neg (by omega), if_neg (fun h2 => hf h2.2)]
      · by_cases hn : n < k ∧ (f n).1 = true
        · rw [if_pos hn, if_pos ⟨by omega, hn.2⟩]
        · rw [if_neg hn, if_neg (fun h2 => hn ⟨by omega, h2.2⟩)]
theorem regsN_le {r k : Nat} : ∀ j, nth (regsN r k) j ≤ k := by
  intro j
  unfold regsN
  rcases nth_set_or (List.replicate r 0) 0 (k : Int) j with h | h
  · omega
  · rw [h]
    unfold nth
    rw [List.getD_eq_getElem?_getD, List.getElem?_replicate]
    split <;> simp
/-- What the law of accepted numbers needs. -/
theorem accept_law {R : Int} {os : List Ord} {steps : Int} (hv : validProgS R os = true) (hp : plainO os) (hs : 0 ≤ steps ∧ steps ≤ 15) :
    (acceptedS R os 4 steps).2 = 0 ∧ ∀ n : Nat, n ≤ 4 → (runP R os (regsN R.toNat n) steps).2.2 = 0 ∧
      (nextConfigsS R os (runP R os (regsN R.toNat n) steps).1.pc (runP R os (regsN R.toNat n) steps).1.regs).2 = 0 ∧
      (((nextConfigsS R os (runP R os (regsN R.toNat n) steps).1.pc (runP R os (regsN R.toNat n) steps).1.regs).1.length = 0) ↔ (acceptedS R os 4 steps).1.count (n : Int) = 1) := by
  have hR : 1 ≤ R ∧ R ≤ 3 := by simp [validProgS, inRg] at hv; omega
  have hst : inRg steps 0 200 = true := by simp [inRg]; omega
  have key : ∀ n : Nat, n ≤ 4 → (runP R os (regsN R.toNat n) steps).2.2 = 0 ∧ (∀ j, nth (runP R os (regsN R.toNat n) steps).1.regs j ≤ 19) ∧ confOk R os.length (runP R os (regsN R.toNat n) steps).1.pc (runP R os (regsN R.toNat n) steps).1.regs = true := fun n hn => by
    have hreg : regsOk R (regsN R.toNat n) = true := by
      have := regsN_ok (r := R.toNat) (k := n) (by omega)
      rwa [show ((R.toNat : Nat) : Int) = R by omega] at this
    have ha : askRun R os (regsN R.toNat n) steps = 0 := askRun_zero hv hreg hst
    rw [runP, if_pos ha]
    have := runE_fine hv hp steps.toNat 0 ⟨0, regsN R.toNat n⟩ n regsN_le (by omega) (by omega) (start_ok hreg)
    exact ⟨this.1, fun j => by have := this.2.1 j; omega, this.2.2⟩
  have hacc := accTo_all (f := accF R os steps) 5 (fun j hj => (key j (by omega)).1)
  have he : acceptedS R os 4 steps = accTo (accF R os steps) 5 := acc_fine (m := 4) hv (by decide) hst
  rw [he]
  refine ⟨hacc.1, fun n hn => ?_⟩
  obtain ⟨k1, k2, k3⟩ := key n hn
  have e3 : nextConfigsS R os (runP R os (regsN R.toNat n) steps).1.pc (runP R os (regsN R.toNat n) steps).1.regs = nextS os (runP R os (regsN R.toNat n) steps).1.pc (runP R os (regsN R.toNat n) steps).1.regs := by
    rw [nextConfigsS, if_pos hv, if_pos k3]
  have hz := next_zero (os := os) (c := (runP R os (regsN R.toNat n) steps).1) (fun j => by have := k2 j; omega)
  rw [e3, hacc.2 n]
  refine ⟨k1, hz, ?_⟩
  cases hh : haltS os (runP R os (regsN R.toNat n) steps).1.pc
  · have := nextS_some hh hz
    rw [if_neg (fun h2 => by have := h2.2; simp [accF, hh] at this)]
    omega
  · rw [if_pos ⟨by omega, by simp [accF, hh]⟩, nextS, if_pos hh]
    simp
end Go.Proofs.YtbnikblhnibgiaaGreatDoor

/- Runs without choices: plain law of FnPrograms. No program is in sight. -/
namespace Go.Proofs.YtbnikblhnibgiaaGreatDoor
open Go.RowKit
def stepC (os : List Ord) (c : Cfg) : Cfg := if haltS os c.pc = true then c else firstS os c
/-- The configs of a run without choices. -/
def tr (os : List Ord) (regs : List Int) : Nat → Cfg
  | 0 => ⟨0, regs⟩
  | i + 1 => stepC os (tr os regs i)
theorem next_one {R : Int} {os : List Ord} (hv : validProgS R os = true) (hp : plainO os) {c : Cfg} (hc : confOk R os.length c.pc c.regs = true) (hh : haltS os c.pc = false) (hz : (nextS os c.pc c.regs).2 = 0) :
    nextS os c.pc c.regs = ([firstS os c], 0) := by
  have hP : 0 ≤ c.pc ∧ c.pc ≤ os.length := by simp [confOk, inRg] at hc; omega
  have hne : c.pc ≠ os.length ∧ (nthO os c.pc.toNat).op ≠ 3 := by simp [haltS] at hh; exact hh
  have hlt : c.pc.toNat < os.length := by omega
  have hch := hp _ hlt
  have hok : okOrd R os.length (nthO os c.pc.toNat) = true := by
    simp only [validProgS, Bool.and_eq_true] at hv
    have h2 := hv.2
    rw [allO, List.all_eq_true] at h2
    rw [nthO_lt hlt]; exact h2 _ (List.getElem_mem hlt)
  have h1 : (nextS os c.pc c.regs).1.length = 1 := by
    unfold nextS at hz ⊢
    rw [if_neg (by rw [hh]; simp)] at hz ⊢
    unfold nextO at hz ⊢
    by_cases h2 : (nthO os c.pc.toNat).op = 2
    · rw [if_pos h2]; split <;> rfl
    · rw [if_neg h2] at hz ⊢
      have h1 : (nthO os c.pc.toNat).op = 1 := by
        unfold okOrd at hok
        split at hok
        · rename_i h; rcases h with h | h
          · exact h
          · exact absurd h h2
        · simp at hok; exact absurd hok.1 hne.2
      have he : (nthO os c.pc.toNat).els = (nthO os c.pc.toNat).to := by simp [choice, h1] at hch; exact hch.symm
      rw [if_pos he] at hz ⊢
      split
      · rename_i h3; rw [if_pos h3] at hz; simp at hz
      · rfl
  apply Prod.ext
  · unfold firstS
    match (nextS os c.pc c.regs).1, h1 with
    | [x], _ => rfl
  · exact hz
structure TrOk (R : Int) (os : List Ord) (m : Int) (c : Cfg) : Prop where
  ok : confOk R os.length c.pc c.regs = true
  le : ∀ j, nth c.regs j ≤ m
theorem TrOk.step {R : Int} {os : List Ord} {m : Int} {c : Cfg} (hv : validProgS R os = true) (hm : 0 ≤ m ∧ m ≤ 999) (h : TrOk R os m c) : TrOk R os (m + 1) (stepC os c) ∧ (nextS os c.pc c.regs).2 = 0 := by
  have hz := next_zero (os := os) (c := c) (fun j => by have := h.le j; omega)
  refine ⟨?_, hz⟩
  unfold stepC
  cases hh : haltS os c.pc
  · rw [if_neg (by simp)]
    exact ⟨firstS_ok hv h.ok hh hz, next_le h.le hm.1 _ (firstS_get (nextS_some hh hz)).2⟩
  · rw [if_pos rfl]
    exact ⟨h.ok, fun j => by have := h.le j; omega⟩
theorem tr_ok {R : Int} {os : List Ord} {regs : List Int} {m : Int} (hv : validProgS R os = true) (hr : regsOk R regs = true) (hm : 0 ≤ m) (hle : ∀ j, nth regs j ≤ m) : ∀ i : Nat, m + i ≤ 999 → TrOk R os (m + i) (tr os regs i)
  | 0, _ => ⟨start_ok hr, fun j => by have := hle j; simp [tr]; omega⟩
  | i + 1, h => by
    have := ((tr_ok hv hr hm hle i (by omega)).step hv (by omega)).1
    rw [show m + ((i + 1 : Nat) : Int) = m + i + 1 by omega]
    exact this
theorem tr_halt {os : List Ord} {regs : List Int} {i : Nat} (h : haltS os (tr os regs i).pc = true) : ∀ d, tr os regs (i + d) = tr os regs i
  | 0 => rfl
  | d + 1 => by rw [← Nat.add_assoc, tr, tr_halt h d, stepC, if_pos h]
theorem runE_tr {R : Int} {os : List Ord} {regs : List Int} {m : Int} (hv : validProgS R os = true) (hp : plainO os) (hr : regsOk R regs = true) (hm : 0 ≤ m) (hle : ∀ j, nth regs j ≤ m) :
    ∀ (k n0 i : Nat), m + i + k ≤ 999 → ∃ n, n ≤ k ∧ runE os k n0 (tr os regs i) = (tr os regs (i + n), ((n0 + n : Nat) : Int), 0) ∧ (n < k → haltS os (tr os regs (i + n)).pc = true) ∧ ∀ j, j < n → haltS os (tr os regs (i + j)).pc = false
  | 0, n0, i, _ => ⟨0, Nat.le_refl _, rfl, fun h => absurd h (by omega), fun j h => absurd h (by omega)⟩
  | k + 1, n0, i, h => by
    have hT := tr_ok hv hr hm hle i (by omega)
    have hz := (hT.step hv (by omega)).2
    cases hh : haltS os (tr os regs i).pc
    · obtain ⟨n, h1, h2, h3, h4⟩ := runE_tr hv hp hr hm hle k (n0 + 1) (i + 1) (by omega)
      have hP : 0 ≤ (tr os regs i).pc ∧ (tr os regs i).pc ≤ os.length := by have := hT.ok; simp [confOk, inRg] at this; omega
      have hlt : (tr os regs i).pc.toNat < os.length := by
        have : (tr os regs i).pc ≠ os.length := by simp [haltS] at hh; exact hh.1
        omega
      have e : firstS os (tr os regs i) = tr os regs (i + 1) := by rw [tr, stepC, if_neg (by rw [hh]; simp)]
      refine ⟨n + 1, by omega, ?_, fun hl => ?_, fun j hj => ?_⟩
      · rw [runE_step hh (hp _ hlt) hz, e, h2, show i + 1 + n = i + (n + 1) by omega, show n0 + 1 + n = n0 + (n + 1) by omega]
      · have := h3 (by omega); rwa [show i + 1 + n = i + (n + 1) by omega] at this
      · cases j with
        | zero => exact hh
        | succ j => have := h4 j (by omega); rwa [show i + 1 + j = i + (j + 1) by omega] at this
    · exact ⟨0, by omega, runE_halt hh, fun _ => hh, fun j h => absurd h (by omega)⟩
theorem hasC_mem {all : List Cfg} {d : Cfg} : hasC all d = true ↔ d ∈ all := by
  unfold hasC
  rw [List.any_eq_true]
  constructor
  · rintro ⟨x, hx, he⟩; rw [eqC_iff] at he; subst he; exact hx
  · intro h; exact ⟨d, h, eqC_iff.2 rfl⟩
theorem addC_mem {all : List Cfg} {d c : Cfg} : c ∈ addC all d ↔ c ∈ all ∨ c = d := by
  unfold addC
  split
  · rename_i h
    rw [hasC_mem] at h
    constructor
    · exact .inl
    · rintro (h2 | rfl)
      · exact h2
      · exact h
  · simp
theorem addC_len (all : List Cfg) (d : Cfg) : (addC all d).length ≤ all.length + 1 := by
  unfold addC; split <;> simp
/-- What the rounds make of a run without choices. -/
structure RndT (os : List Ord) (regs : List Int) (n : Nat) (s : List Cfg × Nat × Int) : Prop where
  code : s.2.2 = 0
  len : s.1.length ≤ n + 1
  fr : s.2.1 ≤ s.1.length ∧ s.1.length ≤ s.2.1 + 1
  of : ∀ c, c ∈ s.1 → ∃ i, i ≤ n ∧ c = tr os regs i
  has : ∀ i, i ≤ n → tr os regs i ∈ s.1
  old : ∀ k, k < s.2.1 → stepC os (nthCfg s.1 k) ∈ s.1
theorem rnd_tr {R : Int} {os : List Ord} {regs : List Int} {m : Int} (hv : validProgS R os = true) (hp : plainO os) (hr : regsOk R regs = true) (hm : 0 ≤ m) (hle : ∀ j, nth regs j ≤ m) :
    ∀ n : Nat, m + n ≤ 999 → n ≤ 100 → RndT os regs n (rndTo os regs n)
  | 0, _, _ => ⟨rfl, by simp [rndTo], by simp [rndTo], fun c hc => ⟨0, Nat.le_refl _, by simpa [rndTo, tr] using hc⟩, fun i hi => by rw [show i = 0 by omega]; simp [rndTo, tr], fun k hk => by simp [rndTo] at hk⟩
  | n + 1, hn, h100 => by
    have ih := rnd_tr hv hp hr hm hle n (by omega) (by omega)
    obtain ⟨c1, c2, c3, c4, c5, c6⟩ := ih
    match hs : rndTo os regs n, c1, c2, c3, c4, c5, c6 with
    | (L, f, z), c1, c2, c3, c4, c5, c6 =>
      simp only at c1 c2 c3 c4 c5 c6
      subst c1
      -- the configs that are new
      have hexp : ∃ L', expTo os L f (L.length - f) = (L', 0) ∧ L'.length ≤ L.length + 1 ∧ (∀ c, c ∈ L' → c ∈ L ∨ ∃ k, k < L.length ∧ c = stepC os (nthCfg L k)) ∧ (∀ c, c ∈ L → c ∈ L') ∧ (∀ k, k < L.length → stepC os (nthCfg L k) ∈ L') ∧ (∀ k, k < L.length → nthCfg L' k = nthCfg L k) ∧ L.length ≤ L'.length := by
        by_cases e : f = L.length
        · refine ⟨L, ?_, by omega, fun c hc => .inl hc, fun c hc => hc, fun k hk => c6 k (by omega), fun k hk => rfl, Nat.le_refl _⟩
          rw [show L.length - f = 0 by omega, expTo]
        · have hf : f < L.length := by omega
          have hfl : L.length - f = 0 + 1 := by omega
          have hmem : nthCfg L f ∈ L := by rw [nthCfg_lt hf]; exact List.getElem_mem hf
          obtain ⟨i, hi, hci⟩ := c4 _ hmem
          have hT := tr_ok hv hr hm hle i (by omega)
          rw [← hci] at hT
          have hz := (hT.step hv (by omega)).2
          cases hh : haltS os (nthCfg L f).pc
          · have h1 := next_one hv hp hT.ok hh hz
            have hst : stepC os (nthCfg L f) = firstS os (nthCfg L f) := by rw [stepC, if_neg (by rw [hh]; simp)]
            have hx : expTo os L f (0 + 1) = (addC L (stepC os (nthCfg L f)), 0) := by
              rw [expTo_step rfl hz (by
                rw [show f + 0 = f from rfl, h1]
                have := addC_len L (firstS os (nthCfg L f))
                simp [addTo, nthCfg, expTo]; simp [nthCfg] at this; omega)]
              rw [show f + 0 = f from rfl, h1, hst]
              simp [addTo, nthCfg, expTo]
            rw [hfl, hx]
            refine ⟨_, rfl, addC_len _ _, fun c hc => ?_, fun c hc => addC_mem.2 (.inl hc), fun k hk => ?_, fun k hk => ?_, ?_⟩
            · rcases addC_mem.1 hc with h | h
              · exact .inl h
              · exact .inr ⟨f, hf, h⟩
            · by_cases ek : k = f
              · subst ek; exact addC_mem.2 (.inr rfl)
              · exact addC_mem.2 (.inl (c6 k (by omega)))
            · unfold addC
              split
              · rfl
              · exact nthCfg_app hk
            · unfold addC; split <;> simp
          · have h1 : nextS os (nthCfg L f).pc (nthCfg L f).regs = ([], 0) := by unfold nextS; rw [if_pos hh]
            have hst : stepC os (nthCfg L f) = nthCfg L f := by rw [stepC, if_pos hh]
            have hx : expTo os L f (0 + 1) = (L, 0) := by
              rw [expTo_step rfl (by rw [show f + 0 = f from rfl, h1]) (by rw [show f + 0 = f from rfl, h1]; simp [addTo, expTo]; omega)]
              rw [show f + 0 = f from rfl, h1]
              simp [addTo, expTo]
            rw [hfl, hx]
            refine ⟨L, rfl, by omega, fun c hc => .inl hc, fun c hc => hc, fun k hk => ?_, fun k hk => rfl, Nat.le_refl _⟩
            by_cases ek : k = f
            · subst ek; rw [hst]; exact hmem
            · exact c6 k (by omega)
      obtain ⟨L', e1, e2, e3, e4, e5, e6, e7⟩ := hexp
      have hr1 : rndTo os regs (n + 1) = (L', L.length, 0) := by
        have := rndTo_step (os := os) (regs := regs) (n := n) (by rw [hs]) (by rw [hs]; simp only; rw [e1])
        rw [this, hs]
        simp only
        rw [e1]
      rw [hr1]
      refine ⟨rfl, by simp only; omega, ⟨e7, e2⟩, fun c hc => ?_, fun i hi => ?_, fun k hk => ?_⟩
      · rcases e3 c hc with h | ⟨k, hk, rfl⟩
        · obtain ⟨i, hi, rfl⟩ := c4 c h
          exact ⟨i, by omega, rfl⟩
        · obtain ⟨i, hi, he⟩ := c4 (nthCfg L k) (by rw [nthCfg_lt hk]; exact List.getElem_mem hk)
          exact ⟨i + 1, by omega, by rw [he, tr]⟩
      · cases i with
        | zero => exact e4 _ (c5 0 (Nat.zero_le _))
        | succ i =>
          have hm2 := c5 i (by omega)
          obtain ⟨k, hk, he⟩ := List.getElem_of_mem hm2
          have := e5 k hk
          rwa [nthCfg_lt hk, he] at this
      · simp only at hk ⊢
        rw [e6 k hk]; exact e5 k hk
theorem vals_tr {os : List Ord} {all : List Cfg} {v : Int} (h : ∀ c, c ∈ all → haltS os c.pc = true → nth c.regs 0 = v) : ∀ k, k ≤ all.length →
    (valTo os all k = [] ∧ (∀ j, j < k → haltS os (nthCfg all j).pc = false)) ∨ valTo os all k = [v]
  | 0, _ => .inl ⟨rfl, fun j h => absurd h (by omega)⟩
  | k + 1, hk => by
    have ih := vals_tr h k (by omega)
    unfold valTo
    cases hh : haltS os (nthCfg all k).pc
    · rw [if_neg (by simp)]
      rcases ih with ⟨h1, h2⟩ | h1
      · refine .inl ⟨h1, fun j hj => ?_⟩
        by_cases e : j = k
        · subst e; exact hh
        · exact h2 j (by omega)
      · exact .inr h1
    · rw [if_pos rfl]
      have hv := h (nthCfg all k) (by rw [nthCfg_lt (by omega)]; exact List.getElem_mem (by omega)) hh
      rw [hv]
      rcases ih with ⟨h1, _⟩ | h1
      · rw [h1]; exact .inr rfl
      · rw [h1]; right; simp [putS]
/-- What FnPrograms needs of a run. -/
theorem programs_law {R : Int} {os : List Ord} {regs : List Int} {m : Int} {steps : Nat} (hv : validProgS R os = true) (hp : plainO os) (hr : regsOk R regs = true) (hm : 0 ≤ m ∧ m ≤ 900) (hle : ∀ j, nth regs j ≤ m) (hs : steps ≤ 50) :
    ∃ n : Nat, n ≤ steps ∧ runP R os regs steps = (tr os regs n, (n : Int), 0) ∧ (n < steps → haltS os (tr os regs n).pc = true) ∧
      (∀ i, i < n → nextConfigsS R os (tr os regs i).pc (tr os regs i).regs = ([tr os regs (i + 1)], 0)) ∧
      (nextConfigsS R os (tr os regs n).pc (tr os regs n).regs).2 = 0 ∧
      ((nextConfigsS R os (tr os regs n).pc (tr os regs n).regs).1.length = 0 ↔ haltS os (tr os regs n).pc = true) ∧
      haltValuesS R os regs steps = (if haltS os (tr os regs n).pc = true then [nth (tr os regs n).regs 0] else [], 0) := by
  have ha : askRun R os regs steps = 0 := askRun_zero hv hr (by simp [inRg]; omega)
  obtain ⟨n, h1, h2, h3, h4⟩ := runE_tr hv hp hr hm.1 hle steps 0 0 (by omega)
  simp only [Nat.zero_add] at h2 h3 h4
  have hnc : ∀ i, i ≤ steps → nextConfigsS R os (tr os regs i).pc (tr os regs i).regs = nextS os (tr os regs i).pc (tr os regs i).regs ∧ (nextS os (tr os regs i).pc (tr os regs i).regs).2 = 0 := fun i hi => by
    have hT := tr_ok hv hr hm.1 hle i (by omega)
    exact ⟨by rw [nextConfigsS, if_pos hv, if_pos hT.ok], (hT.step hv (by omega)).2⟩
  refine ⟨n, h1, ?_, h3, fun i hi => ?_, ?_, ?_, ?_⟩
  · rw [runP, if_pos ha, Int.toNat_natCast]; exact h2
  · have hT := tr_ok hv hr hm.1 hle i (by omega)
    have hh := h4 i hi
    rw [(hnc i (by omega)).1, next_one hv hp hT.ok hh (hnc i (by omega)).2, tr, stepC, if_neg (by rw [hh]; simp)]
  · rw [(hnc n h1).1]; exact (hnc n h1).2
  · rw [(hnc n h1).1]
    have hz := (hnc n h1).2
    constructor
    · intro h
      cases hh : haltS os (tr os regs n).pc
      · have := nextS_some hh hz; omega
      · rfl
    · intro h; unfold nextS; rw [if_pos h]; rfl
  · have hT := rnd_tr hv hp hr hm.1 hle steps (by omega) (by omega)
    rw [haltValuesS, if_pos ha, Int.toNat_natCast, if_pos hT.code]
    have hmem : ∀ c, c ∈ (rndTo os regs steps).1 → haltS os c.pc = true → haltS os (tr os regs n).pc = true ∧ nth c.regs 0 = nth (tr os regs n).regs 0 := fun c hc hh => by
      obtain ⟨i, hi, rfl⟩ := hT.of c hc
      by_cases e : i < n
      · rw [h4 i e] at hh; cases hh
      · by_cases e2 : n < steps
        · have := tr_halt (h3 e2) (i - n)
          rw [show n + (i - n) = i by omega] at this
          rw [this]; exact ⟨h3 e2, rfl⟩
        · rw [show i = n by omega] at hh ⊢; exact ⟨hh, rfl⟩
    have hvals := vals_tr (os := os) (all := (rndTo os regs steps).1) (v := nth (tr os regs n).regs 0) (fun c hc hh => (hmem c hc hh).2) _ (Nat.le_refl _)
    cases hh : haltS os (tr os regs n).pc
    · rw [if_neg (by simp)]
      congr 1
      suffices hq : ∀ k, k ≤ (rndTo os regs steps).1.length → valTo os (rndTo os regs steps).1 k = [] by exact hq _ (Nat.le_refl _)
      intro k
      induction k with
      | zero => intro _; rfl
      | succ k ih =>
        intro hk
        rw [valTo, if_neg, ih (by omega)]
        intro h
        have := (hmem (nthCfg (rndTo os regs steps).1 k) (by rw [nthCfg_lt (by omega)]; exact List.getElem_mem (by omega)) h).1
        rw [hh] at this; cases this
    · rw [if_pos rfl]
      congr 1
      rcases hvals with ⟨_, h6⟩ | h6
      · exfalso
        obtain ⟨k, hk, he⟩ := List.getElem_of_mem (hT.has n h1)
        have := h6 k hk
        rw [nthCfg_lt hk, he, hh] at this; cases this
      · exact h6
end Go.Proofs.YtbnikblhnibgiaaGreatDoor

/- The source of draws of the laws over bytes: contracts. -/
namespace Go.Proofs.YtbnikblhnibgiaaGreatDoor
open Go.RowKit

theorem tabU8 : Tab Tryz.prog 22 5 (.int .u8 0) 1 1 := ⟨by kernel_rfl, by kernel_rfl⟩
/-- Cells of bytes, read through an address. -/
structure SlU (S : Nat → Prop) (w : World) (a : Option Addr) (n : Nat) : Prop where
  len : n ≤ maxLen
  ptr : 0 < n → S (blk a) ∧ ∃ g o, a = some ⟨g, o, none⟩
  cell : ∀ i, i < n → ∃ x : Int, 0 ≤ x ∧ x < 256 ∧ w.cell? (adr a i) = some (.int .u8 x)
theorem SlU.ix {P : Program} {T E : Nat} {S : Nat → Prop} {w : World} {a : Option Addr} {n : Nat} (h : SlU S w a n) (hT : P.underlying T = some (.slice E)) (hE : (P.info? E).map (·.size) = some 1)
   (c : Nat) (i : Int) (w' : World) (h0 : 0 ≤ i) (h1 : i < n) : (Instr.indexAt T (.slice a n c) (.int .i64 i)).run P w' = .ok (.pointer (some (adr a i.toNat))) w' := by
  rw [ix_of hT hE (fun h0 => (h.ptr h0).2) c i w' h0 h1, Nat.mul_one]
theorem SlU.keep {S : Nat → Prop} {w w' : World} {a : Option Addr} {n : Nat} (h : SlU S w a n) (hk : ∀ k, S k → k < w.heap.size → w'.heap[k]? = w.heap[k]?) : SlU S w' a n :=
  ⟨h.len, h.ptr, fun i hi => by
    obtain ⟨x, h1, h2, h3⟩ := h.cell i hi
    refine ⟨x, h1, h2, ?_⟩
    rw [World.cell?_of_block (w := w) (hk (blk a) (h.ptr (by omega)).1 (World.block_lt_of_cell? w _ h3))]; exact h3⟩
theorem SlU.below {S : Nat → Prop} {w w' : World} {a : Option Addr} {n : Nat} (h : SlU S w a n) (hb : Below w.heap.size w w') : SlU S w' a n := h.keep fun k _ hk => hb.block k hk
theorem SlU.any {S T : Nat → Prop} {w : World} {a : Option Addr} {n : Nat} (h : SlU S w a n) (hs : ∀ k, S k → T k) : SlU T w a n := ⟨h.len, fun h0 => ⟨hs _ (h.ptr h0).1, (h.ptr h0).2⟩, h.cell⟩

/-- A source of draws in the block s, at its t-th byte. -/
structure Src (w : World) (s : Nat) (a : Option Addr) (n c : Nat) (t : Nat) (z : Int) : Prop where
  c0 : w.cell? ⟨s, 0, none⟩ = some (.slice a n c)
  c1 : w.cell? ⟨s, 1, none⟩ = some (.int .i64 t)
  c2 : w.cell? ⟨s, 2, none⟩ = some (.int .u64 z)
  f1 : w.frozen? ⟨s, 1, none⟩ = false
  f2 : w.frozen? ⟨s, 2, none⟩ = false
  by_ : SlU (· < s) w a n
/-- A source from which at most m bytes were drawn. -/
def SrcE (w : World) (s m : Nat) : Prop := ∃ a n c t z, t ≤ m ∧ Src w s a n c t z
theorem Src.keep {w w' : World} {s : Nat} {a : Option Addr} {n c t : Nat} {z : Int} (h : Src w s a n c t z) (hk : ∀ k, k ≤ s → w'.heap[k]? = w.heap[k]?) : Src w' s a n c t z := by
  have hc : ∀ i, w'.cell? ⟨s, i, none⟩ = w.cell? ⟨s, i, none⟩ := fun i => World.cell?_of_block (hk s (Nat.le_refl _))
  have hf : ∀ i, w'.frozen? ⟨s, i, none⟩ = w.frozen? ⟨s, i, none⟩ := fun i => World.frozen?_of_block (hk s (Nat.le_refl _))
  exact ⟨(hc 0).trans h.c0, (hc 1).trans h.c1, (hc 2).trans h.c2, (hf 1).trans h.f1, (hf 2).trans h.f2, h.by_.keep fun k h1 _ => hk k (Nat.le_of_lt h1)⟩
theorem Src.lt {w : World} {s : Nat} {a : Option Addr} {n c t : Nat} {z : Int} (h : Src w s a n c t z) : s < w.heap.size := World.block_lt_of_cell? w _ h.c0
theorem SrcE.lt {w : World} {s m : Nat} (h : SrcE w s m) : s < w.heap.size := by obtain ⟨_, _, _, _, _, _, h⟩ := h; exact h.lt
theorem SrcE.keep {w w' : World} {s m : Nat} (h : SrcE w s m) (hk : ∀ k, k ≤ s → w'.heap[k]? = w.heap[k]?) : SrcE w' s m := by
  obtain ⟨a, n, c, t, z, ht, h⟩ := h; exact ⟨a, n, c, t, z, ht, h.keep hk⟩
theorem SrcE.below {w w' : World} {s m B : Nat} (h : SrcE w s m) (hb : Below B w w') (hB : s < B) : SrcE w' s m := h.keep fun k hk => hb.block k (by omega)
theorem SrcE.chg {w w' : World} {s m : Nat} {F : List Nat} (h : SrcE w s m) (hb : Chg F w w') (hF : ∀ g, g ∈ F → s < g) : SrcE w' s m := h.keep fun k hk => hb.block k (by have := h.lt; omega) (fun hg => by have := hF _ hg; omega)
theorem SrcE.more {w : World} {s m m' : Nat} (h : SrcE w s m) (hm : m ≤ m') : SrcE w s m' := by obtain ⟨a, n, c, t, z, ht, h⟩ := h; exact ⟨a, n, c, t, z, by omega, h⟩
theorem Src.step {w : World} {s : Nat} {a : Option Addr} {n c t : Nat} {z : Int} (h : Src w s a n c t z) (z' : Int) : Src ((w.setCell ⟨s, 1, none⟩ (.int .i64 ((t : Int) + 1))).setCell ⟨s, 2, none⟩ (.int .u64 z')) s a n c (t + 1) z' := by
  have o : ∀ (w : World) (i j : Nat) (v : Value), i ≠ j → (w.setCell ⟨s, i, none⟩ v).cell? ⟨s, j, none⟩ = w.cell? ⟨s, j, none⟩ := fun w i j v h => World.cell?_setCell_other _ _ _ _ (by intro e; cases e; exact h rfl)
  refine ⟨?_, ?_, ?_, ?_, ?_, ?_⟩
  · rw [o _ 2 0 _ (by omega), o _ 1 0 _ (by omega)]; exact h.c0
  · rw [o _ 2 1 _ (by omega), World.cell?_setCell_same _ _ _ h.c1]; simp
  · exact World.cell?_setCell_same _ _ _ (by rw [o _ 1 2 _ (by omega)]; exact h.c2)
  · rw [World.frozen?_setCell, World.frozen?_setCell]; exact h.f1
  · rw [World.frozen?_setCell, World.frozen?_setCell]; exact h.f2
  · exact h.by_.keep fun k hk _ => (((Exc.setCell w ⟨s, 1, none⟩ (.int .i64 ((t : Int) + 1))).trans (Exc.setCell _ ⟨s, 2, none⟩ (.int .u64 z'))).block k (by simp; omega))
theorem Src.exc (w : World) (s : Nat) (v v' : Value) : Exc [s] w ((w.setCell ⟨s, 1, none⟩ v).setCell ⟨s, 2, none⟩ v') := (Exc.setCell w ⟨s, 1, none⟩ v).trans (Exc.setCell _ ⟨s, 2, none⟩ v')
theorem Src.stepN {w : World} {s : Nat} {a : Option Addr} {n c t : Nat} {z : Int} (h : Src w s a n c t z) (k k2 : Nat) (z' : Int) : Src (((((w.drewN k).setCell ⟨s, 1, none⟩ (.int .i64 ((t : Int) + 1))).setCell ⟨s, 2, none⟩ (.int .u64 z'))).drewN k2) s a n c (t + 1) z' :=
  ((h.keep (w' := w.drewN k) (fun _ _ => rfl)).step z').keep (fun _ _ => rfl)
theorem Src.excN (w : World) (s k k2 : Nat) (v v' : Value) : Exc [s] w (((((w.drewN k).setCell ⟨s, 1, none⟩ v).setCell ⟨s, 2, none⟩ v')).drewN k2) :=
  have h := Src.exc (w.drewN k) s v v'
  ⟨h.os, h.tape, h.output, h.size, h.block⟩
theorem u64_and255 {x : Int} (h0 : 0 ≤ x) (h1 : x < 18446744073709551616) : bits .and .u64 x 255 = x % 256 :=
  bits_mask .u64 64 (by decide) (fun n a b => by simp [IntKind.wrap, IntKind.bits, IntKind.signed]; omega) 8 (by decide) x h0 h1
theorem lastByte (y : Int) : 0 ≤ wrap64 (bits .and .u64 (IntKind.u64.wrap y / 1099511627776) 255) ∧ wrap64 (bits .and .u64 (IntKind.u64.wrap y / 1099511627776) 255) ≤ 255 := by
  have e : IntKind.u64.wrap y = y % 18446744073709551616 := by simp [IntKind.wrap, IntKind.bits, IntKind.signed]
  rw [e, u64_and255 (by omega) (by omega)]
  unfold wrap64; omega
/-- The call draws a number of which p holds. -/
def RetN (w : World) (s m : Nat) (p : Int → Prop) (e : Ending) (w' : World) : Prop := ∃ x : Int, e = .returned (.int .i64 x) ∧ p x ∧ Exc [s] w w' ∧ SrcE w' s m
set_option maxHeartbeats 1000000 in
theorem next_c2 (s m : Nat) (w : World) (h : SrcE w s m) (hm : m ≤ 4294967296) :
    Calls Tryz.prog 47 #[.pointer (some ⟨s, 0, none⟩)] w (RetN w s (m + 1) fun x => 0 ≤ x ∧ x ≤ 255) := by
  obtain ⟨a, n, c, t, z, ht, hs⟩ := h
  have i1 := hs.by_.ix tabU8.under tabU8.size c
  have c0 := hs.c0
  have c1 := hs.c1
  have c2 := hs.c2
  have f1 := hs.f1
  have f2 := hs.f2
  have hl := hs.by_.len
  unfold maxLen at hl
  have HS := Lib.hid hs
  by_cases hlt : t < n
  · obtain ⟨x, hx0, hx1, gx⟩ := hs.by_.cell t hlt
    clear hs
    go_enter Tryz.func47, Tryz.ntmps47
    go_wp2
    go_quiet (fail)
    go_wp2
    go_quiet (fail)
    go_wp2
    go_quiet (fail)
    go_wp2
    go_ret
    exact ⟨_, rfl, by first | omega | exact lastByte _, Src.excN _ _ _ _ _ _, a, n, c, t + 1, _, by omega, HS.out.stepN _ _ _⟩
  · clear hs
    go_enter Tryz.func47, Tryz.ntmps47
    go_wp2
    go_quiet (fail)
    go_wp2
    go_quiet (fail)
    go_wp2
    go_ret
    exact ⟨_, rfl, by first | omega | exact lastByte _, Src.excN _ _ _ _ _ _, a, n, c, t + 1, _, by omega, HS.out.stepN _ _ _⟩
theorem l00From_c (a : Option Addr) (n c : Nat) (w : World) (h : SlU (· < w.heap.size) w a n) :
    Calls Tryz.prog 17 #[.slice a n c] w (fun e w' => e = .returned (.pointer (some ⟨w.heap.size, 0, none⟩)) ∧ Below w.heap.size w w' ∧ w.heap.size < w'.heap.size ∧ SrcE w' w.heap.size 0) := by
  have hb := below_alloc w (.cells #[.slice a n c, .int .i64 0, .int .u64 0] 84)
  have HE : Hid (SrcE (w.alloc (.cells #[.slice a n c, .int .i64 0, .int .u64 0] 84)) w.heap.size 0) := Lib.hid ⟨a, n, c, 0, 0, Nat.le_refl _, by simp [go_sem], by simp [go_sem], by simp [go_sem], by simp [go_sem], by simp [go_sem], h.below hb⟩
  have HB := Lib.hid hb
  clear hb h
  go_enter Tryz.func17, Tryz.ntmps17
  go_wp2
  go_ret
  exact ⟨rfl, HB.out, by simp, HE.out⟩
set_option maxHeartbeats 1000000 in
theorem pick_c (s m : Nat) (n : Int) (w : World) (h : SrcE w s m) (hm : m ≤ 4000000000) (hn : n ≤ 40000) :
    Calls Tryz.prog 19 #[.pointer (some ⟨s, 0, none⟩), .int .i64 n] w (RetN w s (m + 2) fun x => 0 ≤ x ∧ (x < n ∨ x = 0)) := by
  have HN := Lib.hid (fun m w h hm => next_c2 s m w h hm)
  have HS := Lib.hid h
  clear h
  by_cases h1 : n ≤ 1
  · go_enter Tryz.func19, Tryz.ntmps19
    go_wp2
    go_ret
    exact ⟨0, rfl, by omega, Exc.refl _ _, HS.out.more (by omega)⟩
  · by_cases h2 : 200 < n
    · go_enter Tryz.func19, Tryz.ntmps19
      go_wp2_with fail
      refine (HN.out m w HS.out (by omega)).mono ?_
      rintro e w1 ⟨x, rfl, hx, he, hs⟩
      have HE := Lib.hid he
      have HS1 := Lib.hid hs
      clear he hs
      go_wp2_with fail
      refine (HN.out (m + 1) w1 HS1.out (by omega)).mono ?_
      rintro e w2 ⟨y, rfl, hy, he, hs⟩
      have HE2 := Lib.hid (HE.out.trans he)
      have HS2 := Lib.hid hs
      clear he hs
      obtain ⟨z, hz⟩ : ∃ z, z = x * 256 + y := ⟨_, rfl⟩
      have hz1 : 0 ≤ z ∧ z ≤ 65535 := by omega
      have q1 := Int.emod_nonneg z (show n ≠ 0 by omega)
      have q2 := Int.emod_lt_of_pos z (show 0 < n by omega)
      have hb1 := hz
      go_wp2
      go_ret
      rw [← hz]
      exact ⟨_, rfl, by omega, HE2.out, HS2.out⟩
    · go_enter Tryz.func19, Tryz.ntmps19
      go_wp2_with fail
      refine (HN.out m w HS.out (by omega)).mono ?_
      rintro e w1 ⟨x, rfl, hx, he, hs⟩
      have HE := Lib.hid he
      have HS1 := Lib.hid hs
      clear he hs
      have q1 := Int.emod_nonneg x (show n ≠ 0 by omega)
      have q2 := Int.emod_lt_of_pos x (show 0 < n by omega)
      go_wp2
      go_ret
      exact ⟨_, rfl, by omega, HE.out, HS1.out.more (by omega)⟩
theorem one_c (s m : Nat) (n : Int) (w : World) (h : SrcE w s m) (hm : m ≤ 4000000000) (hn : n ≤ 40000) :
    Calls Tryz.prog 46 #[.pointer (some ⟨s, 0, none⟩), .int .i64 n] w (fun e w' => ∃ b : Bool, e = .returned (.bool b) ∧ Exc [s] w w' ∧ SrcE w' s (m + 2)) := by
  have HN := Lib.hid (pick_c s m n w h hm hn)
  clear h
  go_enter Tryz.func46, Tryz.ntmps46
  go_wp2_with fail
  refine HN.out.mono ?_
  rintro e w1 ⟨x, rfl, hx, he, hs⟩
  have HE := Lib.hid he
  have HS1 := Lib.hid hs
  clear he hs
  go_wp2
  go_ret
  exact ⟨_, rfl, HE.out, HS1.out⟩
end Go.Proofs.YtbnikblhnibgiaaGreatDoor

/- Drawn programs. Written by mkax.py. -/
namespace Go.Proofs.YtbnikblhnibgiaaGreatDoor
open Go.RowKit

theorem exc_cell {w w' : World} {s b i : Nat} (h : Exc [s] w w') (hb : b ≠ s) : w'.cell? ⟨b, i, none⟩ = w.cell? ⟨b, i, none⟩ := World.cell?_of_block (w := w) (h.block b (by simpa using hb))
theorem exc_frozen {w w' : World} {s b i : Nat} (h : Exc [s] w w') (hb : b ≠ s) : w'.frozen? ⟨b, i, none⟩ = w.frozen? ⟨b, i, none⟩ := World.frozen?_of_block (w := w) (h.block b (by simpa using hb))
theorem Chg.lowP {F : List Nat} {w w1 w2 : World} (h : Chg F w w1) (h2 : Below w.heap.size w1 w2) : Chg F w w2 :=
  ⟨h2.os.trans h.os, h2.tape.trans h.tape, h2.output.trans h.output, Nat.le_trans h.size h2.size, fun k hk hF => (h2.block k hk).trans (h.block k hk hF)⟩
/-- An order that may be drawn among n orders, with R registers. -/
def okN (R : Int) (n : Nat) (o : Ord) : Prop := okOrd R n o = true ∧ choice o = false
theorem okN.halt (R : Int) (n : Nat) : okN R n ⟨3, 0, 0, 0⟩ := ⟨by simp [okOrd], by simp [choice]⟩
theorem okN.add {R : Int} {n : Nat} {r t : Int} (hr : 0 ≤ r ∧ r < R) (ht : 0 ≤ t ∧ t ≤ n) : okN R n ⟨1, r, t, t⟩ := ⟨by simp [okOrd, inRg]; omega, by simp [choice]⟩
theorem okN.sub {R : Int} {n : Nat} {r t e : Int} (hr : 0 ≤ r ∧ r < R) (ht : 0 ≤ t ∧ t ≤ n) (he : 0 ≤ e ∧ e ≤ n) : okN R n ⟨2, r, t, e⟩ := ⟨by simp [okOrd, inRg]; omega, by simp [choice]⟩
/-- A program that may be drawn. -/
structure Drawn (R : Int) (os : List Ord) : Prop where
  r : 1 ≤ R ∧ R ≤ 2
  n : 1 ≤ os.length ∧ os.length ≤ 4
  ok : ∀ k, k < os.length → okN R os.length (nthO os k)
theorem Drawn.valid {R : Int} {os : List Ord} (h : Drawn R os) : validProgS R os = true := by
  have h1 := h.r
  have h2 := h.n
  have : allO (okOrd R os.length) os = true := allO_true fun j hj => (h.ok j hj).1
  simp [validProgS, inRg, this]
  omega
theorem Drawn.plain {R : Int} {os : List Ord} (h : Drawn R os) : plainO os := fun k hk => (h.ok k hk).2
theorem Drawn.fix : Drawn 2 [⟨2, 0, 1, 2⟩, ⟨1, 1, 0, 0⟩] := ⟨by omega, by simp, fun k hk => by
  have : k = 0 ∨ k = 1 := by simp at hk; omega
  rcases this with rfl | rfl
  · exact ⟨by decide, by decide⟩
  · exact ⟨by decide, by decide⟩⟩
/-- A program that is being drawn. -/
structure Drw (w0 : World) (s m : Nat) (R : Int) (wr : World) (os : List Ord) (v : Value) (G : List Nat) : Prop where
  chg : Chg [s] w0 wr
  src : SrcE wr s m
  hs : s < w0.heap.size
  hz : w0.heap.size + 2 ≤ wr.heap.size
  r0 : ∃ u, wr.cell? ⟨w0.heap.size, 0, none⟩ = some u
  r1 : ∃ u, wr.cell? ⟨w0.heap.size, 1, none⟩ = some u
  zr : ∀ i, wr.frozen? ⟨w0.heap.size, i, none⟩ = false
  c0 : wr.cell? ⟨w0.heap.size + 1, 0, none⟩ = some (.int .i64 R)
  c1 : wr.cell? ⟨w0.heap.size + 1, 1, none⟩ = some v
  zc : ∀ i, wr.frozen? ⟨w0.heap.size + 1, i, none⟩ = false
  lst : Lst 66 4 wr (w0.heap.size + 2) v os.length (os.flatMap Ord.ds) G
theorem Drw.go {w0 : World} {s m m' : Nat} {R : Int} {wr w' : World} {os : List Ord} {v : Value} {G : List Nat} (h : Drw w0 s m R wr os v G) (hc : Chg [s] wr w') (hs : SrcE w' s m') : Drw w0 s m' R w' os v G := by
  have hz := h.hz
  have hlt := h.lst.lt
  have e1 : w0.heap.size ∉ [s] := by have := h.hs; simp; omega
  have e2 : w0.heap.size + 1 ∉ [s] := by have := h.hs; simp; omega
  refine ⟨h.chg.trans hc, hs, h.hs, Nat.le_trans hz hc.size, ?_, ?_, fun i => (hc.frozen (by omega) e1 i).trans (h.zr i), (hc.cell (by omega) e2 0).trans h.c0, (hc.cell (by omega) e2 1).trans h.c1, fun i => (hc.frozen (by omega) e2 i).trans (h.zc i), h.lst.keep hc fun g hg => by have := hlt g hg; have := h.hs; simp; omega⟩
  · obtain ⟨u, hu⟩ := h.r0; exact ⟨u, (hc.cell (by omega) e1 0).trans hu⟩
  · obtain ⟨u, hu⟩ := h.r1; exact ⟨u, (hc.cell (by omega) e1 1).trans hu⟩
theorem Drw.put {w0 : World} {s m m' : Nat} {R : Int} {wr wb w7 : World} {os : List Ord} {v v' : Value} {G G' : List Nat} {r : Ord} (h : Drw w0 s m R wr os v G) (hc : Chg [s] wr wb) (hs : SrcE wb s m') (hN : LstNext 66 4 wb w7 (w0.heap.size + 2) v v' os.length (os.flatMap Ord.ds) r.ds G [] G') :
    w7.cell? ⟨w0.heap.size + 1, 1, none⟩ = some v ∧ w7.frozen? ⟨w0.heap.size + 1, 1, none⟩ = false ∧ Drw w0 s m' R (w7.setCell ⟨w0.heap.size + 1, 1, none⟩ v') (os ++ [r]) v' G' := by
  have hk := h.go hc hs
  have hz := hk.hz
  have hhs := hk.hs
  have hlt := hk.lst.lt
  have hob : ∀ g, g ∈ ob v → w0.heap.size + 2 ≤ g := fun g hg => (hlt g (ob_sub hk.lst _ hg)).1
  have n1 : w0.heap.size ∉ ob v := fun e => by have := hob _ e; omega
  have n2 : w0.heap.size + 1 ∉ ob v := fun e => by have := hob _ e; omega
  have c0 := (hN.chg.cell (by omega) n2 0).trans hk.c0
  have c1 := (hN.chg.cell (by omega) n2 1).trans hk.c1
  have zc := fun i => (hN.chg.frozen (by omega) n2 i).trans (hk.zc i)
  have zr := fun i => (hN.chg.frozen (by omega) n1 i).trans (hk.zr i)
  have hG : ∀ x, x ∈ G' → w0.heap.size + 2 ≤ x := fun x hx => by
    rcases hN.mem x hx with h | h | h
    · exact (hlt x h).1
    · simp at h
    · omega
  have oth : ∀ (b i : Nat), b ≠ w0.heap.size + 1 ∨ i ≠ 1 → (w7.setCell ⟨w0.heap.size + 1, 1, none⟩ v').cell? ⟨b, i, none⟩ = w7.cell? ⟨b, i, none⟩ := fun b i hi => World.cell?_setCell_other _ _ _ _ (by intro e; cases e; omega)
  have hzz : w0.heap.size + 2 ≤ w7.heap.size := Nat.le_trans hz hN.chg.size
  have hsz := (Exc.setCell w7 ⟨w0.heap.size + 1, 1, none⟩ v').size
  have hcs : Chg [w0.heap.size + 1] w7 (w7.setCell ⟨w0.heap.size + 1, 1, none⟩ v') := chg_set w7 ⟨w0.heap.size + 1, 1, none⟩ v' [w0.heap.size + 1] (by simp)
  refine ⟨c1, zc 1, ?_⟩
  refine ⟨?_, ?_, hhs, by omega, ?_, ?_, fun i => by rw [World.frozen?_setCell]; exact zr i, (oth _ _ (.inr (by omega))).trans c0, World.cell?_setCell_same _ _ _ c1, fun i => by rw [World.frozen?_setCell]; exact zc i, ?_⟩
  · have a1 : Chg [s] w0 w7 := ⟨hN.chg.os.trans hk.chg.os, hN.chg.tape.trans hk.chg.tape, hN.chg.output.trans hk.chg.output, Nat.le_trans hk.chg.size hN.chg.size, fun k h1 h2 => (hN.chg.block k (by omega) (fun e => by have := hob _ e; omega)).trans (hk.chg.block k h1 h2)⟩
    exact ⟨hcs.os.trans a1.os, hcs.tape.trans a1.tape, hcs.output.trans a1.output, Nat.le_trans a1.size hcs.size, fun k h1 h2 => (hcs.block k (by omega) (by simp; omega)).trans (a1.block k h1 h2)⟩
  · refine (hs.chg hN.chg fun g hg => by have := hob _ hg; omega).chg hcs fun g hg => by simp at hg; omega
  · obtain ⟨u, hu⟩ := hk.r0
    exact ⟨u, (oth _ _ (.inl (by omega))).trans ((hN.chg.cell (by omega) n1 0).trans hu)⟩
  · obtain ⟨u, hu⟩ := hk.r1
    exact ⟨u, (oth _ _ (.inl (by omega))).trans ((hN.chg.cell (by omega) n1 1).trans hu)⟩
  · have := hN.lst.keep hcs fun g hg e => by
      have := hG g hg
      simp at e; omega
    simpa using this
theorem Drw.more {w0 : World} {s m m' : Nat} {R : Int} {wr : World} {os : List Ord} {v : Value} {G : List Nat} (h : Drw w0 s m R wr os v G) (hm : m ≤ m') : Drw w0 s m' R wr os v G :=
  ⟨h.chg, h.src.more hm, h.hs, h.hz, h.r0, h.r1, h.zr, h.c0, h.c1, h.zc, h.lst⟩
theorem Drw.setN {w0 : World} {s m : Nat} {R : Int} {wr : World} {os : List Ord} {v : Value} {G : List Nat} (h : Drw w0 s m R wr os v G) (b i : Nat) (u : Value) (hb : b ≠ s) (hlo : w0.heap.size + 2 ≤ b) (hG : b ∉ G) : Drw w0 s m R (wr.setCell ⟨b, i, none⟩ u) os v G := by
  have hc : Chg [b] wr (wr.setCell ⟨b, i, none⟩ u) := chg_set wr ⟨b, i, none⟩ u [b] (by simp)
  have hhs := h.hs
  have hz := h.hz
  have oth : ∀ (c j : Nat), c ≠ b → (wr.setCell ⟨b, i, none⟩ u).cell? ⟨c, j, none⟩ = wr.cell? ⟨c, j, none⟩ := fun c j hj => World.cell?_setCell_other _ _ _ _ (by intro e; cases e; exact hj rfl)
  refine ⟨⟨hc.os.trans h.chg.os, hc.tape.trans h.chg.tape, hc.output.trans h.chg.output, Nat.le_trans h.chg.size hc.size, fun k h1 h2 => (hc.block k (by omega) (by simp; omega)).trans (h.chg.block k h1 h2)⟩, h.src.chg hc fun g hg => by simp at hg; omega, hhs, by rw [(Exc.setCell _ _ _).size]; exact hz, ?_, ?_, fun j => by rw [World.frozen?_setCell]; exact h.zr j, (oth _ _ (by omega)).trans h.c0, (oth _ _ (by omega)).trans h.c1, fun j => by rw [World.frozen?_setCell]; exact h.zc j, h.lst.keep hc fun g hg e => by simp at e; subst e; exact hG hg⟩
  · obtain ⟨u, hu⟩ := h.r0; exact ⟨u, (oth _ _ (by omega)).trans hu⟩
  · obtain ⟨u, hu⟩ := h.r1; exact ⟨u, (oth _ _ (by omega)).trans hu⟩
theorem ok_snoc {R : Int} {n : Nat} {os : List Ord} {r : Ord} (h : ∀ j, j < os.length → okN R n (nthO os j)) (hr : okN R n r) : ∀ j, j < (os ++ [r]).length → okN R n (nthO (os ++ [r]) j) := fun j hj => by
  by_cases e : j < os.length
  · have := h j e
    rwa [show nthO (os ++ [r]) j = nthO os j by simp [nthO, List.getD_eq_getElem?_getD, List.getElem?_append_left e]]
  · have : j = os.length := by simp at hj; omega
    subst this
    simpa [nthO] using hr
theorem Lst.fix2 (E : TypeId) (w3 : World) (B : Nat) (hB : B ≤ w3.heap.size) : Lst E 4 (w3.alloc (.cells #[.int .i64 2, .int .i64 0, .int .i64 1, .int .i64 2, .int .i64 1, .int .i64 1, .int .i64 0, .int .i64 0] E)) B (.slice (some ⟨w3.heap.size, 0, none⟩) 2 2) 2 (([⟨2, 0, 1, 2⟩, ⟨1, 1, 0, 0⟩] : List Ord).flatMap Ord.ds) [w3.heap.size] :=
  ⟨[.int .i64 2, .int .i64 0, .int .i64 1, .int .i64 2, .int .i64 1, .int .i64 1, .int .i64 0, .int .i64 0], [], ⟨by simp, .inr ⟨w3.heap.size, 2, _, rfl, hB, heap_alloc_new w3 _, by omega, by simp [maxLen], by simp, by simp⟩⟩, ⟨[], [], ⟨rfl, rfl⟩, ⟨[], [], ⟨rfl, rfl⟩, ⟨[], [], ⟨rfl, rfl⟩, ⟨[], [], ⟨rfl, rfl⟩, ⟨[], [], ⟨rfl, rfl⟩, ⟨[], [], ⟨rfl, rfl⟩, ⟨[], [], ⟨rfl, rfl⟩, ⟨[], [], ⟨rfl, rfl⟩, rfl, rfl⟩, rfl⟩, rfl⟩, rfl⟩, rfl⟩, rfl⟩, rfl⟩, rfl⟩, by simp, by simp, by simp, by simp [ob, Value.ownBlock]⟩
theorem Drw.fix {w0 : World} {s m : Nat} {R : Int} {wr wB : World} {os : List Ord} {v : Value} {G : List Nat} (h : Drw w0 s m R wr os v G) (hwB : wB = (wr.setCell ⟨w0.heap.size + 1, 0, none⟩ (.int .i64 2)).setCell ⟨w0.heap.size + 1, 1, none⟩ (.slice (some ⟨wr.heap.size, 0, none⟩) 2 2)) :
    wB.heap.size = wr.heap.size ∧ Drw w0 s m 2 (wB.alloc (.cells #[.int .i64 2, .int .i64 0, .int .i64 1, .int .i64 2, .int .i64 1, .int .i64 1, .int .i64 0, .int .i64 0] 66)) [⟨2, 0, 1, 2⟩, ⟨1, 1, 0, 0⟩] (.slice (some ⟨wr.heap.size, 0, none⟩) 2 2) [wr.heap.size] := by
  have hz := h.hz
  have hhs := h.hs
  have hc1 : Chg [w0.heap.size + 1] wr (wr.setCell ⟨w0.heap.size + 1, 0, none⟩ (.int .i64 2)) := chg_set wr ⟨w0.heap.size + 1, 0, none⟩ _ [w0.heap.size + 1] (by simp)
  have hc : Chg [w0.heap.size + 1] wr wB := by rw [hwB]; exact hc1.trans (chg_set _ ⟨w0.heap.size + 1, 1, none⟩ _ [w0.heap.size + 1] (by simp))
  have sA := setA wr (w0.heap.size + 1) (.int .i64 2) (.slice (some ⟨wr.heap.size, 0, none⟩) 2 2) h.c0 h.c1
  have sB : wB.cell? ⟨w0.heap.size + 1, 0, none⟩ = some (.int .i64 2) := by rw [hwB]; exact sA.1
  have sC : wB.cell? ⟨w0.heap.size + 1, 1, none⟩ = some (.slice (some ⟨wr.heap.size, 0, none⟩) 2 2) := by rw [hwB]; exact sA.2.1
  have hzB : wB.heap.size = wr.heap.size := by rw [hwB, (Exc.setCell _ _ _).size, (Exc.setCell _ _ _).size]
  have zB : ∀ i, wB.frozen? ⟨w0.heap.size + 1, i, none⟩ = false := fun i => by rw [hwB, World.frozen?_setCell, World.frozen?_setCell]; exact h.zc i
  have hba := below_alloc wB (.cells #[.int .i64 2, .int .i64 0, .int .i64 1, .int .i64 2, .int .i64 1, .int .i64 1, .int .i64 0, .int .i64 0] 66)
  have hL := Lst.fix2 66 wB (w0.heap.size + 2) (by omega)
  rw [hzB] at hL
  have hcB : Chg [s] w0 wB := ⟨hc.os.trans h.chg.os, hc.tape.trans h.chg.tape, hc.output.trans h.chg.output, Nat.le_trans h.chg.size hc.size, fun k h1 h2 => (hc.block k (by omega) (by simp; omega)).trans (h.chg.block k h1 h2)⟩
  refine ⟨hzB, Chg.lowP hcB (hba.mono (by omega)), (h.src.chg hc fun g hg => by simp at hg; omega).below hba (by omega), hhs, by simp; omega, ?_, ?_, fun i => (hba.frozen (p := ⟨w0.heap.size, i, none⟩) (by simp; omega)).trans ((hc.frozen (by omega) (by simp) i).trans (h.zr i)), (bcell1 hba (by omega)).trans sB, (bcell1 hba (by omega)).trans sC, fun i => (hba.frozen (p := ⟨w0.heap.size + 1, i, none⟩) (by simp; omega)).trans (zB i), hL⟩
  · obtain ⟨u, hu⟩ := h.r0; exact ⟨u, (bcell1 hba (by omega)).trans ((hc.cell (by omega) (by simp) 0).trans hu)⟩
  · obtain ⟨u, hu⟩ := h.r1; exact ⟨u, (bcell1 hba (by omega)).trans ((hc.cell (by omega) (by simp) 1).trans hu)⟩
theorem row_ord {w5 : World} {B : Nat} {x r t e : Int} {E : TypeId} {G : List Nat} : RowAt (w5.alloc (.cells #[.int .i64 x, .int .i64 r, .int .i64 t, .int .i64 e] E)) w5.heap.size 4 B (Ord.mk x r t e).ds [.int .i64 x, .int .i64 r, .int .i64 t, .int .i64 e] [] G := by
  refine ⟨⟨[], [], ⟨rfl, rfl⟩, ⟨[], [], ⟨rfl, rfl⟩, ⟨[], [], ⟨rfl, rfl⟩, ⟨[], [], ⟨rfl, rfl⟩, rfl, rfl⟩, rfl⟩, rfl⟩, rfl⟩, rfl, by simp, by simp, by simp, fun j u hu => ?_, by simp [Value.oneCell']⟩
  match j, hu with
  | 0, hu => simp at hu; subst hu; simp
  | 1, hu => simp at hu; subst hu; simp
  | 2, hu => simp at hu; subst hu; simp
  | 3, hu => simp at hu; subst hu; simp
set_option maxHeartbeats 1000000 in
theorem among_c (s m g c : Nat) (w : World) (h : SrcE w s m) (hm : m ≤ 4000000000) (hg : g ≠ s) (g0 : w.cell? ⟨g, 0, none⟩ = some (.int .i64 1)) (g1 : w.cell? ⟨g, 1, none⟩ = some (.int .i64 2)) (g2 : w.cell? ⟨g, 2, none⟩ = some (.int .i64 2)) (g3 : w.cell? ⟨g, 3, none⟩ = some (.int .i64 3)) :
    Calls Tryz.prog 45 #[.pointer (some ⟨s, 0, none⟩), .slice (some ⟨g, 0, none⟩) 4 c] w (RetN w s (m + 2) fun x => x = 1 ∨ x = 2 ∨ x = 3) := by
  have HP := Lib.hid (pick_c s m 4 w h hm (by omega))
  have i1 := ix_of (P := Tryz.prog) tabI.under tabI.size (a := some ⟨g, 0, none⟩) (n := 4) (fun _ => ⟨g, 0, rfl⟩) c
  simp only [Nat.mul_one, adr, blk, ofs, Nat.zero_add] at i1
  clear h
  go_enter Tryz.func45, Tryz.ntmps45
  go_wp2_with fail
  refine HP.out.mono ?_
  rintro e w1 ⟨x, rfl, hx, he, hs⟩
  replace g0 := (exc_cell he hg).trans g0
  replace g1 := (exc_cell he hg).trans g1
  replace g2 := (exc_cell he hg).trans g2
  replace g3 := (exc_cell he hg).trans g3
  have HE := Lib.hid he
  have HS := Lib.hid hs
  clear he hs
  have hx4 : x = 0 ∨ x = 1 ∨ x = 2 ∨ x = 3 := by omega
  clear hx
  rcases hx4 with rfl | rfl | rfl | rfl
  all_goals
    go_wp2
    go_ret
    exact ⟨_, rfl, by omega, HE.out, HS.out⟩
/-- A program is drawn into memory of its own. -/
def RetDr (w : World) (s m : Nat) (e : Ending) (w' : World) : Prop := ∃ (R : Int) (os : List Ord) (v : Value) (F : List Nat), e = .returned (.agg #[.int .i64 R, v]) ∧ Chg [s] w w' ∧ Ow w' (dO os) v F ∧ F.Nodup ∧ (∀ g, g ∈ F → w.heap.size ≤ g) ∧ Drawn R os ∧ SrcE w' s m
theorem Drw.ret {w0 : World} {s m : Nat} {R : Int} {wr : World} {os : List Ord} {v : Value} {G : List Nat} (h : Drw w0 s m R wr os v G) (hd : Drawn R os) : RetDr w0 s m (.returned (.agg #[.int .i64 R, v])) ((wr.setCell ⟨w0.heap.size, 0, none⟩ (.int .i64 R)).setCell ⟨w0.heap.size, 1, none⟩ v) := by
  obtain ⟨G', o1, n1, s1⟩ := h.lst.ow (by omega) (by have := hd.n; unfold maxLen; omega)
  have hlt := h.lst.lt
  have hhs := h.hs
  have hg : w0.heap.size ∉ G' := fun e => by have := hlt _ (s1 _ e); omega
  have hc1 : Chg [w0.heap.size] wr (wr.setCell ⟨w0.heap.size, 0, none⟩ (.int .i64 R)) := chg_set wr ⟨w0.heap.size, 0, none⟩ _ [w0.heap.size] (by simp)
  have hc2 : Chg [w0.heap.size] wr ((wr.setCell ⟨w0.heap.size, 0, none⟩ (.int .i64 R)).setCell ⟨w0.heap.size, 1, none⟩ v) := hc1.trans (chg_set _ ⟨w0.heap.size, 1, none⟩ v [w0.heap.size] (by simp))
  have hz := h.hz
  refine ⟨R, os, v, G', rfl, ?_, (o1.setCell hg _).setCell hg _, n1, fun g hg2 => by have := hlt g (s1 g hg2); omega, hd, h.src.chg hc2 fun g hg2 => by simp at hg2; omega⟩
  exact ⟨hc2.os.trans h.chg.os, hc2.tape.trans h.chg.tape, hc2.output.trans h.chg.output, Nat.le_trans h.chg.size hc2.size, fun k h1 h2 => (hc2.block k (by omega) (by simp; omega)).trans (h.chg.block k h1 h2)⟩
theorem RetDr.more {w : World} {s m m' : Nat} {e : Ending} {w' : World} (h : RetDr w s m e w') (hm : m ≤ m') : RetDr w s m' e w' := by
  obtain ⟨R, os, v, F, h1, h2, h3, h4, h5, h6, h7⟩ := h
  exact ⟨R, os, v, F, h1, h2, h3, h4, h5, h6, h7.more hm⟩
set_option maxHeartbeats 4000000 in
set_option maxRecDepth 100000 in
theorem l05Draw_c (s m : Nat) (w : World) (h : SrcE w s m) (hm : m ≤ 1000000) :
    Calls Tryz.prog 18 #[.pointer (some ⟨s, 0, none⟩), .bool true] w (RetDr w s (m + 100)) := by
  have hsz := h.lt
  have HP := Lib.hid (fun (m : Nat) (n : Int) wx h (hm : m ≤ 4000000000) (hn : n ≤ 40000) => pick_c s m n wx h hm hn)
  have HO := Lib.hid (fun (m : Nat) wx h (hm : m ≤ 4000000000) => one_c s m 5 wx h hm (by omega))
  have HAM := Lib.hid (fun (m g c : Nat) wx h (hm : m ≤ 4000000000) (hg : g ≠ s) g0 g1 g2 g3 => among_c s m g c wx h hm hg g0 g1 g2 g3)
  have HS0 := Lib.hid (h.below (below_alloc w (.cells #[.int .i64 0, .slice none 0 0] 26)) hsz)
  clear h
  go_enter Tryz.func18, Tryz.ntmps18
  go_wp2_with fail
  refine (HP.out m 2 _ HS0.out (by omega) (by omega)).mono ?_
  rintro e w1 ⟨x1, rfl, hx1, he1, hs1⟩
  have hz1 : w1.heap.size = w.heap.size + 1 := by rw [he1.size]; simp
  have HS1 := Lib.hid hs1
  have HE1 := Lib.hid he1
  obtain ⟨R, hR⟩ : ∃ R, R = 1 + x1 := ⟨_, rfl⟩
  have hR1 : 1 ≤ R ∧ R ≤ 2 := by omega
  have hw1 : IntKind.i64.wrap (1 + x1) = R := by rw [wrap_64]; unfold wrap64; omega
  have HC1 : Hid (Chg [s] w w1) := Lib.hid ((Chg.lowP (Chg.refl [s] w) (below_alloc w _)).trans he1.chg)
  have u0 : w1.cell? ⟨w.heap.size, 0, none⟩ = some (.int .i64 0) := (exc_cell he1 (by omega)).trans (by simp [go_sem])
  have u1 : w1.cell? ⟨w.heap.size, 1, none⟩ = some (.slice none 0 0) := (exc_cell he1 (by omega)).trans (by simp [go_sem])
  have uz : ∀ i, w1.frozen? ⟨w.heap.size, i, none⟩ = false := fun i => (exc_frozen he1 (by omega)).trans (by simp [go_sem])
  clear he1 hs1
  have HS1A := Lib.hid (HS1.out.below (below_alloc w1 (.cells #[.int .i64 (1 + x1), .slice none 0 0] 26)) (by omega))
  have hw1' : IntKind.i64.wrap (1 + x1) = 1 + x1 := hw1.trans hR
  clear hw1
  go_wp2_with fail
  refine (HP.out (m + 2) 4 _ HS1A.out (by omega) (by omega)).mono ?_
  rintro e w2 ⟨x2, rfl, hx2, he2, hs2⟩
  have v0 : w2.cell? ⟨w.heap.size + 1, 0, none⟩ = some (.int .i64 (1 + x1)) := (exc_cell he2 (by omega)).trans (by rw [← hz1]; simp [go_sem])
  have v1 : w2.cell? ⟨w.heap.size + 1, 1, none⟩ = some (.slice none 0 0) := (exc_cell he2 (by omega)).trans (by rw [← hz1]; simp [go_sem])
  have vz : ∀ i, w2.frozen? ⟨w.heap.size + 1, i, none⟩ = false := fun i => (exc_frozen he2 (by omega)).trans (by rw [← hz1]; simp [go_sem])
  have hb1 := below_alloc w1 (.cells #[.int .i64 (1 + x1), .slice none 0 0] 26)
  have HD : Hid (Drw w s (m + 4) (1 + x1) w2 [] (.slice none 0 0) []) := Lib.hid ⟨(Chg.lowP HC1.out (hb1.mono (by omega))).trans he2.chg, hs2, hsz, by rw [he2.size]; simp; omega, ⟨_, (exc_cell he2 (by omega)).trans ((bcell1 hb1 (by omega)).trans u0)⟩, ⟨_, (exc_cell he2 (by omega)).trans ((bcell1 hb1 (by omega)).trans u1)⟩, fun i => (exc_frozen he2 (by omega)).trans ((hb1.frozen (p := ⟨w.heap.size, i, none⟩) (by simp; omega)).trans (uz i)), v0, v1, vz, Lst.nil _ _ _ _⟩
  obtain ⟨nn, rfl⟩ : ∃ n : Nat, x2 = (n : Int) := ⟨x2.toNat, by omega⟩
  have hnn : nn ≤ 3 := by omega
  have hw2 : IntKind.i64.wrap (1 + (nn : Int)) = 1 + (nn : Int) := by rw [wrap_64]; unfold wrap64; omega
  have hw3 : IntKind.i64.wrap (1 + (nn : Int) + 1) = 1 + (nn : Int) + 1 := by rw [wrap_64]; unfold wrap64; omega
  have hRb : 1 ≤ 1 + x1 ∧ 1 + x1 ≤ 2 := by omega
  clear v0 v1 vz hb1 he2 hs2 u0 u1 uz HS1A HS1 HE1 HC1 hz1 hR hR1 hx1 hx2
  go_wp2
  go_loopw [7, 8] (fun i o wr => ∃ (k : Nat) (os : List Ord) (v : Value) (G : List Nat), k ≤ nn + 1 ∧ i = .int .i64 k ∧ Hid (os.length = k) ∧ Hid (∀ j, j < os.length → okN (1 + x1) (nn + 1) (nthO os j)) ∧ Hid (Drw w s (m + 4 + 10 * k) (1 + x1) wr os v G)) (fun i _ _ => nn + 1 - (intOf i).toNat)
  case atStart => exact ⟨0, [], _, _, Nat.zero_le _, rfl, Lib.hid rfl, Lib.hid (by simp), HD⟩
  case round =>
    obtain ⟨k, os, v, G, hk, rfl, HL, HOK, HDr⟩ := hrel
    by_cases hlt : k < nn + 1
    · have hlt' : (k : Int) < 1 + (nn : Int) := by omega
      have hz := HDr.out.hz
      obtain ⟨wA, hwA⟩ : ∃ z, z = wr.alloc (.cells #[.int .i64 1, .int .i64 2, .int .i64 2, .int .i64 3] 2) := ⟨_, rfl⟩
      have hbA : Below wr.heap.size wr wA := by rw [hwA]; exact below_alloc _ _
      have g0 : wA.cell? ⟨wr.heap.size, 0, none⟩ = some (.int .i64 1) := by rw [hwA]; simp [go_sem]
      have g1 : wA.cell? ⟨wr.heap.size, 1, none⟩ = some (.int .i64 2) := by rw [hwA]; simp [go_sem]
      have g2 : wA.cell? ⟨wr.heap.size, 2, none⟩ = some (.int .i64 2) := by rw [hwA]; simp [go_sem]
      have g3 : wA.cell? ⟨wr.heap.size, 3, none⟩ = some (.int .i64 3) := by rw [hwA]; simp [go_sem]
      have hzA : wA.heap.size = wr.heap.size + 1 := by rw [hwA]; simp
      have HSA := Lib.hid (HDr.out.src.below hbA (by omega))
      have HCA : Hid (Chg [s] wr wA) := Lib.hid (Chg.lowP (Chg.refl _ _) hbA)
      have C := Lib.hid (HAM.out (m + 4 + 10 * k) wr.heap.size 4 wA HSA.out (by omega) (by omega) g0 g1 g2 g3)
      clear g0 g1 g2 g3 hbA
      rw [hwA] at C
      go_wp2_with fail
      refine C.out.mono ?_
      rintro e w3 ⟨x, rfl, hx, he3, hs3⟩
      rw [← hwA] at he3
      have hz3 : w3.heap.size = wr.heap.size + 1 := by rw [he3.size, hzA]
      have HS3 := Lib.hid hs3
      have HC3 := Lib.hid (HCA.out.trans he3.chg)
      clear he3 hs3 C hwA HSA HCA hzA wA
      have HZ3 := Lib.hid hz3
      have hne : w3.heap.size ≠ s := by omega
      have hn1 : ¬ w.heap.size + 1 = w3.heap.size := by omega
      have hn2 : ¬ w3.heap.size = w.heap.size + 1 := by omega
      have HDr3 := Lib.hid (HDr.out.go HC3.out HS3.out)
      have HKL := Lib.hid hk
      have hb3 : w.heap.size + 1 < w3.heap.size := by omega
      have c0a := fun X => (bcell1 (i := 0) (below_alloc w3 X) hb3).trans HDr3.out.c0
      have c1a := fun X => (bcell1 (i := 1) (below_alloc w3 X) hb3).trans HDr3.out.c1
      clear hz3
      rcases hx with rfl | rfl | rfl
      · obtain ⟨w4, hw4⟩ : ∃ z, z = (w3.alloc (.cells #[.int .i64 1, .int .i64 0, .int .i64 0, .int .i64 0] 66)) := ⟨_, rfl⟩
        have HX4 : Hid (Drw w s _ (1 + x1) w4 os v G) := Lib.hid (by rw [hw4]; exact HDr3.out.go (Chg.lowP (Chg.refl [s] w3) (below_alloc w3 _)) (HS3.out.below (below_alloc w3 _) (by have := HZ3.out; omega)))
        have hz4 : Hid (w4.heap.size = wr.heap.size + 2) := Lib.hid (by rw [hw4]; simp [HZ3.out])
        have o0 : w4.cell? ⟨w3.heap.size, 0, none⟩ = some (.int .i64 1) := by rw [hw4]; simp [go_sem]
        have o1 : w4.cell? ⟨w3.heap.size, 1, none⟩ = some (.int .i64 0) := by rw [hw4]; simp [go_sem]
        have o2 : w4.cell? ⟨w3.heap.size, 2, none⟩ = some (.int .i64 0) := by rw [hw4]; simp [go_sem]
        have o3 : w4.cell? ⟨w3.heap.size, 3, none⟩ = some (.int .i64 0) := by rw [hw4]; simp [go_sem]
        have oz : ∀ i, w4.frozen? ⟨w3.heap.size, i, none⟩ = false := fun i => by rw [hw4]; simp [go_sem]
        have c0 := HX4.out.c0
        have C := Lib.hid (HP.out _ (1 + x1) w4 HX4.out.src (by omega) (by omega))
        rw [hw4] at C
        go_wp2_with fail
        refine C.out.mono ?_
        rintro e w5 ⟨r, rfl, hxr, he, hs⟩
        rw [← hw4] at he
        clear C
        have HX5 := Lib.hid (HX4.out.go he.chg hs)
        have hz5 : Hid (w5.heap.size = wr.heap.size + 2) := Lib.hid (he.size.trans hz4.out)
        replace o0 := (exc_cell he hne).trans o0
        replace o1 := (exc_cell he hne).trans o1
        replace o2 := (exc_cell he hne).trans o2
        replace o3 := (exc_cell he hne).trans o3
        replace oz := fun i => (exc_frozen he hne).trans (oz i)
        have c05 := HX5.out.c0
        clear he hs
        have y1 := oz 1
        obtain ⟨w6, hw6⟩ : ∃ z, z = w5.setCell ⟨w3.heap.size, 1, none⟩ (.int .i64 r) := ⟨_, rfl⟩
        have HX6 : Hid (Drw w s _ (1 + x1) w6 os v G) := Lib.hid (by rw [hw6]; exact HX5.out.setN _ _ _ hne (by have := HZ3.out; omega) (fun e => by have := HDr.out.lst.lt _ e; have := HZ3.out; omega))
        have hz6 : Hid (w6.heap.size = wr.heap.size + 2) := Lib.hid (by rw [hw6, (Exc.setCell _ _ _).size]; exact hz5.out)
        have p0 := (show w6.cell? ⟨w3.heap.size, 0, none⟩ = _ from by rw [hw6]; exact World.cell?_setCell_other _ _ _ _ (by simp)).trans o0
        have p1 : w6.cell? ⟨w3.heap.size, 1, none⟩ = some (.int .i64 r) := by rw [hw6]; exact World.cell?_setCell_same _ _ _ o1
        have p2 := (show w6.cell? ⟨w3.heap.size, 2, none⟩ = _ from by rw [hw6]; exact World.cell?_setCell_other _ _ _ _ (by simp)).trans o2
        have p3 := (show w6.cell? ⟨w3.heap.size, 3, none⟩ = _ from by rw [hw6]; exact World.cell?_setCell_other _ _ _ _ (by simp)).trans o3
        have pz : ∀ i, w6.frozen? ⟨w3.heap.size, i, none⟩ = false := fun i => by rw [hw6, World.frozen?_setCell]; exact oz i
        have q0 := o0
        clear o0
        have o0 := p0
        clear p0
        have q1 := o1
        clear o1
        have o1 := p1
        clear p1
        have q2 := o2
        clear o2
        have o2 := p2
        clear p2
        have q3 := o3
        clear o3
        have o3 := p3
        clear p3
        clear oz
        have oz := pz
        clear pz
        have c06 := HX6.out.c0
        have C := Lib.hid (HP.out _ (1 + (nn : Int) + 1) w6 HX6.out.src (by omega) (by omega))
        rw [hw6] at C
        go_wp2_with fail
        refine C.out.mono ?_
        rintro e w7 ⟨t, rfl, hxt, he, hs⟩
        rw [← hw6] at he
        clear C
        have HX7 := Lib.hid (HX6.out.go he.chg hs)
        have hz7 : Hid (w7.heap.size = wr.heap.size + 2) := Lib.hid (he.size.trans hz6.out)
        replace o0 := (exc_cell he hne).trans o0
        replace o1 := (exc_cell he hne).trans o1
        replace o2 := (exc_cell he hne).trans o2
        replace o3 := (exc_cell he hne).trans o3
        replace oz := fun i => (exc_frozen he hne).trans (oz i)
        have c07 := HX7.out.c0
        clear he hs
        clear q0 q1 q2 q3 y1
        have y2 := oz 2
        obtain ⟨w8, hw8⟩ : ∃ z, z = w7.setCell ⟨w3.heap.size, 2, none⟩ (.int .i64 t) := ⟨_, rfl⟩
        have HX8 : Hid (Drw w s _ (1 + x1) w8 os v G) := Lib.hid (by rw [hw8]; exact HX7.out.setN _ _ _ hne (by have := HZ3.out; omega) (fun e => by have := HDr.out.lst.lt _ e; have := HZ3.out; omega))
        have hz8 : Hid (w8.heap.size = wr.heap.size + 2) := Lib.hid (by rw [hw8, (Exc.setCell _ _ _).size]; exact hz7.out)
        have p0 := (show w8.cell? ⟨w3.heap.size, 0, none⟩ = _ from by rw [hw8]; exact World.cell?_setCell_other _ _ _ _ (by simp)).trans o0
        have p1 := (show w8.cell? ⟨w3.heap.size, 1, none⟩ = _ from by rw [hw8]; exact World.cell?_setCell_other _ _ _ _ (by simp)).trans o1
        have p2 : w8.cell? ⟨w3.heap.size, 2, none⟩ = some (.int .i64 t) := by rw [hw8]; exact World.cell?_setCell_same _ _ _ o2
        have p3 := (show w8.cell? ⟨w3.heap.size, 3, none⟩ = _ from by rw [hw8]; exact World.cell?_setCell_other _ _ _ _ (by simp)).trans o3
        have pz : ∀ i, w8.frozen? ⟨w3.heap.size, i, none⟩ = false := fun i => by rw [hw8, World.frozen?_setCell]; exact oz i
        have q0 := o0
        clear o0
        have o0 := p0
        clear p0
        have q1 := o1
        clear o1
        have o1 := p1
        clear p1
        have q2 := o2
        clear o2
        have o2 := p2
        clear p2
        have q3 := o3
        clear o3
        have o3 := p3
        clear p3
        clear oz
        have oz := pz
        clear pz
        have c08 := HX8.out.c0
        have C := Lib.hid (HP.out _ (1 + (nn : Int) + 1) w8 HX8.out.src (by omega) (by omega))
        rw [hw8] at C
        go_wp2_with fail
        refine C.out.mono ?_
        rintro e w9 ⟨l, rfl, hxl, he, hs⟩
        rw [← hw8] at he
        clear C
        have HX9 := Lib.hid (HX8.out.go he.chg hs)
        have hz9 : Hid (w9.heap.size = wr.heap.size + 2) := Lib.hid (he.size.trans hz8.out)
        replace o0 := (exc_cell he hne).trans o0
        replace o1 := (exc_cell he hne).trans o1
        replace o2 := (exc_cell he hne).trans o2
        replace o3 := (exc_cell he hne).trans o3
        replace oz := fun i => (exc_frozen he hne).trans (oz i)
        have c09 := HX9.out.c0
        clear he hs
        clear q0 q1 q2 q3 y2
        have y3 := oz 3
        have HXA := Lib.hid (HX9.out.setN w3.heap.size 3 (.int .i64 l) hne (by have := HZ3.out; omega) (fun e => by have := HDr.out.lst.lt _ e; have := HZ3.out; omega))
        have HX := Lib.hid (HXA.out.setN w3.heap.size 3 (.int .i64 t) hne (by have := HZ3.out; omega) (fun e => by have := HDr.out.lst.lt _ e; have := HZ3.out; omega))
        have c1 := HX9.out.c1
        have y0 := oz 0
        have y1 := oz 1
        have y2 := oz 2
        have y3 := oz 3
        have HY := Lib.hid (HX.out.go (Chg.lowP (Chg.refl [s] ((w9.setCell ⟨w3.heap.size, 3, none⟩ (.int .i64 l)).setCell ⟨w3.heap.size, 3, none⟩ (.int .i64 t))) (below_alloc ((w9.setCell ⟨w3.heap.size, 3, none⟩ (.int .i64 l)).setCell ⟨w3.heap.size, 3, none⟩ (.int .i64 t)) (.cells #[.int .i64 1, .int .i64 r, .int .i64 t, .int .i64 t] 66))) (HX.out.src.below (below_alloc ((w9.setCell ⟨w3.heap.size, 3, none⟩ (.int .i64 l)).setCell ⟨w3.heap.size, 3, none⟩ (.int .i64 t)) (.cells #[.int .i64 1, .int .i64 r, .int .i64 t, .int .i64 t] 66)) (by have := HX.out.hz; omega)))
        have HROW : Hid (RowAt (((w9.setCell ⟨w3.heap.size, 3, none⟩ (.int .i64 l)).setCell ⟨w3.heap.size, 3, none⟩ (.int .i64 t)).alloc (.cells #[.int .i64 1, .int .i64 r, .int .i64 t, .int .i64 t] 66)) (w9.heap.size) 4 (w.heap.size + 2) (Ord.mk 1 r t t).ds [.int .i64 1, .int .i64 r, .int .i64 t, .int .i64 t] [] G) := Lib.hid (by have h := row_ord (w5 := ((w9.setCell ⟨w3.heap.size, 3, none⟩ (.int .i64 l)).setCell ⟨w3.heap.size, 3, none⟩ (.int .i64 t))) (B := w.heap.size + 2) (x := 1) (r := r) (t := t) (e := t) (E := 66) (G := G); rw [show ((w9.setCell ⟨w3.heap.size, 3, none⟩ (.int .i64 l)).setCell ⟨w3.heap.size, 3, none⟩ (.int .i64 t)).heap.size = w9.heap.size from by simp [go_sem]] at h; exact h)
        have HLEN := Lib.hid HL.out
        go_wp2_with (at_builtin; go_loud (refine app_lst rfl _ _ 24 rfl tabOrderSM rfl (by omega) (by decide) (w.heap.size + 2) _ os.length (os.flatMap Ord.ds) (Ord.mk 1 r t t).ds G [] _ rfl HY.out.lst _ rfl HROW.out (by have := HL.out; omega) (by have := HY.out.hz; omega) ?_))
        intro v7 w7 G7 hN
        obtain ⟨_, a7, c7, rfl⟩ := hN.lst.val
        obtain ⟨d1, d2, hD⟩ := HY.out.put (Chg.refl _ _) HY.out.src hN
        have HN := Lib.hid hD
        clear hD hN
        go_wp2
        go_roundw
        case rel => exact ⟨k + 1, os ++ [⟨1, r, t, t⟩], _, _, by omega, by go_num, Lib.hid (by have := HL.out; simp; omega), Lib.hid (fun j hj => ok_snoc HOK.out (okN.add (by omega) (by omega)) j hj), Lib.hid (HN.out.more (by omega))⟩
        case measure => simp [intOf]; omega
      · obtain ⟨w4, hw4⟩ : ∃ z, z = (w3.alloc (.cells #[.int .i64 2, .int .i64 0, .int .i64 0, .int .i64 0] 66)) := ⟨_, rfl⟩
        have HX4 : Hid (Drw w s _ (1 + x1) w4 os v G) := Lib.hid (by rw [hw4]; exact HDr3.out.go (Chg.lowP (Chg.refl [s] w3) (below_alloc w3 _)) (HS3.out.below (below_alloc w3 _) (by have := HZ3.out; omega)))
        have hz4 : Hid (w4.heap.size = wr.heap.size + 2) := Lib.hid (by rw [hw4]; simp [HZ3.out])
        have o0 : w4.cell? ⟨w3.heap.size, 0, none⟩ = some (.int .i64 2) := by rw [hw4]; simp [go_sem]
        have o1 : w4.cell? ⟨w3.heap.size, 1, none⟩ = some (.int .i64 0) := by rw [hw4]; simp [go_sem]
        have o2 : w4.cell? ⟨w3.heap.size, 2, none⟩ = some (.int .i64 0) := by rw [hw4]; simp [go_sem]
        have o3 : w4.cell? ⟨w3.heap.size, 3, none⟩ = some (.int .i64 0) := by rw [hw4]; simp [go_sem]
        have oz : ∀ i, w4.frozen? ⟨w3.heap.size, i, none⟩ = false := fun i => by rw [hw4]; simp [go_sem]
        have c0 := HX4.out.c0
        have C := Lib.hid (HP.out _ (1 + x1) w4 HX4.out.src (by omega) (by omega))
        rw [hw4] at C
        go_wp2_with fail
        refine C.out.mono ?_
        rintro e w5 ⟨r, rfl, hxr, he, hs⟩
        rw [← hw4] at he
        clear C
        have HX5 := Lib.hid (HX4.out.go he.chg hs)
        have hz5 : Hid (w5.heap.size = wr.heap.size + 2) := Lib.hid (he.size.trans hz4.out)
        replace o0 := (exc_cell he hne).trans o0
        replace o1 := (exc_cell he hne).trans o1
        replace o2 := (exc_cell he hne).trans o2
        replace o3 := (exc_cell he hne).trans o3
        replace oz := fun i => (exc_frozen he hne).trans (oz i)
        have c05 := HX5.out.c0
        clear he hs
        have y1 := oz 1
        obtain ⟨w6, hw6⟩ : ∃ z, z = w5.setCell ⟨w3.heap.size, 1, none⟩ (.int .i64 r) := ⟨_, rfl⟩
        have HX6 : Hid (Drw w s _ (1 + x1) w6 os v G) := Lib.hid (by rw [hw6]; exact HX5.out.setN _ _ _ hne (by have := HZ3.out; omega) (fun e => by have := HDr.out.lst.lt _ e; have := HZ3.out; omega))
        have hz6 : Hid (w6.heap.size = wr.heap.size + 2) := Lib.hid (by rw [hw6, (Exc.setCell _ _ _).size]; exact hz5.out)
        have p0 := (show w6.cell? ⟨w3.heap.size, 0, none⟩ = _ from by rw [hw6]; exact World.cell?_setCell_other _ _ _ _ (by simp)).trans o0
        have p1 : w6.cell? ⟨w3.heap.size, 1, none⟩ = some (.int .i64 r) := by rw [hw6]; exact World.cell?_setCell_same _ _ _ o1
        have p2 := (show w6.cell? ⟨w3.heap.size, 2, none⟩ = _ from by rw [hw6]; exact World.cell?_setCell_other _ _ _ _ (by simp)).trans o2
        have p3 := (show w6.cell? ⟨w3.heap.size, 3, none⟩ = _ from by rw [hw6]; exact World.cell?_setCell_other _ _ _ _ (by simp)).trans o3
        have pz : ∀ i, w6.frozen? ⟨w3.heap.size, i, none⟩ = false := fun i => by rw [hw6, World.frozen?_setCell]; exact oz i
        have q0 := o0
        clear o0
        have o0 := p0
        clear p0
        have q1 := o1
        clear o1
        have o1 := p1
        clear p1
        have q2 := o2
        clear o2
        have o2 := p2
        clear p2
        have q3 := o3
        clear o3
        have o3 := p3
        clear p3
        clear oz
        have oz := pz
        clear pz
        have c06 := HX6.out.c0
        have C := Lib.hid (HP.out _ (1 + (nn : Int) + 1) w6 HX6.out.src (by omega) (by omega))
        rw [hw6] at C
        go_wp2_with fail
        refine C.out.mono ?_
        rintro e w7 ⟨t, rfl, hxt, he, hs⟩
        rw [← hw6] at he
        clear C
        have HX7 := Lib.hid (HX6.out.go he.chg hs)
        have hz7 : Hid (w7.heap.size = wr.heap.size + 2) := Lib.hid (he.size.trans hz6.out)
        replace o0 := (exc_cell he hne).trans o0
        replace o1 := (exc_cell he hne).trans o1
        replace o2 := (exc_cell he hne).trans o2
        replace o3 := (exc_cell he hne).trans o3
        replace oz := fun i => (exc_frozen he hne).trans (oz i)
        have c07 := HX7.out.c0
        clear he hs
        clear q0 q1 q2 q3 y1
        have y2 := oz 2
        obtain ⟨w8, hw8⟩ : ∃ z, z = w7.setCell ⟨w3.heap.size, 2, none⟩ (.int .i64 t) := ⟨_, rfl⟩
        have HX8 : Hid (Drw w s _ (1 + x1) w8 os v G) := Lib.hid (by rw [hw8]; exact HX7.out.setN _ _ _ hne (by have := HZ3.out; omega) (fun e => by have := HDr.out.lst.lt _ e; have := HZ3.out; omega))
        have hz8 : Hid (w8.heap.size = wr.heap.size + 2) := Lib.hid (by rw [hw8, (Exc.setCell _ _ _).size]; exact hz7.out)
        have p0 := (show w8.cell? ⟨w3.heap.size, 0, none⟩ = _ from by rw [hw8]; exact World.cell?_setCell_other _ _ _ _ (by simp)).trans o0
        have p1 := (show w8.cell? ⟨w3.heap.size, 1, none⟩ = _ from by rw [hw8]; exact World.cell?_setCell_other _ _ _ _ (by simp)).trans o1
        have p2 : w8.cell? ⟨w3.heap.size, 2, none⟩ = some (.int .i64 t) := by rw [hw8]; exact World.cell?_setCell_same _ _ _ o2
        have p3 := (show w8.cell? ⟨w3.heap.size, 3, none⟩ = _ from by rw [hw8]; exact World.cell?_setCell_other _ _ _ _ (by simp)).trans o3
        have pz : ∀ i, w8.frozen? ⟨w3.heap.size, i, none⟩ = false := fun i => by rw [hw8, World.frozen?_setCell]; exact oz i
        have q0 := o0
        clear o0
        have o0 := p0
        clear p0
        have q1 := o1
        clear o1
        have o1 := p1
        clear p1
        have q2 := o2
        clear o2
        have o2 := p2
        clear p2
        have q3 := o3
        clear o3
        have o3 := p3
        clear p3
        clear oz
        have oz := pz
        clear pz
        have c08 := HX8.out.c0
        have C := Lib.hid (HP.out _ (1 + (nn : Int) + 1) w8 HX8.out.src (by omega) (by omega))
        rw [hw8] at C
        go_wp2_with fail
        refine C.out.mono ?_
        rintro e w9 ⟨l, rfl, hxl, he, hs⟩
        rw [← hw8] at he
        clear C
        have HX9 := Lib.hid (HX8.out.go he.chg hs)
        have hz9 : Hid (w9.heap.size = wr.heap.size + 2) := Lib.hid (he.size.trans hz8.out)
        replace o0 := (exc_cell he hne).trans o0
        replace o1 := (exc_cell he hne).trans o1
        replace o2 := (exc_cell he hne).trans o2
        replace o3 := (exc_cell he hne).trans o3
        replace oz := fun i => (exc_frozen he hne).trans (oz i)
        have c09 := HX9.out.c0
        clear he hs
        clear q0 q1 q2 q3 y2
        have y3 := oz 3
        have HXA := Lib.hid (HX9.out.setN w3.heap.size 3 (.int .i64 l) hne (by have := HZ3.out; omega) (fun e => by have := HDr.out.lst.lt _ e; have := HZ3.out; omega))
        have HX := HXA
        have c1 := HX9.out.c1
        have y0 := oz 0
        have y1 := oz 1
        have y2 := oz 2
        have y3 := oz 3
        have HY := Lib.hid (HX.out.go (Chg.lowP (Chg.refl [s] (w9.setCell ⟨w3.heap.size, 3, none⟩ (.int .i64 l))) (below_alloc (w9.setCell ⟨w3.heap.size, 3, none⟩ (.int .i64 l)) (.cells #[.int .i64 2, .int .i64 r, .int .i64 t, .int .i64 l] 66))) (HX.out.src.below (below_alloc (w9.setCell ⟨w3.heap.size, 3, none⟩ (.int .i64 l)) (.cells #[.int .i64 2, .int .i64 r, .int .i64 t, .int .i64 l] 66)) (by have := HX.out.hz; omega)))
        have HROW : Hid (RowAt ((w9.setCell ⟨w3.heap.size, 3, none⟩ (.int .i64 l)).alloc (.cells #[.int .i64 2, .int .i64 r, .int .i64 t, .int .i64 l] 66)) (w9.heap.size) 4 (w.heap.size + 2) (Ord.mk 2 r t l).ds [.int .i64 2, .int .i64 r, .int .i64 t, .int .i64 l] [] G) := Lib.hid (by have h := row_ord (w5 := (w9.setCell ⟨w3.heap.size, 3, none⟩ (.int .i64 l))) (B := w.heap.size + 2) (x := 2) (r := r) (t := t) (e := l) (E := 66) (G := G); rw [show (w9.setCell ⟨w3.heap.size, 3, none⟩ (.int .i64 l)).heap.size = w9.heap.size from by simp [go_sem]] at h; exact h)
        have HLEN := Lib.hid HL.out
        go_wp2_with (at_builtin; go_loud (refine app_lst rfl _ _ 24 rfl tabOrderSM rfl (by omega) (by decide) (w.heap.size + 2) _ os.length (os.flatMap Ord.ds) (Ord.mk 2 r t l).ds G [] _ rfl HY.out.lst _ rfl HROW.out (by have := HL.out; omega) (by have := HY.out.hz; omega) ?_))
        intro v7 w7 G7 hN
        obtain ⟨_, a7, c7, rfl⟩ := hN.lst.val
        obtain ⟨d1, d2, hD⟩ := HY.out.put (Chg.refl _ _) HY.out.src hN
        have HN := Lib.hid hD
        clear hD hN
        go_wp2
        go_roundw
        case rel => exact ⟨k + 1, os ++ [⟨2, r, t, l⟩], _, _, by omega, by go_num, Lib.hid (by have := HL.out; simp; omega), Lib.hid (fun j hj => ok_snoc HOK.out (okN.sub (by omega) (by omega) (by omega)) j hj), Lib.hid (HN.out.more (by omega))⟩
        case measure => simp [intOf]; omega
      · have HX := Lib.hid (HDr3.out.go (Chg.lowP (Chg.refl [s] w3) (below_alloc w3 (.cells #[.int .i64 3, .int .i64 0, .int .i64 0, .int .i64 0] 66))) (HS3.out.below (below_alloc w3 (.cells #[.int .i64 3, .int .i64 0, .int .i64 0, .int .i64 0] 66)) (by have := HZ3.out; omega)))
        have HY := Lib.hid (HX.out.go (Chg.lowP (Chg.refl [s] (w3.alloc (.cells #[.int .i64 3, .int .i64 0, .int .i64 0, .int .i64 0] 66))) (below_alloc (w3.alloc (.cells #[.int .i64 3, .int .i64 0, .int .i64 0, .int .i64 0] 66)) (.cells #[.int .i64 3, .int .i64 0, .int .i64 0, .int .i64 0] 66))) (HX.out.src.below (below_alloc (w3.alloc (.cells #[.int .i64 3, .int .i64 0, .int .i64 0, .int .i64 0] 66)) (.cells #[.int .i64 3, .int .i64 0, .int .i64 0, .int .i64 0] 66)) (by have := HX.out.hz; omega)))
        have HROW : Hid (RowAt ((w3.alloc (.cells #[.int .i64 3, .int .i64 0, .int .i64 0, .int .i64 0] 66)).alloc (.cells #[.int .i64 3, .int .i64 0, .int .i64 0, .int .i64 0] 66)) (w3.heap.size + 1) 4 (w.heap.size + 2) (Ord.mk 3 0 0 0).ds [.int .i64 3, .int .i64 0, .int .i64 0, .int .i64 0] [] G) := Lib.hid (by have h := row_ord (w5 := (w3.alloc (.cells #[.int .i64 3, .int .i64 0, .int .i64 0, .int .i64 0] 66))) (B := w.heap.size + 2) (x := 3) (r := 0) (t := 0) (e := 0) (E := 66) (G := G); rw [show (w3.alloc (.cells #[.int .i64 3, .int .i64 0, .int .i64 0, .int .i64 0] 66)).heap.size = w3.heap.size + 1 from by simp [go_sem]] at h; exact h)
        have HLEN := Lib.hid HL.out
        go_wp2_with (at_builtin; go_loud (refine app_lst rfl _ _ 24 rfl tabOrderSM rfl (by omega) (by decide) (w.heap.size + 2) _ os.length (os.flatMap Ord.ds) (Ord.mk 3 0 0 0).ds G [] _ rfl HY.out.lst _ rfl HROW.out (by have := HL.out; omega) (by have := HY.out.hz; omega) ?_))
        intro v7 w7 G7 hN
        obtain ⟨_, a7, c7, rfl⟩ := hN.lst.val
        obtain ⟨d1, d2, hD⟩ := HY.out.put (Chg.refl _ _) HY.out.src hN
        have HN := Lib.hid hD
        clear hD hN
        go_wp2
        go_roundw
        case rel => exact ⟨k + 1, os ++ [⟨3, 0, 0, 0⟩], _, _, by omega, by go_num, Lib.hid (by have := HL.out; simp; omega), Lib.hid (fun j hj => ok_snoc HOK.out (okN.halt _ _) j hj), Lib.hid (HN.out.more (by omega))⟩
        case measure => simp [intOf]; omega
    · obtain rfl : k = nn + 1 := by omega
      have hnlt : ¬ ((nn + 1 : Nat) : Int) < 1 + (nn : Int) := by omega
      obtain ⟨_, av, cv, rfl⟩ := HDr.out.lst.val
      have C := Lib.hid (HO.out _ wr HDr.out.src (by omega))
      go_wp2_with fail
      refine C.out.mono ?_
      rintro e w3 ⟨b, rfl, he, hs⟩
      have HX := Lib.hid (HDr.out.go he.chg hs)
      have HDW : Hid (Drawn (1 + x1) os) := Lib.hid ⟨hRb, by rw [HL.out]; omega, fun j hj => by rw [HL.out]; exact HOK.out j hj⟩
      clear C he hs
      obtain ⟨u0, hu0⟩ := HX.out.r0
      obtain ⟨u1, hu1⟩ := HX.out.r1
      have z0 := HX.out.zr 0
      have z1 := HX.out.zr 1
      have c0 := HX.out.c0
      have c1 := HX.out.c1
      have hz := HX.out.hz
      cases b
      · have sA := setA w3 w.heap.size (.int .i64 (1 + x1)) (.slice av os.length cv) hu0 hu1
        go_wp2
        refine bodyPost_ret (v := .agg #[.int .i64 (1 + x1), .slice av os.length cv]) (by simp [results, Tryz.results18, go_sem, sA]) rfl ?_
        exact (HX.out.ret HDW.out).more (by omega)
      · obtain ⟨wB, hwB⟩ : ∃ z, z = (w3.setCell ⟨w.heap.size + 1, 0, none⟩ (.int .i64 2)).setCell ⟨w.heap.size + 1, 1, none⟩ (.slice (some ⟨w3.heap.size, 0, none⟩) 2 2) := ⟨_, rfl⟩
        obtain ⟨hzB, hf⟩ := HX.out.fix hwB
        have HF := Lib.hid hf
        have hlt : w.heap.size + 1 < w3.heap.size := by omega
        have hlt0 : w.heap.size < w3.heap.size := by omega
        have y0 := HX.out.zc 0
        have y1 := HX.out.zc 1
        have sB := setA w3 (w.heap.size + 1) (.int .i64 2) (.slice (some ⟨w3.heap.size, 0, none⟩) 2 2) c0 c1
        have d0 := fun X => (bcell1 (i := 0) (below_alloc w3 X) hlt).trans c0
        have d1 := fun X => (bcell1 (i := 1) (below_alloc w3 X) hlt).trans c1
        have y0a := fun X => ((below_alloc w3 X).frozen (p := ⟨w.heap.size + 1, 0, none⟩) hlt).trans y0
        have hs1 : (w3.setCell ⟨w.heap.size + 1, 0, none⟩ (.int .i64 2)).heap.size = w3.heap.size := (Exc.setCell _ _ _).size
        have d2 : ∀ X, ((w3.setCell ⟨w.heap.size + 1, 0, none⟩ (.int .i64 2)).alloc X).cell? ⟨w.heap.size + 1, 1, none⟩ = some (.slice av os.length cv) := fun X => (bcell1 (below_alloc _ X) (by rw [hs1]; exact hlt)).trans (by rw [World.cell?_setCell_other _ _ _ _ (by simp)]; exact c1)
        have y2 : ∀ X, ((w3.setCell ⟨w.heap.size + 1, 0, none⟩ (.int .i64 2)).alloc X).frozen? ⟨w.heap.size + 1, 1, none⟩ = false := fun X => ((below_alloc _ X).frozen (p := ⟨w.heap.size + 1, 1, none⟩) (by rw [hs1]; exact hlt)).trans (by rw [World.frozen?_setCell]; exact y1)
        obtain ⟨u2, hu2⟩ := HF.out.r0
        obtain ⟨u3, hu3⟩ := HF.out.r1
        have sA := setA _ w.heap.size (.int .i64 2) (.slice (some ⟨w3.heap.size, 0, none⟩) 2 2) hu2 hu3
        have hE : ((wB.alloc (.cells #[.int .i64 2, .int .i64 0, .int .i64 1, .int .i64 2, .int .i64 1, .int .i64 1, .int .i64 0, .int .i64 0] 66)).setCell ⟨w.heap.size, 0, none⟩ (.int .i64 2)).setCell ⟨w.heap.size, 1, none⟩ (.slice (some ⟨w3.heap.size, 0, none⟩) 2 2) = ((wB.setCell ⟨w.heap.size, 0, none⟩ (.int .i64 2)).setCell ⟨w.heap.size, 1, none⟩ (.slice (some ⟨w3.heap.size, 0, none⟩) 2 2)).alloc (.cells #[.int .i64 2, .int .i64 0, .int .i64 1, .int .i64 2, .int .i64 1, .int .i64 1, .int .i64 0, .int .i64 0] 66) := by
          rw [World.setCell_alloc_past _ _ _ _ (by omega), World.setCell_alloc_past _ _ _ _ (by rw [(Exc.setCell _ _ _).size]; omega)]
        have hR := (HF.out.ret Drawn.fix).more (show m + 4 + 10 * (nn + 1) + 2 ≤ m + 100 by omega)
        rw [hE, hwB] at hR
        have q1 := sA.1
        have q2 := sA.2.1
        rw [hE, hwB] at q1 q2
        have HR := Lib.hid hR
        have Q1 := Lib.hid q1
        have Q2 := Lib.hid q2
        clear hR q1 q2 sA hE hu2 hu3 hwB hf
        go_wp2
        refine bodyPost_ret (v := .agg #[.int .i64 2, .slice (some ⟨w3.heap.size, 0, none⟩) 2 2]) (by simp [results, Tryz.results18, go_sem, Q1.out, Q2.out]) rfl ?_
        exact HR.out
end Go.Proofs.YtbnikblhnibgiaaGreatDoor

/- The laws over bytes: what a parameter of bytes reads as; the laws' own small functions: contracts. -/
namespace Go.Proofs.YtbnikblhnibgiaaGreatDoor
open Go.ChangeShapes Go.WideShapes Go.ChangeAt Go.RowKit

/-- A parameter of bytes. -/
theorem open_U {H : Type} {enc : TypeId × Value → H} {P : Program} {W : World} {T E : TypeId} (hT : P.underlying T = some (.slice E)) (hE : P.underlying E = some (.int .u8)) (hc : P.cellsOf E = 1) {v : Value} {d : DataW H} {p : List MemPlace} {base : Nat}
    (hval : Value.okWide P W .any base T v) (h : DataW.Trod enc P W 0 (fun _ => true) true T v d p) : ∃ a n c, v = .slice a n c ∧ SlU (· < W.heap.size) W a n := by
  obtain ⟨a0, n0, c0, rfl⟩ := okWide_slice hT hval
  obtain ⟨fuel, hf⟩ := h
  rcases open_ints hT hE hc hf with ⟨hcs, _⟩ | ⟨a, len', cap', zs, hcs, _, hl, hm, hz, _, hcell, hwz⟩
  · simp [Value.cells] at hcs
    obtain ⟨rfl, rfl, rfl⟩ := hcs
    exact ⟨none, 0, 0, rfl, by simp [maxLen], by simp, by simp⟩
  · simp [Value.cells] at hcs
    obtain ⟨rfl, rfl, rfl⟩ := hcs
    simp only [if_true] at hz
    refine ⟨some a, n0, c0, rfl, by omega, fun h0 => ?_, fun i hi => ?_⟩
    · have g0 := hcell 0 (by omega)
      have e := spot_none g0
      exact ⟨World.block_lt_of_cell? W (a.add 0) g0, a.block, a.off, by rw [← e]⟩
    · have g0 := spot_none (hcell 0 (by omega))
      have gi := hcell i (by omega)
      have hw := hwz (zs.getD i 0) (by
        have : i < zs.length := by omega
        simp [List.getD, this])
      have h1 : IntKind.u8.min = 0 := rfl
      have h2 : IntKind.u8.max = 255 := rfl
      simp only [Lit.wf, Bool.and_eq_true, decide_eq_true_eq] at hw
      refine ⟨zs.getD i 0, by omega, by omega, ?_⟩
      rw [g0] at gi ⊢
      rw [Addr.add_lit] at gi
      exact gi
theorem SlI.anyT {S : Nat → Prop} {w : World} {a : Option Addr} {xs : List Int} (h : SlI S w a xs) : SlI Any w a xs := ⟨h.len, fun h0 => ⟨trivial, (h.ptr h0).2⟩, h.cell⟩
theorem Ow.slA {w : World} {xs : List Int} {v : Value} {F : List Nat} (h : Ow w (dI xs) v F) : ∃ a c, v = .slice a xs.length c ∧ SlI Any w a xs := by
  obtain ⟨a, c, e, hs⟩ := h.slI
  exact ⟨a, c, e, hs.anyT⟩
end Go.Proofs.YtbnikblhnibgiaaGreatDoor

/- Drawn programs: the laws' and the reference's functions around them. -/
namespace Go.Proofs.YtbnikblhnibgiaaGreatDoor
open Go.RowKit

theorem Bld.excP {E : Nat} {w w' : World} {B s : Nat} {v : Value} {vs : List Value} (h : Bld E w B v vs) (he : Exc [s] w w') (hs : s < B) : Bld E w' B v vs :=
  ownsRow_kept h fun g hg => he.block g (by have := (ob_lt h g hg).1; simp; omega)
/-- A program and registers are drawn into memory of their own. -/
def RetPP (w : World) (e : Ending) (w' : World) : Prop := ∃ (R : Int) (os : List Ord) (v : Value) (rs : List Int) (vr : Value), e = .returned (.tuple #[.agg #[.int .i64 R, v], vr]) ∧ Below w.heap.size w w' ∧ Rd Any w' (dO os) v ∧ Rd Any w' (dI rs) vr ∧ Drawn R os ∧ (rs.length : Int) = R ∧ ∀ j, 0 ≤ nth rs j ∧ nth rs j ≤ 3
theorem nth_snoc_bd {rs : List Int} {x : Int} (h : ∀ j, 0 ≤ nth rs j ∧ nth rs j ≤ 3) (hx : 0 ≤ x ∧ x ≤ 3) : ∀ j, 0 ≤ nth (rs ++ [x]) j ∧ nth (rs ++ [x]) j ≤ 3 := fun j => by
  have := h j
  unfold nth at this ⊢
  rw [List.getD_eq_getElem?_getD] at this ⊢
  by_cases e : j < rs.length
  · rw [List.getElem?_append_left e]; exact this
  · by_cases e2 : j = rs.length
    · subst e2; simpa using hx
    · rw [List.getElem?_eq_none (by simp; omega)]; simp
set_option maxHeartbeats 4000000 in
set_option maxRecDepth 100000 in
theorem P6Program_c (a : Option Addr) (n c : Nat) (w : World) (h : SlU (· < w.heap.size) w a n) :
    Calls Tryz.prog 5 #[.slice a n c, .bool true] w (RetPP w) := by
  obtain ⟨w0, hw0⟩ : ∃ z, z = w.alloc (.cells #[.int .i64 0, .slice none 0 0] 26) := ⟨_, rfl⟩
  have hb0 : Below w.heap.size w w0 := by rw [hw0]; exact below_alloc _ _
  have hz0 : w0.heap.size = w.heap.size + 1 := by rw [hw0]; simp
  have r0 : w0.cell? ⟨w.heap.size, 0, none⟩ = some (.int .i64 0) := by rw [hw0]; simp [go_sem]
  have r1 : w0.cell? ⟨w.heap.size, 1, none⟩ = some (.slice none 0 0) := by rw [hw0]; simp [go_sem]
  have rz : ∀ i, w0.frozen? ⟨w.heap.size, i, none⟩ = false := fun i => by rw [hw0]; simp [go_sem]
  have C := l00From_c a n c w0 ((h.below hb0).any fun k hk => by omega)
  obtain ⟨s, hs⟩ : ∃ s, s = w0.heap.size := ⟨_, rfl⟩
  rw [← hs] at C
  have C1 := Lib.hid C
  have HB0 := Lib.hid hb0
  rw [hw0] at C1
  have HW0 := Lib.hid hw0
  have HZ0 := Lib.hid hz0
  have HS := Lib.hid hs
  have R0 := Lib.hid r0
  have R1 := Lib.hid r1
  have RZ := Lib.hid rz
  clear h C hb0 hw0 hz0 hs r0 r1 rz
  go_enter Tryz.func5, Tryz.ntmps5
  go_wp2_with fail
  refine C1.out.mono ?_
  rintro e w1 ⟨rfl, hb1, hz1, hs1⟩
  have hw0 := HW0.out
  have hz0 := HZ0.out
  have hs := HS.out
  rw [← hw0] at hb1
  replace R0 := Lib.hid ((bcell1 hb1 (by omega)).trans R0.out)
  replace R1 := Lib.hid ((bcell1 hb1 (by omega)).trans R1.out)
  replace RZ := Lib.hid (fun i => (hb1.frozen (p := ⟨w.heap.size, i, none⟩) (by simp; omega)).trans (RZ.out i))
  have HB1 : Hid (Below w.heap.size w w1) := Lib.hid (HB0.out.trans (hb1.mono (by omega)))
  have HS1 := Lib.hid hs1
  have HSW : Hid (s = w.heap.size + 1) := Lib.hid (by omega)
  have HZ1 := Lib.hid hz1
  clear hb1 hs1 C1 hw0 hz0 hs HB0 HW0 HZ0 HS hz1
  go_wp2_with fail
  refine (l05Draw_c s 0 w1 HS1.out (by omega)).mono ?_
  rintro e w2 ⟨R, os, v, F, rfl, hc2, ho2, _, hF2, hd2, hs2⟩
  obtain ⟨ao, co, rfl⟩ := ho2.valO
  have hz2 := hc2.size
  have hsw := HSW.out
  have hz1 := HZ1.out
  replace R0 := Lib.hid ((hc2.cell (by omega) (by simp; omega) 0).trans R0.out)
  replace R1 := Lib.hid ((hc2.cell (by omega) (by simp; omega) 1).trans R1.out)
  replace RZ := Lib.hid (fun i => (hc2.frozen (by omega) (by simp; omega) i).trans (RZ.out i))
  have HB2 : Hid (Below w.heap.size w w2) := Lib.hid (HB1.out.trans (hc2.below HB1.out.size (fun g hg => by simp at hg; omega)))
  have HS2 := Lib.hid hs2
  have HO2 := Lib.hid ho2
  have HF2 := Lib.hid hF2
  have HD := Lib.hid hd2
  have hR := hd2.r
  obtain ⟨m, rfl⟩ : ∃ m : Nat, R = (m : Int) := ⟨R.toNat, by omega⟩
  obtain ⟨w3, hw3⟩ : ∃ z, z = w2.alloc (.cells #[.int .i64 m, .slice ao os.length co] 26) := ⟨_, rfl⟩
  have hb3 : Below w2.heap.size w2 w3 := by rw [hw3]; exact below_alloc _ _
  have hz3 : w3.heap.size = w2.heap.size + 1 := by rw [hw3]; simp
  have c0 : w3.cell? ⟨w2.heap.size, 0, none⟩ = some (.int .i64 m) := by rw [hw3]; simp [go_sem]
  have c1 : w3.cell? ⟨w2.heap.size, 1, none⟩ = some (.slice ao os.length co) := by rw [hw3]; simp [go_sem]
  replace R0 := Lib.hid ((bcell1 hb3 (by omega)).trans R0.out)
  replace R1 := Lib.hid ((bcell1 hb3 (by omega)).trans R1.out)
  replace RZ := Lib.hid (fun i => (hb3.frozen (p := ⟨w.heap.size, i, none⟩) (by simp; omega)).trans (RZ.out i))
  have HB3 : Hid (Below w.heap.size w w3) := Lib.hid (HB2.out.trans (hb3.mono HB2.out.size))
  have HS3 := Lib.hid (HS2.out.below hb3 (by omega))
  have HO3 := Lib.hid (HO2.out.below hb3)
  have hbl0 := Bld.empty 2 w3 w3.heap.size (Nat.le_refl _)
  have hb4 := below_alloc w3 (.cells #[] 2)
  have HBL0 : Hid (Bld 2 (w3.alloc (.cells #[] 2)) w3.heap.size (.slice (some ⟨w2.heap.size + 1, 0, none⟩) 0 0) (([] : List Int).map (.int .i64))) := Lib.hid (by rw [← hz3]; exact hbl0)
  have HC4 : Hid (Chg [s] w3 (w3.alloc (.cells #[] 2))) := Lib.hid (Chg.lowP (Chg.refl _ _) hb4)
  have HS4 := Lib.hid (HS3.out.below hb4 (by omega))
  have HOF : Hid (∀ g, g ∈ F → g ∉ [s]) := Lib.hid (fun g hg e => by have := HF2.out g hg; simp at e; omega)
  rw [hw3] at HC4 HS4
  have HW3 := Lib.hid hw3
  have HZ3 := Lib.hid hz3
  have HZ2 : Hid (s < w2.heap.size) := Lib.hid (by omega)
  clear hc2 ho2 hF2 hd2 hs2 hb3 hbl0 hb4 hw3 hz3 hz2 hsw hz1
  have hm2 : (m : Int) ≤ 2 := by omega
  clear hR
  go_wp2
  go_loopw [8, 9] (fun g i wr => ∃ (k : Nat) (rs : List Int), k ≤ m ∧ i = .int .i64 k ∧ Hid (rs.length = k) ∧ Hid (∀ j, 0 ≤ nth rs j ∧ nth rs j ≤ 3) ∧ Hid (Chg [s] w3 wr) ∧ Hid (SrcE wr s (100 + 2 * k)) ∧ Hid (Bld 2 wr w3.heap.size g (rs.map (.int .i64)))) (fun _ i _ => m - (intOf i).toNat)
  case atStart => exact ⟨0, [], Nat.zero_le _, rfl, Lib.hid rfl, Lib.hid (fun j => by simp [nth]), by rw [HW3.out]; exact HC4, HS4, by have h := HBL0; rw [HW3.out] at h ⊢; exact h⟩
  case round =>
    obtain ⟨k, rs, hk, rfl, HL, HRS, HC, HSS, HBL⟩ := hrel
    have g0 : wr.cell? ⟨w2.heap.size, 0, none⟩ = some (.int .i64 m) := (HC.out.cell (by rw [HZ3.out]; omega) (by have := HZ2.out; simp; omega) 0).trans c0
    have g1 : wr.cell? ⟨w2.heap.size, 1, none⟩ = some (.slice ao os.length co) := (HC.out.cell (by rw [HZ3.out]; omega) (by have := HZ2.out; simp; omega) 1).trans c1
    by_cases hlt : k < m
    · have C := Lib.hid (pick_c s (100 + 2 * k) 4 wr HSS.out (by omega) (by omega))
      go_wp2_with fail
      refine C.out.mono ?_
      rintro e w5 ⟨x, rfl, hx, he, hs5⟩
      have hsl : s < w3.heap.size := by rw [HZ3.out]; have := HZ2.out; omega
      have hbl5 := HBL.out.excP he hsl
      have hb6 := below_alloc w5 (.cells #[.int .i64 x] 2)
      have hbl6 := Lib.hid (hbl5.below hb6)
      have HC5 : Hid (Chg [s] w3 w5) := Lib.hid (HC.out.trans he.chg)
      have HC6 : Hid (Chg [s] w3 (w5.alloc (.cells #[.int .i64 x] 2))) := Lib.hid (Chg.lowP HC5.out (hb6.mono HC5.out.size))
      have hs6 := Lib.hid (SrcE.below hs5 hb6 (by have := HC5.out.size; omega))
      have hz5 : Hid (w3.heap.size ≤ w5.heap.size) := Lib.hid HC5.out.size
      have HSL := Lib.hid hsl
      clear C he hs5 hbl5 hb6 hsl
      go_wp2_with (at_builtin; refine app_one rfl _ _ 27 rfl tabI rfl (by decide) w3.heap.size _ _ rfl hbl6.out w5.heap.size (.int .i64 x) rfl rfl ?c1 ?c2 ?c3 ?_)
      case c1 => simp
      case c2 => have := HL.out; simp; omega
      case c3 => have := hz5.out; simp; omega
      intro v' w7 hbl7 hb7
      have HB7 : Hid (Bld 2 w7 w3.heap.size v' ((rs ++ [x]).map (.int .i64))) := Lib.hid (by simpa using hbl7)
      have HC7 : Hid (Chg [s] w3 w7) := Lib.hid (Chg.lowP HC6.out hb7)
      have HS7 : Hid (SrcE w7 s (100 + 2 * (k + 1))) := Lib.hid ((hs6.out.below hb7 HSL.out).more (by omega))
      have HRS7 := Lib.hid (nth_snoc_bd HRS.out (x := x) (by omega))
      clear hbl7 hb7 HBL HC HSS
      go_wp2
      go_roundw
      case rel => exact ⟨k + 1, rs ++ [x], by omega, by go_num, Lib.hid (by have := HL.out; simp; omega), HRS7, HC7, HS7, HB7⟩
      case measure => simp [intOf]; omega
    · have hkm : Hid (k = m) := Lib.hid (by omega)
      obtain ⟨a_r, c_r, F_r, rfl, ho_r, _, hF_r⟩ := HBL.out.ow (by have := HL.out; have := hkm.out; unfold maxLen; omega)
      have hwl : w.heap.size < w3.heap.size := by rw [HZ3.out]; have := HZ2.out; have := HSW.out; omega
      have hws : w.heap.size ∉ [s] := by have := HSW.out; simp; omega
      have q0 := (HC.out.cell hwl hws 0).trans R0.out
      have q1 := (HC.out.cell hwl hws 1).trans R1.out
      have z0 := (HC.out.frozen hwl hws 0).trans (RZ.out 0)
      have z1 := (HC.out.frozen hwl hws 1).trans (RZ.out 1)
      have sA := setA wr w.heap.size (.int .i64 m) (.slice ao os.length co) q0 q1
      have hoo := HC.out.ow HO3.out HOF.out
      have n1 : w.heap.size ∉ F := fun e => by have := HF2.out _ e; have := HZ1.out; have := HSW.out; omega
      have n2 : w.heap.size ∉ F_r := fun e => by have := hF_r _ e; omega
      have HR1 : Hid (Rd Any ((wr.setCell ⟨w.heap.size, 0, none⟩ (.int .i64 m)).setCell ⟨w.heap.size, 1, none⟩ (.slice ao os.length co)) (dO os) (.slice ao os.length co)) := Lib.hid ((hoo.setCell (p := ⟨w.heap.size, 0, none⟩) n1 _).setCell (p := ⟨w.heap.size, 1, none⟩) n1 _).rdA
      have HR2 : Hid (Rd Any ((wr.setCell ⟨w.heap.size, 0, none⟩ (.int .i64 m)).setCell ⟨w.heap.size, 1, none⟩ (.slice ao os.length co)) (dI rs) (.slice a_r rs.length c_r)) := Lib.hid ((ho_r.setCell (p := ⟨w.heap.size, 0, none⟩) n2 _).setCell (p := ⟨w.heap.size, 1, none⟩) n2 _).rdA
      have HB9 : Hid (Below w.heap.size w ((wr.setCell ⟨w.heap.size, 0, none⟩ (.int .i64 m)).setCell ⟨w.heap.size, 1, none⟩ (.slice ao os.length co))) := Lib.hid (((HB3.out.trans (HC.out.below HB3.out.size (fun g hg => by have := HSW.out; simp at hg; omega))).setCell (by exact Nat.le_refl _) _).setCell (by exact Nat.le_refl _) _)
      have SA := Lib.hid sA
      clear hoo ho_r hF_r sA hwl
      go_wp2
      refine bodyPost_ret (v := .tuple #[.agg #[.int .i64 m, .slice ao os.length co], .slice a_r rs.length c_r]) (by simp [results, Tryz.results5, go_sem, SA.out]) rfl ?_
      exact ⟨m, os, _, rs, _, rfl, HB9.out, HR1.out, HR2.out, HD.out, by have := HL.out; have := hkm.out; omega, HRS.out⟩
theorem P6Pick_c (a : Option Addr) (n c : Nat) (q : Int) (w : World) (h : SlU (· < w.heap.size) w a n) (hq : 1 ≤ q ∧ q ≤ 200) :
    Calls Tryz.prog 8 #[.slice a n c, .int .i64 q] w (fun e w' => ∃ x : Int, e = .returned (.int .i64 x) ∧ 0 ≤ x ∧ x < q ∧ Below w.heap.size w w') := by
  have C := Lib.hid (l00From_c a n c w h)
  clear h
  go_enter Tryz.func8, Tryz.ntmps8
  go_wp2_with fail
  refine C.out.mono ?_
  rintro e w1 ⟨rfl, hb1, hz1, hs1⟩
  have HB1 := Lib.hid hb1
  have HS1 := Lib.hid hs1
  clear hb1 hs1 C hz1
  go_wp2_with fail
  refine (pick_c _ 0 q w1 HS1.out (by omega) (by omega)).mono ?_
  rintro e w2 ⟨x, rfl, hx, he, _⟩
  have HB2 : Hid (Below w.heap.size w w2) := Lib.hid (HB1.out.trans (he.chg.below HB1.out.size (fun g hg => by simp at hg; omega)))
  clear he
  go_wp2
  go_ret
  exact ⟨x, rfl, hx.1, by omega, HB2.out⟩
theorem f6big_c (a : Option Addr) (n c : Nat) (w : World) (hn : n ≤ maxLen) :
    Calls Tryz.prog 4 #[.slice a n c] w (RetP w (.bool (decide (4096 < n)))) := by
  unfold maxLen at hn
  have e : decide ((4096 : Int) < n) = decide (4096 < n) := by rw [Bool.eq_iff_iff, decide_eq_true_eq, decide_eq_true_eq]; omega
  go_enter Tryz.func4, Tryz.ntmps4
  go_wp2
  go_ret
  first | exact ⟨ret_bool e, rfl⟩ | exact ⟨rfl, rfl⟩
set_option maxHeartbeats 1000000 in
theorem f6ints_c (a b : Option Addr) (c d : Nat) (xs : List Int) (w : World) (hx : SlI Any w a xs) (hy : SlI Any w b xs) :
    Calls Tryz.prog 16 #[.slice a xs.length c, .slice b xs.length d] w (RetV w (.bool true)) := by
  have l1 := hx.len
  unfold maxLen at l1
  have i1 := hx.ix tabI.under tabI.size c
  have i2 := hy.ix tabI.under tabI.size d
  have HX := Lib.hid hx
  have HY := Lib.hid hy
  clear hx hy
  go_enter Tryz.func16, Tryz.ntmps16
  go_wp2
  go_loopw [5] (fun i wr => ∃ k : Nat, k ≤ xs.length ∧ i = .int .i64 k ∧ Hid (Below w.heap.size w wr)) (fun i _ => xs.length - (intOf i).toNat)
  case atStart => exact ⟨0, Nat.zero_le _, rfl, Lib.hid (Below.refl _ _)⟩
  case round =>
    obtain ⟨k, hk, rfl, HB⟩ := hrel
    by_cases hlt : k < xs.length
    · have g1 := (HX.out.below HB.out).cell k hlt
      have g2 := (HY.out.below HB.out).cell k hlt
      have HD : ∀ m, Hid (Below w.heap.size w (wr.drewN m)) := fun m => Lib.hid (HB.out.trans (below_drewN _ _ _))
      go_wp2
      go_quiet (fail)
      go_wp2
      first
        | (go_roundw
           case rel => exact ⟨k + 1, by omega, by go_num, HD _⟩
           case measure => simp [intOf]; omega)
        | (refine ⟨⟨k + 1, by omega, by go_num, HD _⟩, ?_⟩
           simp [intOf]; omega)
    · obtain rfl : k = xs.length := by omega
      go_wp2
      go_ret
      exact ⟨rfl, HB.out⟩
end Go.Proofs.YtbnikblhnibgiaaGreatDoor
