/- Which numbers a program accepts: plain law. No program is in sight. -/
import Derived.Test.YtkoojiplfbcalaaNO
namespace Go.Proofs.Ytkoojiplfbcalaa
open Go.RowKit

/-- No order has two ways. -/
def plainO (os : List Ord) : Prop := ∀ k, k < os.length → choice (nthO os k) = false
theorem nth_set_or (xs : List Int) (i : Nat) (v : Int) (j : Nat) : nth (xs.set i v) j = v ∨ nth (xs.set i v) j = nth xs j := by
  unfold nth
  rw [List.getD_eq_getElem?_getD, List.getD_eq_getElem?_getD, List.getElem?_set]
  split
  · split
    · exact .inl rfl
    · rename_i h1 h2; subst h1; right; rw [List.getElem?_eq_none (by omega)]
  · exact .inr rfl
theorem next_le {os : List Ord} {c : Cfg} {m : Int} (h : ∀ j, nth c.regs j ≤ m) (hm : 0 ≤ m) : ∀ d, d ∈ (nextS os c.pc c.regs).1 → ∀ j, nth d.regs j ≤ m + 1 := by
  intro d hd j
  unfold nextS at hd
  split at hd
  · simp at hd
  · unfold nextO at hd
    have hv := h (nthO os c.pc.toNat).reg.toNat
    have hj := h j
    have o1 := nth_set_or c.regs (nthO os c.pc.toNat).reg.toNat (nth c.regs (nthO os c.pc.toNat).reg.toNat - 1) j
    have o2 := nth_set_or c.regs (nthO os c.pc.toNat).reg.toNat (nth c.regs (nthO os c.pc.toNat).reg.toNat + 1) j
    split at hd
    · split at hd
      · simp at hd; subst hd; simp only; omega
      · simp at hd; subst hd; simp only; omega
    · split at hd
      · simp at hd
      · split at hd
        · simp at hd; subst hd; simp only; omega
        · simp at hd
          rcases hd with rfl | rfl
          · simp only; omega
          · simp only; omega
theorem next_zero {os : List Ord} {c : Cfg} (h : ∀ j, nth c.regs j ≤ 999) : (nextS os c.pc c.regs).2 = 0 := by
  unfold nextS
  split
  · rfl
  · unfold nextO
    have hv := h (nthO os c.pc.toNat).reg.toNat
    split
    · split <;> rfl
    · rw [if_neg (by omega)]
theorem runE_fine {R : Int} {os : List Ord} (hv : validProgS R os = true) (hp : plainO os) : ∀ (k n : Nat) (c : Cfg) (m : Int), (∀ j, nth c.regs j ≤ m) → 0 ≤ m → m + k ≤ 1000 → confOk R os.length c.pc c.regs = true →
    (runE os k n c).2.2 = 0 ∧ (∀ j, nth (runE os k n c).1.regs j ≤ m + k) ∧ confOk R os.length (runE os k n c).1.pc (runE os k n c).1.regs = true
  | 0, n, c, m, h, h0, hm, hc => by simp only [runE]; exact ⟨trivial, fun j => by have := h j; omega, hc⟩
  | k + 1, n, c, m, h, h0, hm, hc => by
    unfold runE
    by_cases hh : haltS os c.pc = true
    · simp only [hh, if_true]; exact ⟨trivial, fun j => by have := h j; omega, hc⟩
    · have hh' : haltS os c.pc = false := by simpa using hh
      have hP : 0 ≤ c.pc ∧ c.pc ≤ os.length := by simp [confOk, inRg] at hc; omega
      have hlt : c.pc.toNat < os.length := by
        have : c.pc ≠ os.length := by simp [haltS] at hh; exact hh.1
        omega
      have hz := next_zero (os := os) (c := c) (fun j => by have := h j; omega)
      rw [if_neg hh, if_neg (by rw [hp _ hlt]; simp), if_pos hz]
      have ih := runE_fine hv hp k (n + 1) (firstS os c) (m + 1) (next_le h h0 _ (firstS_get (nextS_some hh' hz)).2) (by omega) (by omega) (firstS_ok hv hc hh' hz)
      exact ⟨ih.1, fun j => by have := ih.2.1 j; omega, ih.2.2⟩
theorem accTo_all {f : Nat → Bool × Int} : ∀ (k : Nat), (∀ j, j < k → (f j).2 = 0) → (accTo f k).2 = 0 ∧ ∀ n : Nat, (accTo f k).1.count (n : Int) = if n < k ∧ (f n).1 = true then 1 else 0
  | 0, _ => ⟨rfl, fun n => by simp [accTo]⟩
  | k + 1, h => by
    obtain ⟨i1, i2⟩ := accTo_all k fun j hj => h j (by omega)
    unfold accTo
    rw [if_pos i1, if_pos (h k (by omega))]
    by_cases hf : (f k).1 = true
    · rw [if_pos hf]
      refine ⟨rfl, fun n => ?_⟩
      show ((accTo f k).1 ++ [(k : Int)]).count (n : Int) = _
      rw [List.count_append, i2 n]
      by_cases e : n = k
      · subst e
        simp [hf]
      · have he : ¬ (k : Int) = (n : Int) := by omega
        have h1 : ([(k : Int)]).count (n : Int) = 0 := by simp [List.count_cons, he]
        rw [h1, Nat.add_zero]
        by_cases hn : n < k ∧ (f n).1 = true
        · rw [if_pos hn, if_pos ⟨by omega, hn.2⟩]
        · rw [if_neg hn, if_neg (fun h2 => hn ⟨by omega, h2.2⟩)]
    · rw [if_neg hf]
      refine ⟨rfl, fun n => ?_⟩
      show (accTo f k).1.count (n : Int) = _
      rw [i2 n]
      by_cases e : n = k
      · subst e
        rw [if_neg (by omega), if_neg (fun h2 => hf h2.2)]
      · by_cases hn : n < k ∧ (f n).1 = true
        · rw [if_pos hn, if_pos ⟨by omega, hn.2⟩]
        · rw [if_neg hn, if_neg (fun h2 => hn ⟨by omega, h2.2⟩)]
theorem regsN_le {r k : Nat} : ∀ j, nth (regsN r k) j ≤ k := by
  intro j
  unfold regsN
  rcases nth_set_or (List.replicate r 0) 0 (k : Int) j with h | h
  · omega
  · rw [h]
    unfold nth
    rw [List.getD_eq_getElem?_getD, List.getElem?_replicate]
    split <;> simp
/-- What the law of accepted numbers needs. -/
theorem accept_law {R : Int} {os : List Ord} {steps : Int} (hv : validProgS R os = true) (hp : plainO os) (hs : 0 ≤ steps ∧ steps ≤ 15) :
    (acceptedS R os 4 steps).2 = 0 ∧ ∀ n : Nat, n ≤ 4 → (runP R os (regsN R.toNat n) steps).2.2 = 0 ∧
      (nextConfigsS R os (runP R os (regsN R.toNat n) steps).1.pc (runP R os (regsN R.toNat n) steps).1.regs).2 = 0 ∧
      (((nextConfigsS R os (runP R os (regsN R.toNat n) steps).1.pc (runP R os (regsN R.toNat n) steps).1.regs).1.length = 0) ↔ (acceptedS R os 4 steps).1.count (n : Int) = 1) := by
  have hR : 1 ≤ R ∧ R ≤ 3 := by simp [validProgS, inRg] at hv; omega
  have hst : inRg steps 0 200 = true := by simp [inRg]; omega
  have key : ∀ n : Nat, n ≤ 4 → (runP R os (regsN R.toNat n) steps).2.2 = 0 ∧ (∀ j, nth (runP R os (regsN R.toNat n) steps).1.regs j ≤ 19) ∧ confOk R os.length (runP R os (regsN R.toNat n) steps).1.pc (runP R os (regsN R.toNat n) steps).1.regs = true := fun n hn => by
    have hreg : regsOk R (regsN R.toNat n) = true := by
      have := regsN_ok (r := R.toNat) (k := n) (by omega)
      rwa [show ((R.toNat : Nat) : Int) = R by omega] at this
    have ha : askRun R os (regsN R.toNat n) steps = 0 := askRun_zero hv hreg hst
    rw [runP, if_pos ha]
    have := runE_fine hv hp steps.toNat 0 ⟨0, regsN R.toNat n⟩ n regsN_le (by omega) (by omega) (start_ok hreg)
    exact ⟨this.1, fun j => by have := this.2.1 j; omega, this.2.2⟩
  have hacc := accTo_all (f := accF R os steps) 5 (fun j hj => (key j (by omega)).1)
  have he : acceptedS R os 4 steps = accTo (accF R os steps) 5 := acc_fine (m := 4) hv (by decide) hst
  rw [he]
  refine ⟨hacc.1, fun n hn => ?_⟩
  obtain ⟨k1, k2, k3⟩ := key n hn
  have e3 : nextConfigsS R os (runP R os (regsN R.toNat n) steps).1.pc (runP R os (regsN R.toNat n) steps).1.regs = nextS os (runP R os (regsN R.toNat n) steps).1.pc (runP R os (regsN R.toNat n) steps).1.regs := by
    rw [nextConfigsS, if_pos hv, if_pos k3]
  have hz := next_zero (os := os) (c := (runP R os (regsN R.toNat n) steps).1) (fun j => by have := k2 j; omega)
  rw [e3, hacc.2 n]
  refine ⟨k1, hz, ?_⟩
  cases hh : haltS os (runP R os (regsN R.toNat n) steps).1.pc
  · have := nextS_some hh hz
    rw [if_neg (fun h2 => by have := h2.2; simp [accF, hh] at this)]
    omega
  · rw [if_pos ⟨by omega, by simp [accF, hh]⟩, nextS, if_pos hh]
    simp
end Go.Proofs.Ytkoojiplfbcalaa
