/- Few steps of a small program lead to few configs. No program is in sight. -/
import Derived.Test.YtncndnholheemaaHV
import Derived.Test.YtncndnholheemaaKF
import Derived.Test.YtncndnholheemaaKB
import Derived.Test.YtncndnholheemaaKC
import Derived.Test.YtncndnholheemaaKD
import Derived.Test.YtncndnholheemaaKE
namespace Go.Proofs.Ytncndnholheemaa
open Go.RowKit

/-- What is looked at covers an order. -/
def covO (o : Ord) (x : AO) : Prop :=
  o.op = 3 ∨ (o.op = 1 ∧ ∃ d T, x = .a d T ∧ (d = if o.reg = 0 then 1 else 16) ∧ 192 * o.to.toNat ∈ T ∧ 192 * o.els.toNat ∈ T) ∨
  (o.op = 2 ∧ o.reg = 0 ∧ ∃ T E, x = .s0 T E ∧ 192 * o.to.toNat ∈ T ∧ 192 * o.els.toNat ∈ E) ∨
  (o.op = 2 ∧ o.reg = 1 ∧ ∃ T E, x = .s1 T E ∧ 192 * o.to.toNat ∈ T ∧ 192 * o.els.toNat ∈ E)
def Cov (os : List Ord) (A : List AO) : Prop := A.length = 4 ∧ ∀ q, q < os.length → ∃ x, A[q]? = some x ∧ covO (nthO os q) x
theorem erase_two {a b : Nat} : ∀ {T : List Nat}, a ∈ T → b ∈ T → (a ∈ T.eraseIdx 0 ∧ b ∈ T.eraseIdx 0) ∨ (a ∈ T.eraseIdx 1 ∧ b ∈ T.eraseIdx 1) ∨ (a ∈ T.eraseIdx 2 ∧ b ∈ T.eraseIdx 2)
  | [], h, _ => by simp at h
  | [x], h1, h2 => .inr (.inr ⟨by simpa using h1, by simpa using h2⟩)
  | [x, y], h1, h2 => .inr (.inr ⟨by simpa using h1, by simpa using h2⟩)
  | x :: y :: z :: l, h1, h2 => by
    simp only [List.eraseIdx_cons_zero, List.eraseIdx_cons_succ, List.mem_cons] at *
    rcases h1 with h1 | h1 | h1 | h1 <;> rcases h2 with h2 | h2 | h2 | h2 <;> simp [h1, h2]
theorem half_one {a : Nat} {T : List Nat} (n : Nat) (h : a ∈ T) : a ∈ T.take n ∨ a ∈ T.drop n := by
  rw [← List.take_append_drop n T] at h
  exact List.mem_append.1 h
theorem kids_cov {o : Ord} {x : AO} (h : covO o x) (w : Nat) : ∃ y, y ∈ kidsA x w ∧ covO o y := by
  rcases h with h | ⟨h, d, T, rfl, hd, h1, h2⟩ | ⟨h, hr, T, E, rfl, h1, h2⟩ | ⟨h, hr, T, E, rfl, h1, h2⟩
  · cases x with
    | a d T => exact ⟨.a d (T.eraseIdx 0), by simp [kidsA], .inl h⟩
    | s0 T E => cases w <;> exact ⟨_, List.mem_cons_self, .inl h⟩
    | s1 T E => cases w <;> exact ⟨_, List.mem_cons_self, .inl h⟩
  · rcases erase_two h1 h2 with ⟨g1, g2⟩ | ⟨g1, g2⟩ | ⟨g1, g2⟩
    · exact ⟨.a d (T.eraseIdx 0), by simp [kidsA], .inr (.inl ⟨h, d, _, rfl, hd, g1, g2⟩)⟩
    · exact ⟨.a d (T.eraseIdx 1), by simp [kidsA], .inr (.inl ⟨h, d, _, rfl, hd, g1, g2⟩)⟩
    · exact ⟨.a d (T.eraseIdx 2), by simp [kidsA], .inr (.inl ⟨h, d, _, rfl, hd, g1, g2⟩)⟩
  · cases w with
    | zero =>
      rcases half_one ((T.length + 1) / 2) h1 with g | g
      · exact ⟨.s0 (T.take ((T.length + 1) / 2)) E, by simp [kidsA], .inr (.inr (.inl ⟨h, hr, _, _, rfl, g, h2⟩))⟩
      · exact ⟨.s0 (T.drop ((T.length + 1) / 2)) E, by simp [kidsA], .inr (.inr (.inl ⟨h, hr, _, _, rfl, g, h2⟩))⟩
    | succ w =>
      rcases half_one ((E.length + 1) / 2) h2 with g | g
      · exact ⟨.s0 T (E.take ((E.length + 1) / 2)), by simp [kidsA], .inr (.inr (.inl ⟨h, hr, _, _, rfl, h1, g⟩))⟩
      · exact ⟨.s0 T (E.drop ((E.length + 1) / 2)), by simp [kidsA], .inr (.inr (.inl ⟨h, hr, _, _, rfl, h1, g⟩))⟩
  · cases w with
    | zero =>
      rcases half_one ((T.length + 1) / 2) h1 with g | g
      · exact ⟨.s1 (T.take ((T.length + 1) / 2)) E, by simp [kidsA], .inr (.inr (.inr ⟨h, hr, _, _, rfl, g, h2⟩))⟩
      · exact ⟨.s1 (T.drop ((T.length + 1) / 2)) E, by simp [kidsA], .inr (.inr (.inr ⟨h, hr, _, _, rfl, g, h2⟩))⟩
    | succ w =>
      rcases half_one ((E.length + 1) / 2) h2 with g | g
      · exact ⟨.s1 T (E.take ((E.length + 1) / 2)), by simp [kidsA], .inr (.inr (.inr ⟨h, hr, _, _, rfl, h1, g⟩))⟩
      · exact ⟨.s1 T (E.drop ((E.length + 1) / 2)), by simp [kidsA], .inr (.inr (.inr ⟨h, hr, _, _, rfl, h1, g⟩))⟩
/-- A fold that goes on as long as it says yes. -/
theorem fold_false {α : Type} (g : α → Nat → Bool × Nat) : ∀ (l : List α) (d : Nat), (l.foldl (fun (r : Bool × Nat) o => match r with | (false, d) => (false, d) | (true, d) => g o d) (false, d)).1 = false
  | [], _ => rfl
  | _ :: l, d => fold_false g l d
theorem fold_all {α : Type} (g : α → Nat → Bool × Nat) : ∀ (l : List α) (c : Nat), (l.foldl (fun (r : Bool × Nat) o => match r with | (false, d) => (false, d) | (true, d) => g o d) (true, c)).1 = true → ∀ o, o ∈ l → ∃ d, (g o d).1 = true
  | [], _, _, o, ho => by simp at ho
  | x :: l, c, h, o, ho => by
    rw [List.foldl_cons] at h
    simp only at h
    cases hx : g x c with
    | mk b d =>
      rw [hx] at h
      cases b with
      | false => rw [fold_false g l d] at h; cases h
      | true =>
        rcases List.mem_cons.1 ho with rfl | ho
        · exact ⟨c, by rw [hx]⟩
        · exact fold_all g l d h o ho
theorem runA_ok (os : List Ord) (S : Nat) : ∀ (f c : Nat) (A : List AO), (runA f c A S).1 = true → Cov os A → ∃ A', Cov os A' ∧ popA (itA A' 8 S) ≤ 200
  | 0, c, A, h, _ => by simp [runA] at h
  | f + 1, c, A, h, hc => by
    unfold runA at h
    split at h
    · exact ⟨A, hc, Nat.le_of_ble_eq_true h⟩
    · rename_i k hk
      have hk4 : k % 4 < 4 := Nat.mod_lt _ (by decide)
      have hA : k % 4 < A.length := by rw [hc.1]; exact hk4
      have key := fold_all (fun o d => runA f d (A.set (k % 4) o) S) _ _ h
      -- a covering kid
      have hkid : ∃ y, y ∈ kidsA (A.getD (k % 4) (.a 0 [])) (k / 4) ∧ Cov os (A.set (k % 4) y) := by
        by_cases hq : k % 4 < os.length
        · obtain ⟨x, hx, hcx⟩ := hc.2 (k % 4) hq
          have hg : A.getD (k % 4) (.a 0 []) = x := by simp [List.getD_eq_getElem?_getD, hx]
          rw [hg]
          obtain ⟨y, hy, hcy⟩ := kids_cov hcx (k / 4)
          refine ⟨y, hy, by simp [hc.1], fun q hq2 => ?_⟩
          by_cases e : k % 4 = q
          · subst e
            exact ⟨y, by rw [List.getElem?_set_self hA], hcy⟩
          · rw [List.getElem?_set_ne e]; exact hc.2 q hq2
        · have hne : ∃ y, y ∈ kidsA (A.getD (k % 4) (.a 0 [])) (k / 4) := by
            generalize A.getD (k % 4) (.a 0 []) = x
            cases x with
            | a d T => exact ⟨_, List.mem_cons_self⟩
            | s0 T E => cases k / 4 <;> exact ⟨_, List.mem_cons_self⟩
            | s1 T E => cases k / 4 <;> exact ⟨_, List.mem_cons_self⟩
          obtain ⟨y, hy⟩ := hne
          refine ⟨y, hy, by simp [hc.1], fun q hq2 => ?_⟩
          rw [List.getElem?_set_ne (by omega)]; exact hc.2 q hq2
      obtain ⟨y, hy, hcy⟩ := hkid
      obtain ⟨d, hd⟩ := key y hy
      exact runA_ok os S f d _ hd hcy
/-- All kinds of programs have been computed. -/
def ckAll : List (Nat × Nat) := (ck1_1 ++ ck1_2 ++ ck1_3 ++ ck1_4 ++ ck1_5 ++ ck1_6 ++ ck1_7 ++ ck1_8) ++ (ck2_1 ++ ck2_2 ++ ck2_3 ++ ck2_4 ++ ck2_5 ++ ck2_6 ++ ck2_7 ++ ck2_8) ++ (ck3_1 ++ ck3_2 ++ ck3_3 ++ ck3_4 ++ ck3_5 ++ ck3_6 ++ ck3_7 ++ ck3_8) ++ (ck4_1 ++ ck4_2 ++ ck4_3 ++ ck4_4 ++ ck4_5 ++ ck4_6 ++ ck4_7 ++ ck4_8)
theorem ckAll_ok : ckAll.all (fun p => chkA p.1 p.2) = true := by
  unfold ckAll
  rw [List.all_append, List.all_append, List.all_append, part1, part2, part3, part4]; rfl
theorem ckAll_has : ∀ t, t < 256 → (ckAll.map Prod.fst).contains t = true := by decide +kernel
theorem chk_all {t : Nat} (h : t < 256) : ∃ c, chkA t c = true := by
  have h1 := ckAll_has t h
  rw [List.contains_iff_mem, List.mem_map] at h1
  obtain ⟨p, hp, rfl⟩ := h1
  exact ⟨p.2, List.all_eq_true.1 ckAll_ok p hp⟩
theorem root_run {t a b : Nat} (ht : t < 256) (ha : a < 4) (hb : b < 4) : ∃ c, (runA 40 c (rootA t) (2 ^ (16 * b + a))).1 = true := by
  obtain ⟨c, hc⟩ := chk_all ht
  have h := fold_all (fun i d => runA 40 d (rootA t) (2 ^ (16 * (i / 4) + i % 4))) _ _ hc (4 * b + a) (List.mem_range.2 (by omega))
  obtain ⟨d, hd⟩ := h
  refine ⟨d, ?_⟩
  rwa [show (4 * b + a) / 4 = b by omega, show (4 * b + a) % 4 = a by omega] at hd
/-- The kind of an order. -/
def tyO (o : Ord) : Nat := if o.op = 1 then o.reg.toNat else if o.op = 2 then 2 + o.reg.toNat else 0
theorem mem_all {x : Int} (h : 0 ≤ x ∧ x ≤ 4) : 192 * x.toNat ∈ allA := by
  have : x = 0 ∨ x = 1 ∨ x = 2 ∨ x = 3 ∨ x = 4 := by omega
  rcases this with rfl | rfl | rfl | rfl | rfl <;> decide
theorem cov_ty {R : Int} {n : Nat} {o : Ord} (h : okOrd R n o = true) (hR : R ≤ 2) (hn : n ≤ 4) : tyO o < 4 ∧ covO o (aoA (tyO o)) := by
  unfold okOrd at h
  split at h
  · rename_i hop
    simp only [inRg, Bool.and_eq_true, decide_eq_true_eq] at h
    have hreg : o.reg = 0 ∨ o.reg = 1 := by omega
    have ht := mem_all (x := o.to) (by omega)
    have he := mem_all (x := o.els) (by omega)
    rcases hop with h1 | h1
    · rcases hreg with h2 | h2
      · have e : tyO o = 0 := by simp [tyO, h1, h2]
        rw [e]
        exact ⟨by decide, .inr (.inl ⟨h1, 1, allA, rfl, by rw [if_pos h2], ht, he⟩)⟩
      · have e : tyO o = 1 := by simp [tyO, h1, h2]
        rw [e]
        exact ⟨by decide, .inr (.inl ⟨h1, 16, allA, rfl, by rw [if_neg (by omega)], ht, he⟩)⟩
    · rcases hreg with h2 | h2
      · have e : tyO o = 2 := by simp [tyO, h1, h2]
        rw [e]
        exact ⟨by decide, .inr (.inr (.inl ⟨h1, h2, allA, allA, rfl, ht, he⟩))⟩
      · have e : tyO o = 3 := by simp [tyO, h1, h2]
        rw [e]
        exact ⟨by decide, .inr (.inr (.inr ⟨h1, h2, allA, allA, rfl, ht, he⟩))⟩
  · rename_i hop
    have h3 : o.op = 3 := by
      simp at h
      exact h.1
    have e : tyO o = 0 := by simp [tyO, h3]
    rw [e]
    exact ⟨by decide, .inl h3⟩
def tyAt (os : List Ord) (q : Nat) : Nat := if q < os.length then tyO (nthO os q) else 0
def tyP (os : List Ord) : Nat := tyAt os 0 + 4 * tyAt os 1 + 16 * tyAt os 2 + 64 * tyAt os 3
theorem cov_root {R : Int} {os : List Ord} (hR : R ≤ 2) (hn : os.length ≤ 4) (hok : ∀ k, k < os.length → okOrd R os.length (nthO os k) = true) : tyP os < 256 ∧ Cov os (rootA (tyP os)) := by
  have h4 : ∀ q, tyAt os q < 4 := fun q => by
    unfold tyAt
    split
    · exact (cov_ty (hok q (by assumption)) hR hn).1
    · decide
  have g0 := h4 0
  have g1 := h4 1
  have g2 := h4 2
  have g3 := h4 3
  have e0 : tyP os % 4 = tyAt os 0 := by unfold tyP; omega
  have e1 : tyP os / 4 % 4 = tyAt os 1 := by unfold tyP; omega
  have e2 : tyP os / 16 % 4 = tyAt os 2 := by unfold tyP; omega
  have e3 : tyP os / 64 = tyAt os 3 := by unfold tyP; omega
  refine ⟨by unfold tyP; omega, rfl, fun q hq => ?_⟩
  have hc := (cov_ty (hok q hq) hR hn).2
  have ht : tyAt os q = tyO (nthO os q) := by unfold tyAt; rw [if_pos hq]
  refine ⟨aoA (tyAt os q), ?_, by rw [ht]; exact hc⟩
  unfold rootA
  rw [e0, e1, e2, e3]
  match q, hq with
  | 0, _ => rfl
  | 1, _ => rfl
  | 2, _ => rfl
  | 3, _ => rfl
  | q + 4, hq => omega
/-- The bit of a config. -/
def btC (c : Cfg) : Nat := 192 * c.pc.toNat + (16 * (nth c.regs 1).toNat + (nth c.regs 0).toNat)
/-- A config that k steps can lead to. -/
structure CfK (R : Int) (n k : Nat) (c : Cfg) : Prop where
  pc : 0 ≤ c.pc ∧ c.pc ≤ n
  len : (c.regs.length : Int) = R
  val : ∀ j, 0 ≤ nth c.regs j ∧ nth c.regs j ≤ 3 + k
theorem nth_set {xs : List Int} {i : Nat} (x : Int) (h : i < xs.length) (j : Nat) : nth (xs.set i x) j = if i = j then x else nth xs j := by
  simp only [nth, List.getD_eq_getElem?_getD, List.getElem?_set]
  split
  · rename_i e; subst e; simp [h]
  · rfl
theorem CfK.more {R : Int} {n k k' : Nat} {c : Cfg} (h : CfK R n k c) (hk : k ≤ k') : CfK R n k' c := ⟨h.pc, h.len, fun j => by have := h.val j; omega⟩
theorem nth_out {xs : List Int} {j : Nat} (h : xs.length ≤ j) : nth xs j = 0 := by
  simp [nth, List.getD_eq_getElem?_getD, List.getElem?_eq_none h]
theorem blk_bit {S q j : Nat} (h : S.testBit (192 * q + j) = true) (hj : j < 192) : ((S >>> (192 * q)) &&& (2 ^ 192 - 1)).testBit j = true := by
  rw [Nat.testBit_and, Nat.testBit_shiftRight, h, Nat.testBit_two_pow_sub_one]; simp [hj]
/-- One step is seen by the computation. -/
theorem step_bit {R : Int} {os : List Ord} {A : List AO} (hc : Cov os A) (hR : 1 ≤ R ∧ R ≤ 2) (hn : os.length ≤ 4) (hok : ∀ k, k < os.length → okOrd R os.length (nthO os k) = true) {k : Nat} (hk : k ≤ 7) {c : Cfg} (hcf : CfK R os.length k c) {S : Nat} (hS : S.testBit (btC c) = true) :
    (nextS os c.pc c.regs).2 = 0 ∧ ∀ d, d ∈ (nextS os c.pc c.regs).1 → CfK R os.length (k + 1) d ∧ (rndA A S S).testBit (btC d) = true := by
  unfold nextS
  split
  · exact ⟨rfl, fun d hd => by simp at hd⟩
  · rename_i hh
    have hne : c.pc ≠ os.length ∧ (nthO os c.pc.toNat).op ≠ 3 := by simp [haltS] at hh; exact hh
    have hpc := hcf.pc
    have hq : c.pc.toNat < os.length := by omega
    have ho := hok _ hq
    obtain ⟨x, hx, hcx⟩ := hc.2 _ hq
    obtain ⟨o, hoo⟩ : ∃ o, o = nthO os c.pc.toNat := ⟨_, rfl⟩
    rw [← hoo] at ho hcx hne ⊢
    have v0 := hcf.val 0
    have v1 := hcf.val 1
    obtain ⟨r0, hr0⟩ : ∃ r : Nat, nth c.regs 0 = r := ⟨(nth c.regs 0).toNat, by omega⟩
    obtain ⟨r1, hr1⟩ : ∃ r : Nat, nth c.regs 1 = r := ⟨(nth c.regs 1).toNat, by omega⟩
    have hb : btC c = 192 * c.pc.toNat + (16 * r1 + r0) := by simp [btC, hr0, hr1]
    rw [hb] at hS
    have hP := blk_bit hS (by omega)
    have hlen := hcf.len
    have hregs : ((o.op = 1 ∨ o.op = 2) ∧ (0 ≤ o.reg ∧ o.reg < R) ∧ (0 ≤ o.to ∧ o.to ≤ os.length) ∧ (0 ≤ o.els ∧ o.els ≤ os.length)) := by
      unfold okOrd at ho
      split at ho
      · rename_i h; simp only [inRg, Bool.and_eq_true, decide_eq_true_eq] at ho; exact ⟨h, by omega, by omega, by omega⟩
      · simp at ho; exact absurd ho.1 hne.2
    obtain ⟨hop, hrg, hto, hel⟩ := hregs
    have hset : ∀ (i : Nat) (y : Int) (at_ : Int), i < c.regs.length → 0 ≤ y ∧ y ≤ 3 + ((k + 1 : Nat) : Int) → 0 ≤ at_ ∧ at_ ≤ os.length → CfK R os.length (k + 1) ⟨at_, c.regs.set i y⟩ := fun i y at_ hi hy hat =>
      ⟨hat, by simpa using hlen, fun j => by
        simp only [nth_set y hi]
        split
        · exact hy
        · have := hcf.val j; omega⟩
    have hvj := hcf.val o.reg.toNat
    have hri : o.reg.toNat < c.regs.length := by omega
    have hit := fun i h => rndA_hit A S S c.pc.toNat i x hx h
    rcases hcx with h3 | ⟨h1, d, T, rfl, hd, ht, he⟩ | ⟨h2, hreg, T, E, rfl, ht, he⟩ | ⟨h2, hreg, T, E, rfl, ht, he⟩
    · exact absurd h3 hne.2
    · -- an addition
      have hbit : ∀ at_ : Int, 0 ≤ at_ → 192 * at_.toNat ∈ T → (rndA A S S).testBit (btC ⟨at_, c.regs.set o.reg.toNat (nth c.regs o.reg.toNat + 1)⟩) = true := fun at_ h0 hm => by
        have e : btC ⟨at_, c.regs.set o.reg.toNat (nth c.regs o.reg.toNat + 1)⟩ = 192 * at_.toNat + ((16 * r1 + r0) + d) := by
          simp only [btC, nth_set _ hri]
          by_cases hr : o.reg = 0
          · rw [if_pos hr] at hd
            simp [hr, hd, hr0, hr1]; omega
          · have : o.reg = 1 := by omega
            rw [if_neg hr] at hd
            simp [this, hd, hr0, hr1]; omega
        rw [e]
        exact hit _ fun acc => stp_a acc hP hm
      have n1000 : ¬ nth c.regs o.reg.toNat = 1000 := by omega
      unfold nextO
      rw [if_neg (by omega), if_neg n1000]
      refine ⟨rfl, fun dd hdd => ?_⟩
      simp only at hdd
      split at hdd
      · simp at hdd; subst hdd
        exact ⟨hset _ _ _ hri (by omega) hto, hbit _ hto.1 ht⟩
      · simp at hdd
        rcases hdd with rfl | rfl
        · exact ⟨hset _ _ _ hri (by omega) hto, hbit _ hto.1 ht⟩
        · exact ⟨hset _ _ _ hri (by omega) hel, hbit _ hel.1 he⟩
    · unfold nextO
      rw [if_pos h2]
      rw [hreg] at hri hvj ⊢
      simp only [show (0 : Int).toNat = 0 from rfl] at hri hvj ⊢
      split
      · rename_i hpos
        refine ⟨rfl, fun dd hdd => ?_⟩
        simp at hdd; subst hdd
        refine ⟨hset _ _ _ hri (by omega) hto, ?_⟩
        obtain ⟨s, hs⟩ : ∃ s, r0 = s + 1 := ⟨r0 - 1, by omega⟩
        have e : btC ⟨o.to, c.regs.set 0 (nth c.regs 0 - 1)⟩ = 192 * o.to.toNat + (16 * r1 + s) := by
          simp only [btC, nth_set _ hri]
          simp [hr0, hr1, hs]
        rw [e]
        rw [hs] at hP
        exact hit _ fun acc => stp_s0 acc hP (by omega) (by omega) ht
      · rename_i hpos
        refine ⟨rfl, fun dd hdd => ?_⟩
        simp at hdd; subst hdd
        refine ⟨⟨hel, hlen, fun j => by have := hcf.val j; simp only; omega⟩, ?_⟩
        have hz : r0 = 0 := by omega
        have e : btC ⟨o.els, c.regs⟩ = 192 * o.els.toNat + 16 * r1 := by simp [btC, hr0, hr1, hz]
        rw [e]
        rw [hz, Nat.add_zero] at hP
        exact hit _ fun acc => stp_z0 acc hP (by omega) he
    · unfold nextO
      rw [if_pos h2]
      rw [hreg] at hri hvj ⊢
      simp only [show (1 : Int).toNat = 1 from rfl] at hri hvj ⊢
      split
      · rename_i hpos
        refine ⟨rfl, fun dd hdd => ?_⟩
        simp at hdd; subst hdd
        refine ⟨hset _ _ _ hri (by omega) hto, ?_⟩
        obtain ⟨s, hs⟩ : ∃ s, r1 = s + 1 := ⟨r1 - 1, by omega⟩
        have e : btC ⟨o.to, c.regs.set 1 (nth c.regs 1 - 1)⟩ = 192 * o.to.toNat + (16 * s + r0) := by
          simp only [btC, nth_set _ hri]
          simp [hr0, hr1, hs]
        rw [e]
        rw [hs] at hP
        exact hit _ fun acc => stp_s1 acc hP ht
      · rename_i hpos
        refine ⟨rfl, fun dd hdd => ?_⟩
        simp at hdd; subst hdd
        refine ⟨⟨hel, hlen, fun j => by have := hcf.val j; simp only; omega⟩, ?_⟩
        have hz : r1 = 0 := by omega
        have e : btC ⟨o.els, c.regs⟩ = 192 * o.els.toNat + r0 := by simp [btC, hr0, hr1, hz]
        rw [e]
        rw [hz, Nat.mul_zero, Nat.zero_add] at hP
        exact hit _ fun acc => stp_z1 acc hP (by omega) he
/-- Different configs have different bits. -/
theorem btC_inj {R : Int} {n k : Nat} (hR : R ≤ 2) (hk : k ≤ 8) {c d : Cfg} (hc : CfK R n k c) (hd : CfK R n k d) (h : btC c = btC d) : c = d := by
  have c0 := hc.val 0
  have c1 := hc.val 1
  have d0 := hd.val 0
  have d1 := hd.val 1
  have pc := hc.pc
  have pd := hd.pc
  unfold btC at h
  have e1 : c.pc = d.pc := by omega
  have e2 : nth c.regs 0 = nth d.regs 0 := by omega
  have e3 : nth c.regs 1 = nth d.regs 1 := by omega
  have lc := hc.len
  have ld := hd.len
  have e4 : c.regs = d.regs := eq_of_nth (by omega) fun j hj => by
    have : j = 0 ∨ j = 1 := by omega
    rcases this with rfl | rfl
    · exact e2
    · exact e3
  cases c; cases d
  simp only at e1 e4
  subst e1 e4; rfl
theorem addC_nodup {all : List Cfg} {d : Cfg} (h : all.Nodup) : (addC all d).Nodup := by
  unfold addC
  split
  · exact h
  · rename_i hh
    refine List.nodup_append.2 ⟨h, by simp, fun a ha b hb e => ?_⟩
    simp at hb; subst hb; subst e
    exact hh (List.any_eq_true.2 ⟨a, ha, eqC_iff.2 rfl⟩)
theorem addTo_nodup {all ds : List Cfg} (h : all.Nodup) : ∀ j, (addTo all ds j).Nodup
  | 0 => h
  | j + 1 => addC_nodup (addTo_nodup h j)
/-- What holds of the configs that k rounds have led to. -/
structure SetK (R : Int) (n k S : Nat) (cs : List Cfg) : Prop where
  ok : ∀ c, c ∈ cs → CfK R n k c ∧ S.testBit (btC c) = true
  nd : cs.Nodup
theorem SetK.le {R : Int} {n k S : Nat} {cs : List Cfg} (h : SetK R n k S cs) (hR : R ≤ 2) (hn : n ≤ 4) (hk : k ≤ 8) : cs.length ≤ popA S := by
  have hl : (cs.map btC).length = cs.length := by simp
  rw [← hl]
  refine bits_le ?_ fun i hi => ?_
  · have key : ∀ l : List Cfg, l.Nodup → (∀ c, c ∈ l → c ∈ cs) → (l.map btC).Nodup := by
      intro l
      induction l with
      | nil => intro _ _; simp
      | cons a l ih =>
        intro hnd hs
        obtain ⟨h1, h2⟩ := List.nodup_cons.1 hnd
        rw [List.map_cons]
        refine List.nodup_cons.2 ⟨fun hm => ?_, ih h2 fun c hc => hs c (by simp [hc])⟩
        obtain ⟨b, hb, e⟩ := List.mem_map.1 hm
        have := btC_inj hR hk (h.ok b (hs b (by simp [hb]))).1 (h.ok a (hs a (by simp))).1 e
        subst this; exact h1 hb
    exact key cs h.nd fun c hc => hc
  · obtain ⟨c, hc, rfl⟩ := List.mem_map.1 hi
    obtain ⟨h1, h2⟩ := h.ok c hc
    refine ⟨?_, h2⟩
    have := h1.pc
    have := h1.val 0
    have := h1.val 1
    unfold btC
    omega
section
variable {R : Int} {os : List Ord} {A : List AO} {S : Nat}
theorem exp_ok (hc : Cov os A) (hR : 1 ≤ R ∧ R ≤ 2) (hn : os.length ≤ 4) (hok : ∀ k, k < os.length → okOrd R os.length (nthO os k) = true) (hp : popA (itA A 8 S) ≤ 200) {k : Nat} (hk : k ≤ 7) {all : List Cfg} (h : SetK R os.length k (itA A k S) all) (fr : Nat) :
    ∀ i, fr + i ≤ all.length → (expTo os all fr i).2 = 0 ∧ SetK R os.length (k + 1) (itA A (k + 1) S) (expTo os all fr i).1
  | 0, _ => ⟨rfl, fun c hc2 => ⟨(h.ok c hc2).1.more (by omega), itA_keep _ _ _ k 1 (h.ok c hc2).2⟩, h.nd⟩
  | i + 1, hi => by
    obtain ⟨h1, h2⟩ := exp_ok hc hR hn hok hp hk h fr i (by omega)
    have hm : nthCfg all (fr + i) ∈ all := by rw [nthCfg_lt (by omega)]; exact List.getElem_mem (by omega)
    obtain ⟨c1, c2⟩ := h.ok _ hm
    obtain ⟨n1, n2⟩ := step_bit hc hR hn hok hk c1 c2
    rw [← itA_succ] at n2
    have hs : SetK R os.length (k + 1) (itA A (k + 1) S) (addTo (expTo os all fr i).1 (nextS os (nthCfg all (fr + i)).pc (nthCfg all (fr + i)).regs).1 (nextS os (nthCfg all (fr + i)).pc (nthCfg all (fr + i)).regs).1.length) :=
      ⟨fun c hc2 => by
        rcases addTo_mem _ _ _ (Nat.le_refl _) c hc2 with e | e
        · exact h2.ok c e
        · exact n2 c e, addTo_nodup h2.nd _⟩
    have hl := hs.le hR.2 hn (by omega)
    have hp2 : popA (itA A (k + 1) S) ≤ popA (itA A 8 S) := by
      rw [popA_eq, popA_eq, ← ds_bits, ← ds_bits]
      refine nodup_len _ _ (List.nodup_range.filter _) fun a ha => ?_
      obtain ⟨g1, g2⟩ := List.mem_filter.1 ha
      refine List.mem_filter.2 ⟨g1, ?_⟩
      have := itA_keep A S a (k + 1) (8 - (k + 1)) g2
      rwa [show k + 1 + (8 - (k + 1)) = 8 by omega] at this
    rw [expTo_step h1 n1 (by omega)]
    exact ⟨rfl, hs⟩
theorem rnd_ok (hc : Cov os A) (hR : 1 ≤ R ∧ R ≤ 2) (hn : os.length ≤ 4) (hok : ∀ k, k < os.length → okOrd R os.length (nthO os k) = true) (hp : popA (itA A 8 S) ≤ 200) {regs : List Int} (h0 : SetK R os.length 0 S [⟨0, regs⟩]) :
    ∀ n, n ≤ 8 → (rndTo os regs n).2.2 = 0 ∧ SetK R os.length n (itA A n S) (rndTo os regs n).1 ∧ (rndTo os regs n).2.1 ≤ (rndTo os regs n).1.length
  | 0, _ => ⟨rfl, h0, by simp [rndTo]⟩
  | n + 1, h => by
    obtain ⟨h1, h2, h3⟩ := rnd_ok hc hR hn hok hp h0 n (by omega)
    obtain ⟨e1, e2⟩ := exp_ok hc hR hn hok hp (by omega) h2 (rndTo os regs n).2.1 ((rndTo os regs n).1.length - (rndTo os regs n).2.1) (by omega)
    rw [rndTo_step h1 e1]
    refine ⟨rfl, e2, ?_⟩
    obtain ⟨t, ht⟩ := expTo_pre _ _ _ _ e1
    simp only [ht, List.length_append]; omega
end
/-- Eight steps of a small program lead to no more than 200 configs. -/
theorem ways_ok {R : Int} {os : List Ord} {regs : List Int} (hR : 1 ≤ R ∧ R ≤ 2) (hn : os.length ≤ 4) (hok : ∀ k, k < os.length → okOrd R os.length (nthO os k) = true) (hl : (regs.length : Int) = R) (hv : ∀ j, 0 ≤ nth regs j ∧ nth regs j ≤ 3) {n : Nat} (h : n ≤ 8) : (rndTo os regs n).2.2 = 0 := by
  obtain ⟨ht, hc⟩ := cov_root hR.2 hn hok
  have v0 := hv 0
  have v1 := hv 1
  obtain ⟨c, hrun⟩ := root_run (t := tyP os) (a := (nth regs 0).toNat) (b := (nth regs 1).toNat) ht (by omega) (by omega)
  obtain ⟨A, hA, hp⟩ := runA_ok os _ _ _ _ hrun hc
  refine (rnd_ok (regs := regs) hA hR hn hok hp ⟨fun c hcm => ?_, by simp⟩ n h).1
  simp at hcm; subst hcm
  refine ⟨⟨by simp, hl, fun j => by have := hv j; simp only; omega⟩, ?_⟩
  simp [btC]
end Go.Proofs.Ytncndnholheemaa
