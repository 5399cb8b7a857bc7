/- The values with which a program can halt: what is computed. No program is in sight. -/
import Derived.Test.YtncndnholheemaaNM
import Derived.Lib.SlicesCompact
namespace Go.Proofs.Ytncndnholheemaa
open Go.RowKit

/-- Two configs are one. -/
def eqC (a b : Cfg) : Bool := (a.pc == b.pc) && eqI a.regs b.regs
theorem eqC_iff {a b : Cfg} : eqC a b = true ↔ a = b := by
  simp only [eqC, eqI, Bool.and_eq_true, beq_iff_eq, decide_eq_true_eq]
  constructor
  · rintro ⟨h1, h2⟩
    cases a; cases b; simp at h1 h2; subst h1 h2; rfl
  · rintro rfl; exact ⟨rfl, rfl⟩
/-- The place of the first config for which p says yes, or -1. -/
def idxC (p : Cfg → Bool) (cs : List Cfg) : Int := match cs.findIdx? p with | some i => (i : Int) | none => -1
theorem idxC_at {p : Cfg → Bool} {cs : List Cfg} {k : Nat} (hk : k < cs.length) (h : ∀ j, j < k → p (nthCfg cs j) = false) (hp : p (nthCfg cs k) = true) : idxC p cs = k := by
  have : cs.findIdx? p = some k := by
    rw [List.findIdx?_eq_some_iff_getElem]
    refine ⟨hk, by rw [← nthCfg_lt hk]; exact hp, fun j hj => ?_⟩
    have := h j hj
    rw [nthCfg_lt (by omega)] at this
    simp [this]
  simp [idxC, this]
theorem idxC_none {p : Cfg → Bool} {cs : List Cfg} (h : ∀ j, j < cs.length → p (nthCfg cs j) = false) : idxC p cs = -1 := by
  have : cs.findIdx? p = none := by
    rw [List.findIdx?_eq_none_iff]
    intro x hx
    obtain ⟨j, hj, rfl⟩ := List.getElem_of_mem hx
    have := h j hj
    rwa [nthCfg_lt hj] at this
  simp [idxC, this]
def hasC (all : List Cfg) (d : Cfg) : Bool := all.any fun c => eqC c d
theorem idxC_any (p : Cfg → Bool) (cs : List Cfg) : decide (0 ≤ idxC p cs) = cs.any p := by
  unfold idxC
  cases h : cs.findIdx? p with
  | none =>
    rw [List.findIdx?_eq_none_iff] at h
    have : cs.any p = false := by rw [List.any_eq_false]; intro x hx; simp [h x hx]
    simp [this]
  | some i =>
    rw [List.findIdx?_eq_some_iff_getElem] at h
    obtain ⟨hi, hp, _⟩ := h
    have : cs.any p = true := List.any_eq_true.2 ⟨_, List.getElem_mem hi, hp⟩
    simp [this]
theorem idxC_neg (p : Cfg → Bool) (cs : List Cfg) : decide (idxC p cs < 0) = !cs.any p := by
  rw [← idxC_any]
  by_cases h : 0 ≤ idxC p cs
  · rw [decide_eq_true h, decide_eq_false (by omega)]; rfl
  · rw [decide_eq_false h, decide_eq_true (by omega)]; rfl
/-- A config is put behind the others, if it isn't among them. -/
def addC (all : List Cfg) (d : Cfg) : List Cfg := if hasC all d = true then all else all ++ [d]
def addTo (all ds : List Cfg) : Nat → List Cfg
  | 0 => all
  | j + 1 => addC (addTo all ds j) (nthCfg ds j)
theorem addTo_pre (all ds : List Cfg) : ∀ j, ∃ t, addTo all ds j = all ++ t
  | 0 => ⟨[], by simp [addTo]⟩
  | j + 1 => by
    obtain ⟨t, h⟩ := addTo_pre all ds j
    unfold addTo addC
    split
    · exact ⟨t, h⟩
    · exact ⟨t ++ [nthCfg ds j], by rw [h, List.append_assoc]⟩
theorem addTo_len (all ds : List Cfg) : ∀ j, (addTo all ds j).length ≤ all.length + j
  | 0 => by simp [addTo]
  | j + 1 => by
    have := addTo_len all ds j
    unfold addTo addC
    split
    · omega
    · rw [List.length_append, List.length_cons, List.length_nil]; omega
theorem addTo_mem (all ds : List Cfg) : ∀ (j : Nat), j ≤ ds.length → ∀ c, c ∈ addTo all ds j → c ∈ all ∨ c ∈ ds
  | 0, _, c, h => .inl (by simpa [addTo] using h)
  | j + 1, hj, c, h => by
    unfold addTo addC at h
    split at h
    · exact addTo_mem all ds j (by omega) c h
    · rcases List.mem_append.1 h with h | h
      · exact addTo_mem all ds j (by omega) c h
      · simp at h; subst h
        right; rw [nthCfg_lt (by omega)]; exact List.getElem_mem (by omega)
/-- What the first i of the configs from place fr on lead to. -/
def expTo (os : List Ord) (all : List Cfg) (fr : Nat) : Nat → List Cfg × Int
  | 0 => (all, 0)
  | i + 1 => if (expTo os all fr i).2 = 0 then
      (if (nextS os (nthCfg all (fr + i)).pc (nthCfg all (fr + i)).regs).2 = 0 then
        (if 200 < (addTo (expTo os all fr i).1 (nextS os (nthCfg all (fr + i)).pc (nthCfg all (fr + i)).regs).1 (nextS os (nthCfg all (fr + i)).pc (nthCfg all (fr + i)).regs).1.length).length then ([], 3)
         else (addTo (expTo os all fr i).1 (nextS os (nthCfg all (fr + i)).pc (nthCfg all (fr + i)).regs).1 (nextS os (nthCfg all (fr + i)).pc (nthCfg all (fr + i)).regs).1.length, 0))
       else ([], 3))
    else ([], 3)
def rndTo (os : List Ord) (regs : List Int) : Nat → List Cfg × Nat × Int
  | 0 => ([⟨0, regs⟩], 0, 0)
  | n + 1 => if (rndTo os regs n).2.2 = 0 then
      (if (expTo os (rndTo os regs n).1 (rndTo os regs n).2.1 ((rndTo os regs n).1.length - (rndTo os regs n).2.1)).2 = 0 then
        ((expTo os (rndTo os regs n).1 (rndTo os regs n).2.1 ((rndTo os regs n).1.length - (rndTo os regs n).2.1)).1, (rndTo os regs n).1.length, 0) else ([], 0, 3))
    else ([], 0, 3)
/-- All configs are right. -/
def allC (R : Int) (n : Nat) (cs : List Cfg) : Prop := ∀ c, c ∈ cs → confOk R n c.pc c.regs = true
theorem allC.at {R : Int} {n : Nat} {cs : List Cfg} (h : allC R n cs) {i : Nat} (hi : i < cs.length) : confOk R n (nthCfg cs i).pc (nthCfg cs i).regs = true := by
  rw [nthCfg_lt hi]; exact h _ (List.getElem_mem hi)
theorem nthCfg_app {all t : List Cfg} {i : Nat} (h : i < all.length) : nthCfg (all ++ t) i = nthCfg all i := by
  rw [nthCfg_lt (by rw [List.length_append]; omega), nthCfg_lt h, List.getElem_append_left h]
theorem expTo_pre (os : List Ord) (all : List Cfg) (fr : Nat) : ∀ i, (expTo os all fr i).2 = 0 → ∃ t, (expTo os all fr i).1 = all ++ t
  | 0, _ => ⟨[], by simp [expTo]⟩
  | i + 1, h => by
    unfold expTo at h ⊢
    split at h
    · rename_i h1
      rw [if_pos h1]
      split at h
      · rename_i h2
        rw [if_pos h2]
        split at h
        · exact absurd h (by decide)
        · rename_i h3
          rw [if_neg h3]
          obtain ⟨t, ht⟩ := expTo_pre os all fr i h1
          obtain ⟨t2, ht2⟩ := addTo_pre (expTo os all fr i).1 (nextS os (nthCfg all (fr + i)).pc (nthCfg all (fr + i)).regs).1 (nextS os (nthCfg all (fr + i)).pc (nthCfg all (fr + i)).regs).1.length
          exact ⟨t ++ t2, by rw [ht2, ht, List.append_assoc]⟩
      · exact absurd h (by decide)
    · exact absurd h (by decide)
theorem expTo_code (os : List Ord) (all : List Cfg) (fr : Nat) : ∀ i, (expTo os all fr i).2 = 0 ∨ expTo os all fr i = ([], 3)
  | 0 => .inl rfl
  | i + 1 => by
    unfold expTo
    split
    · split
      · split
        · exact .inr rfl
        · exact .inl rfl
      · exact .inr rfl
    · exact .inr rfl
theorem expTo_len (os : List Ord) (all : List Cfg) (fr : Nat) (h200 : all.length ≤ 200) : ∀ i, (expTo os all fr i).1.length ≤ 200
  | 0 => h200
  | i + 1 => by
    unfold expTo
    split
    · split
      · split
        · simp
        · rename_i h; simp only; omega
      · simp
    · simp
theorem expTo_ok {R : Int} {os : List Ord} (hvp : validProgS R os = true) {all : List Cfg} (hall : allC R os.length all) (fr : Nat) : ∀ i, fr + i ≤ all.length → allC R os.length (expTo os all fr i).1
  | 0, _ => hall
  | i + 1, hi => by
    have ih := expTo_ok hvp hall fr i (by omega)
    unfold expTo
    split
    · split
      · split
        · intro c hc; simp at hc
        · intro c hc
          rcases addTo_mem _ _ _ (Nat.le_refl _) c hc with h | h
          · exact ih c h
          · exact nextS_ok hvp (hall.at (by omega)) c h
      · intro c hc; simp at hc
    · intro c hc; simp at hc
theorem expTo_stay {os : List Ord} {all : List Cfg} {fr i : Nat} (h : (expTo os all fr i).2 ≠ 0) : ∀ d, (expTo os all fr (i + d)).2 = 3
  | 0 => by
    rcases expTo_code os all fr i with h1 | h1
    · exact absurd h1 h
    · rw [Nat.add_zero, h1]
  | d + 1 => by
    have ih := expTo_stay h d
    rw [← Nat.add_assoc, expTo, if_neg (by rw [ih]; decide)]
theorem expTo_step {os : List Ord} {all : List Cfg} {fr i : Nat} (h : (expTo os all fr i).2 = 0) (h2 : (nextS os (nthCfg all (fr + i)).pc (nthCfg all (fr + i)).regs).2 = 0)
    (h3 : ¬ 200 < (addTo (expTo os all fr i).1 (nextS os (nthCfg all (fr + i)).pc (nthCfg all (fr + i)).regs).1 (nextS os (nthCfg all (fr + i)).pc (nthCfg all (fr + i)).regs).1.length).length) :
    expTo os all fr (i + 1) = (addTo (expTo os all fr i).1 (nextS os (nthCfg all (fr + i)).pc (nthCfg all (fr + i)).regs).1 (nextS os (nthCfg all (fr + i)).pc (nthCfg all (fr + i)).regs).1.length, 0) := by
  rw [expTo, if_pos h, if_pos h2, if_neg h3]
theorem expTo_stuck {os : List Ord} {all : List Cfg} {fr i : Nat} (h2 : ¬ (nextS os (nthCfg all (fr + i)).pc (nthCfg all (fr + i)).regs).2 = 0) : (expTo os all fr (i + 1)).2 = 3 := by
  rw [expTo]
  split
  · simp
  · rfl
theorem expTo_many {os : List Ord} {all : List Cfg} {fr i : Nat}
    (h3 : 200 < (addTo (expTo os all fr i).1 (nextS os (nthCfg all (fr + i)).pc (nthCfg all (fr + i)).regs).1 (nextS os (nthCfg all (fr + i)).pc (nthCfg all (fr + i)).regs).1.length).length) : (expTo os all fr (i + 1)).2 = 3 := by
  rw [expTo]
  split
  · simp
  · rfl
/-- What is known of the rounds. -/
structure RndOk (R : Int) (os : List Ord) (s : List Cfg × Nat × Int) : Prop where
  ok : allC R os.length s.1
  fr : s.2.1 ≤ s.1.length
  len : s.1.length ≤ 200
theorem rndTo_ok {R : Int} {os : List Ord} {regs : List Int} (hvp : validProgS R os = true) (hr : regsOk R regs = true) : ∀ n, RndOk R os (rndTo os regs n)
  | 0 => ⟨fun c hc => by simp [rndTo] at hc; subst hc; exact start_ok hr, by simp [rndTo], by simp [rndTo]⟩
  | n + 1 => by
    have ih := rndTo_ok hvp hr n
    unfold rndTo
    split
    · split
      · rename_i h2
        obtain ⟨t, ht⟩ := expTo_pre _ _ _ _ h2
        exact ⟨expTo_ok hvp ih.ok _ _ (by have := ih.fr; omega), by simp only [ht, List.length_append]; omega, expTo_len _ _ _ ih.len _⟩
      · exact ⟨fun c hc => by simp at hc, by simp, by simp⟩
    · exact ⟨fun c hc => by simp at hc, by simp, by simp⟩
theorem rndTo_code (os : List Ord) (regs : List Int) : ∀ n, (rndTo os regs n).2.2 = 0 ∨ (rndTo os regs n).2.2 = 3
  | 0 => .inl rfl
  | n + 1 => by
    unfold rndTo
    split
    · split
      · exact .inl rfl
      · exact .inr rfl
    · exact .inr rfl
theorem rndTo_err {os : List Ord} {regs : List Int} {n : Nat} (h : ¬ (rndTo os regs n).2.2 = 0) : ∀ d, (rndTo os regs (n + d)).2.2 = 3
  | 0 => by rcases rndTo_code os regs n with h1 | h1; exact absurd h1 h; exact h1
  | d + 1 => by rw [← Nat.add_assoc, rndTo, if_neg (by rw [rndTo_err h d]; decide)]
theorem rndTo_fall {os : List Ord} {regs : List Int} {n m i : Nat} (hn : n < m) (hi : i ≤ (rndTo os regs n).1.length - (rndTo os regs n).2.1) (h : (expTo os (rndTo os regs n).1 (rndTo os regs n).2.1 i).2 = 3) : (rndTo os regs m).2.2 = 3 := by
  have h1 : ¬ (rndTo os regs (n + 1)).2.2 = 0 := by
    rw [rndTo]
    split
    · obtain ⟨d, hd⟩ : ∃ d, (rndTo os regs n).1.length - (rndTo os regs n).2.1 = i + d := ⟨_, (Nat.add_sub_cancel' hi).symm⟩
      rw [hd, if_neg (by rw [expTo_stay (by rw [h]; decide) d]; decide)]
      decide
    · decide
  have := rndTo_err h1 (m - (n + 1))
  rwa [show n + 1 + (m - (n + 1)) = m by omega] at this
theorem rndTo_step {os : List Ord} {regs : List Int} {n : Nat} (h : (rndTo os regs n).2.2 = 0) (h2 : (expTo os (rndTo os regs n).1 (rndTo os regs n).2.1 ((rndTo os regs n).1.length - (rndTo os regs n).2.1)).2 = 0) :
    rndTo os regs (n + 1) = ((expTo os (rndTo os regs n).1 (rndTo os regs n).2.1 ((rndTo os regs n).1.length - (rndTo os regs n).2.1)).1, (rndTo os regs n).1.length, 0) := by
  rw [rndTo, if_pos h, if_pos h2]
theorem rndTo_rest {os : List Ord} {regs : List Int} {n : Nat} (h : (rndTo os regs n).2.2 = 0) (h2 : (rndTo os regs n).2.1 = (rndTo os regs n).1.length) : ∀ d, rndTo os regs (n + d) = rndTo os regs n
  | 0 => rfl
  | d + 1 => by
    have ih := rndTo_rest h h2 d
    have e : (rndTo os regs (n + d)).1.length - (rndTo os regs (n + d)).2.1 = 0 := by rw [ih]; omega
    rw [← Nat.add_assoc, rndTo, e]
    simp only [expTo]
    rw [ih, if_pos h, if_pos trivial]
    match hh : rndTo os regs n, h, h2 with
    | (a, b, c), h, h2 => simp only at h h2 ⊢; rw [h, h2]
/-- A number is put to its place among rising ones, once. -/
def putS : List Int → Int → List Int
  | [], n => [n]
  | x :: xs, n => if n ≤ x then (if n < x then n :: x :: xs else x :: xs) else x :: putS xs n
/-- The values with which the first k of the configs halt. -/
def valTo (os : List Ord) (all : List Cfg) : Nat → List Int
  | 0 => []
  | k + 1 => if haltS os (nthCfg all k).pc = true then putS (valTo os all k) (nth (nthCfg all k).regs 0) else valTo os all k
def rawTo (os : List Ord) (all : List Cfg) : Nat → List Int
  | 0 => []
  | k + 1 => if haltS os (nthCfg all k).pc = true then rawTo os all k ++ [nth (nthCfg all k).regs 0] else rawTo os all k
def haltValuesS (R : Int) (os : List Ord) (regs : List Int) (steps : Int) : List Int × Int :=
  if askRun R os regs steps = 0 then (if (rndTo os regs steps.toNat).2.2 = 0 then (valTo os (rndTo os regs steps.toNat).1 (rndTo os regs steps.toNat).1.length, 0) else ([], 3)) else ([], askRun R os regs steps)
theorem rawTo_len (os : List Ord) (all : List Cfg) : ∀ k, (rawTo os all k).length ≤ k
  | 0 => by simp [rawTo]
  | k + 1 => by
    have := rawTo_len os all k
    unfold rawTo
    split
    · rw [List.length_append, List.length_cons, List.length_nil]; omega
    · omega
theorem putS_len : ∀ (l : List Int) (n : Int), (putS l n).length ≤ l.length + 1
  | [], n => by simp [putS]
  | x :: xs, n => by
    have := putS_len xs n
    unfold putS
    split
    · split <;> simp
    · simp only [List.length_cons]; omega
theorem valTo_len (os : List Ord) (all : List Cfg) : ∀ k, (valTo os all k).length ≤ k
  | 0 => by simp [valTo]
  | k + 1 => by
    have := valTo_len os all k
    unfold valTo
    split
    · have := putS_len (valTo os all k) (nth (nthCfg all k).regs 0); omega
    · omega
theorem putS_mem : ∀ (l : List Int) (n y : Int), y ∈ putS l n ↔ y = n ∨ y ∈ l
  | [], n, y => by simp [putS]
  | x :: xs, n, y => by
    have ih := putS_mem xs n y
    unfold putS
    split
    · split
      · simp
      · have : n = x := by omega
        subst this; simp
    · rw [List.mem_cons, ih, List.mem_cons]
      constructor
      · rintro (h | h | h)
        · exact .inr (.inl h)
        · exact .inl h
        · exact .inr (.inr h)
      · rintro (h | h | h)
        · exact .inr (.inl h)
        · exact .inl h
        · exact .inr (.inr h)
theorem putS_up : ∀ (l : List Int) (n : Int), l.Pairwise (· < ·) → (putS l n).Pairwise (· < ·)
  | [], n, _ => by simp [putS]
  | x :: xs, n, h => by
    obtain ⟨h1, h2⟩ := List.pairwise_cons.1 h
    unfold putS
    split
    · split
      · rename_i h4
        refine List.pairwise_cons.2 ⟨fun y hy => ?_, h⟩
        rcases List.mem_cons.1 hy with rfl | hy
        · exact h4
        · have := h1 y hy; omega
      · exact h
    · refine List.pairwise_cons.2 ⟨fun y hy => ?_, putS_up xs n h2⟩
      rcases (putS_mem xs n y).1 hy with rfl | hy
      · omega
      · exact h1 y hy
theorem valTo_up (os : List Ord) (all : List Cfg) : ∀ k, (valTo os all k).Pairwise (· < ·)
  | 0 => by simp [valTo]
  | k + 1 => by
    unfold valTo
    split
    · exact putS_up _ _ (valTo_up os all k)
    · exact valTo_up os all k
theorem valTo_mem (os : List Ord) (all : List Cfg) (y : Int) : ∀ k, y ∈ valTo os all k ↔ y ∈ rawTo os all k
  | 0 => by simp [valTo, rawTo]
  | k + 1 => by
    have ih := valTo_mem os all y k
    unfold valTo rawTo
    split
    · rw [putS_mem, List.mem_append, ih, List.mem_singleton]
      exact Or.comm
    · exact ih
theorem up_ext : ∀ (a b : List Int), a.Pairwise (· < ·) → b.Pairwise (· < ·) → (∀ y, y ∈ a ↔ y ∈ b) → a = b
  | [], [], _, _, _ => rfl
  | [], y :: b, _, _, h => by have := (h y).2 (by simp); simp at this
  | x :: a, [], _, _, h => by have := (h x).1 (by simp); simp at this
  | x :: a, y :: b, h1, h2, h => by
    obtain ⟨p1, q1⟩ := List.pairwise_cons.1 h1
    obtain ⟨p2, q2⟩ := List.pairwise_cons.1 h2
    have e : x = y := by
      rcases List.mem_cons.1 ((h x).1 (by simp)) with e | e
      · exact e
      · rcases List.mem_cons.1 ((h y).2 (by simp)) with e2 | e2
        · exact e2.symm
        · have := p2 x e; have := p1 y e2; omega
    subst e
    congr 1
    refine up_ext a b q1 q2 fun z => ?_
    have hz := h z
    constructor
    · intro hm
      rcases List.mem_cons.1 (hz.1 (by simp [hm])) with e | e
      · have := p1 z hm; omega
      · exact e
    · intro hm
      rcases List.mem_cons.1 (hz.2 (by simp [hm])) with e | e
      · have := p2 z hm; omega
      · exact e
/-- Of rising numbers, each once. -/
theorem compact_up (d : Array Int) (hd : ∀ i j, i ≤ j → j < d.size → d[i]! ≤ d[j]!) : ∀ m, m ≤ d.size → (Lib.compactUpTo d m).Pairwise (· < ·) ∧ (∀ y, y ∈ Lib.compactUpTo d m ↔ ∃ j, j < m ∧ d[j]! = y)
  | 0, _ => ⟨by simp [Lib.compactUpTo], fun y => by simp [Lib.compactUpTo]⟩
  | m + 1, hm => by
    obtain ⟨h1, h2⟩ := compact_up d hd m (by omega)
    rw [Lib.compactUpTo_succ]
    by_cases hk : Lib.keeps d m = true
    · rw [if_pos hk]
      refine ⟨List.pairwise_append.2 ⟨h1, by simp, fun a ha b hb => ?_⟩, fun y => ?_⟩
      · simp at hb; subst hb
        obtain ⟨j, hj, rfl⟩ := (h2 a).1 ha
        simp only [Lib.keeps, decide_eq_true_eq] at hk
        have e1 := hd j (m - 1) (by omega) (by omega)
        have e2 := hd (m - 1) m (by omega) (by omega)
        rcases hk with hk | hk
        · omega
        · omega
      · rw [List.mem_append, h2, List.mem_singleton]
        constructor
        · rintro (⟨j, hj, e⟩ | e)
          · exact ⟨j, by omega, e⟩
          · exact ⟨m, by omega, e.symm⟩
        · rintro ⟨j, hj, e⟩
          by_cases e2 : j = m
          · subst e2; exact .inr e.symm
          · exact .inl ⟨j, by omega, e⟩
    · rw [if_neg hk, List.append_nil]
      refine ⟨h1, fun y => ?_⟩
      rw [h2]
      constructor
      · rintro ⟨j, hj, e⟩; exact ⟨j, by omega, e⟩
      · rintro ⟨j, hj, e⟩
        by_cases e2 : j = m
        · subst e2
          simp only [Lib.keeps, decide_eq_true_eq, not_or, ne_eq, Decidable.not_not] at hk
          exact ⟨j - 1, by omega, by rw [← hk.2]; exact e⟩
        · exact ⟨j, by omega, e⟩
theorem sorted_vals (os : List Ord) (all : List Cfg) (k : Nat) : Lib.compact ((rawTo os all k).mergeSort fun x y => decide (x ≤ y)) = valTo os all k := by
  obtain ⟨l, hl⟩ : ∃ l, l = (rawTo os all k).mergeSort fun x y => decide (x ≤ y) := ⟨_, rfl⟩
  have hs : l.Pairwise (fun x y => decide (x ≤ y) = true) := by
    rw [hl]
    exact List.pairwise_mergeSort (fun a b c h1 h2 => by simp at *; omega) (fun a b => by simp; omega) _
  have hm : ∀ y, y ∈ l ↔ y ∈ rawTo os all k := fun y => by rw [hl]; exact List.mem_mergeSort
  rw [← hl]
  have hd : ∀ i j, i ≤ j → j < l.toArray.size → l.toArray[i]! ≤ l.toArray[j]! := fun i j h1 h2 => by
    have h2' : j < l.length := by simpa using h2
    rw [getElem!_pos l.toArray i (by simp; omega), getElem!_pos l.toArray j h2, List.getElem_toArray, List.getElem_toArray]
    rcases Nat.lt_or_eq_of_le h1 with h | h
    · have := List.pairwise_iff_getElem.1 hs i j (by omega) h2' h
      simpa using this
    · subst h; exact Int.le_refl _
  obtain ⟨c1, c2⟩ := compact_up l.toArray hd l.length (by simp)
  refine up_ext _ _ c1 (valTo_up os all k) fun y => ?_
  rw [valTo_mem, ← hm, Lib.compact, c2]
  constructor
  · rintro ⟨j, hj, rfl⟩
    rw [getElem!_pos l.toArray j (by simpa using hj), List.getElem_toArray]
    exact List.getElem_mem hj
  · intro h
    obtain ⟨j, hj, rfl⟩ := List.getElem_of_mem h
    exact ⟨j, hj, by rw [getElem!_pos l.toArray j (by simpa using hj), List.getElem_toArray]⟩
theorem haltValues_cnt (R : Int) (os : List Ord) (regs : List Int) (steps : Int) : cnt (dI (haltValuesS R os regs steps).1) ≤ 16777216 := by
  rw [cnt_dI]
  unfold haltValuesS
  split
  · rename_i ha
    split
    · obtain ⟨hv, hr, _⟩ := askRun_ok ha
      have := valTo_len os (rndTo os regs steps.toNat).1 (rndTo os regs steps.toNat).1.length
      have := (rndTo_ok hv hr steps.toNat).len
      simp only; omega
    · simp
  · simp
end Go.Proofs.Ytncndnholheemaa
