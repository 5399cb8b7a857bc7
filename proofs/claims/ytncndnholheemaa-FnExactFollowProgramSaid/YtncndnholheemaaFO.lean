/- What a cell does that follows a program: what it computes. No program is in sight. -/
import Derived.Test.YtncndnholheemaaMJ
import Derived.Test.YtncndnholheemaaNM
import Derived.Test.YtncndnholheemaaBS
namespace Go.Proofs.Ytncndnholheemaa
open Go.RowKit

/-- Which of an order's rules are used. -/
def offS (o : Ord) (mode : Int) (r : Int) : List Int := if o.op = 2 ∧ r = 0 then (if mode = 3 then [1, 2] else [1]) else [0]
/-- A choice of one rule. -/
def vecS (n i : Nat) : List Int := (List.replicate n 0).set i 1
def baseS (R : Nat) (os : List Ord) (mode : Int) (i : Nat) : Nat := (rulesTo R os mode (kindsN R os mode) i).length
def folC (R : Nat) (os : List Ord) (mode : Int) (c : Cfg) : List (List Int) := (offS (nthO os c.pc.toNat) mode (nth c.regs (nthO os c.pc.toNat).reg.toNat)).map fun k => vecS (rulesS R os mode).length (baseS R os mode c.pc.toNat + k.toNat)
def folL (R : Nat) (os : List Ord) (mode : Int) (cs : List Cfg) : List (List Int) := cs.flatMap (folC R os mode)
def followS (R : Int) (os : List Ord) (mode : Int) (regs : List Int) (steps : Int) : List (List Int) × Int :=
  if modeCodeS R os mode (regsOk R regs && inRg steps 0 200) = 0 then
    (if (runC os steps.toNat ⟨0, regs⟩).2 = 0 then (folL R.toNat os mode (runC os steps.toNat ⟨0, regs⟩).1.dropLast, 0) else ([], (runC os steps.toNat ⟨0, regs⟩).2))
  else ([], modeCodeS R os mode (regsOk R regs && inRg steps 0 200))
theorem folL_snoc (R : Nat) (os : List Ord) (mode : Int) (cs : List Cfg) (c : Cfg) : folL R os mode (cs ++ [c]) = folL R os mode cs ++ folC R os mode c := by simp [folL]
theorem offS_len (o : Ord) (mode : Int) (r : Int) : (offS o mode r).length ≤ 2 ∧ 1 ≤ (offS o mode r).length := by
  unfold offS
  split
  · split <;> simp
  · simp
theorem folC_len (R : Nat) (os : List Ord) (mode : Int) (c : Cfg) : (folC R os mode c).length ≤ 2 := by
  rw [folC, List.length_map]; exact (offS_len _ _ _).1
theorem folL_len (R : Nat) (os : List Ord) (mode : Int) : ∀ cs : List Cfg, (folL R os mode cs).length ≤ 2 * cs.length
  | [] => by simp [folL]
  | c :: cs => by
    have h1 := folL_len R os mode cs
    have h2 := folC_len R os mode c
    have e : folL R os mode (c :: cs) = folC R os mode c ++ folL R os mode cs := by simp [folL]
    rw [e, List.length_append, List.length_cons]; omega
theorem vecS_len (n i : Nat) : (vecS n i).length = n := by simp [vecS]
/-- How many rules an order has. -/
def ordLen (o : Ord) (mode : Int) : Nat := if o.op = 1 then (if o.els = o.to then 1 else 2) else if o.op = 2 then (if mode = 1 then 2 else if mode = 2 then 2 else 4) else 0
theorem ordRules_ordLen (R : Nat) (os : List Ord) (mode : Int) (K i : Nat) : (ordRules R os mode K i).length = ordLen (nthO os i) mode := by
  unfold ordRules ordLen
  split
  · split <;> simp
  · split
    · split
      · simp
      · split <;> simp
    · simp
theorem rulesTo_lens (R : Nat) (os os' : List Ord) (mode : Int) (K K' : Nat) : ∀ i, (∀ j, j < i → ordLen (nthO os j) mode = ordLen (nthO os' j) mode) → (rulesTo R os mode K i).length = (rulesTo R os' mode K' i).length
  | 0, _ => rfl
  | i + 1, h => by
    rw [rulesTo, rulesTo, List.length_append, List.length_append, ordRules_ordLen, ordRules_ordLen, h i (by omega), rulesTo_lens R os os' mode K K' i (fun j hj => h j (by omega))]
theorem rulesTo_mono (R : Nat) (os : List Ord) (mode : Int) (K : Nat) (i : Nat) : ∀ d, (rulesTo R os mode K i).length ≤ (rulesTo R os mode K (i + d)).length
  | 0 => Nat.le_refl _
  | d + 1 => by have := rulesTo_mono R os mode K i d; rw [← Nat.add_assoc, rulesTo, List.length_append]; omega
/-- A rule that is used is one of the rules. -/
theorem off_lt {R : Nat} {os : List Ord} {mode : Int} {i : Nat} (hi : i < os.length) (hop : (nthO os i).op = 1 ∨ (nthO os i).op = 2) (r : Int) (k : Int) (hk : k ∈ offS (nthO os i) mode r) : 0 ≤ k ∧ baseS R os mode i + k.toNat < (rulesS R os mode).length := by
  have h1 := ordRules_ordLen R os mode (kindsN R os mode) i
  have h2 : (rulesTo R os mode (kindsN R os mode) (i + 1)).length = baseS R os mode i + ordLen (nthO os i) mode := by rw [rulesTo, List.length_append, h1]; rfl
  have h3 := rulesTo_mono R os mode (kindsN R os mode) (i + 1) (os.length - (i + 1))
  rw [show i + 1 + (os.length - (i + 1)) = os.length by omega] at h3
  have h4 : (rulesTo R os mode (kindsN R os mode) os.length).length ≤ (rulesS R os mode).length := by rw [rulesS, List.length_append]; omega
  suffices h : 0 ≤ k ∧ k.toNat < ordLen (nthO os i) mode by omega
  unfold offS at hk
  unfold ordLen
  rcases hop with h | h
  · rw [if_neg (by omega)] at hk
    simp at hk; subst hk
    rw [if_pos h]
    split <;> simp
  · rw [if_neg (show ¬ (nthO os i).op = 1 by omega), if_pos h]
    split at hk
    · split at hk
      · rename_i h3
        simp at hk
        rw [if_neg (by omega), if_neg (by omega)]
        rcases hk with rfl | rfl <;> simp
      · simp at hk; subst hk
        repeat' split
        all_goals simp
    · simp at hk; subst hk
      repeat' split
      all_goals simp
/-- The program that halts from an order on. -/
def cutO (os : List Ord) (at_ : Nat) : List Ord := os.take at_ ++ List.replicate (os.length - at_) ⟨3, 0, 0, 0⟩
theorem cutO_len {os : List Ord} {at_ : Nat} (h : at_ ≤ os.length) : (cutO os at_).length = os.length := by simp [cutO]; omega
theorem cutO_nth {os : List Ord} {at_ : Nat} (h : at_ ≤ os.length) {i : Nat} (hi : i < os.length) : nthO (cutO os at_) i = if i < at_ then nthO os i else ⟨3, 0, 0, 0⟩ := by
  rw [nthO_lt (by rw [cutO_len h]; exact hi)]
  unfold cutO
  split
  · rename_i h2
    rw [List.getElem_append_left (by simp; omega), List.getElem_take, nthO_lt hi]
  · rw [List.getElem_append_right (by simp; omega), List.getElem_replicate]
theorem cutO_ok {R : Nat} {os : List Ord} (h : PgOk R os) {at_ : Nat} (ha : at_ ≤ os.length) : PgOk R (cutO os at_) := by
  refine ⟨h.r1, h.r3, by rw [cutO_len ha]; exact h.n1, by rw [cutO_len ha]; exact h.n6, fun i hi => ?_⟩
  rw [cutO_len ha] at hi ⊢
  rw [cutO_nth ha hi]
  split
  · exact h.ord i hi
  · rfl
theorem cutO_rules (R : Nat) {os : List Ord} {mode : Int} {at_ : Nat} (ha : at_ ≤ os.length) : (rulesS R (cutO os at_) mode).length = baseS R os mode at_ + if mode = 3 then 1 else 0 := by
  rw [rulesS, List.length_append, cutO_len ha]
  have h1 : (rulesTo R (cutO os at_) mode (kindsN R (cutO os at_) mode) at_).length = baseS R os mode at_ := rulesTo_lens R _ _ mode _ _ at_ (fun j hj => by rw [cutO_nth ha (by omega), if_pos hj])
  have h2 : ∀ d, at_ + d ≤ os.length → (rulesTo R (cutO os at_) mode (kindsN R (cutO os at_) mode) (at_ + d)).length = baseS R os mode at_ := by
    intro d
    induction d with
    | zero => intro _; exact h1
    | succ d ih =>
      intro hd
      rw [← Nat.add_assoc, rulesTo, List.length_append, ordRules_ordLen, ih (by omega), cutO_nth ha (by omega), if_neg (by omega)]
      simp [ordLen]
  have h3 := h2 (os.length - at_) (by omega)
  rw [show at_ + (os.length - at_) = os.length by omega] at h3
  rw [h3]
  split <;> simp
theorem cutO_step {os : List Ord} {at_ : Nat} {q : List Ord} {i : Nat} (ha : at_ ≤ os.length) (hi : i < os.length) (hai : at_ ≤ i) (hq : q.length = os.length) (h : ∀ j, j < i → nthO q j = nthO (cutO os at_) j) : ∀ j, j < i + 1 → nthO (q.set i ⟨3, 0, 0, 0⟩) j = nthO (cutO os at_) j := by
  intro j hj
  by_cases e : j = i
  · subst e
    rw [nthO_lt (by simp; omega), cutO_nth ha hi, if_neg (by omega)]; simp
  · have := h j (by omega)
    rw [← this, nthO_lt (by simp; omega), nthO_lt (by omega), List.getElem_set_ne (by omega)]
theorem nthO_ext {q r : List Ord} (hl : q.length = r.length) (h : ∀ j, j < q.length → nthO q j = nthO r j) : q = r := by
  apply List.ext_getElem hl
  intro i h1 h2
  rw [← nthO_lt h1, ← nthO_lt h2]; exact h i h1
/-- The configs that a run leaves behind. -/
theorem runC_split (os : List Ord) {n k : Nat} {c cur : Cfg} {cs : List Cfg} (h : (runC os n c).1 = cs ++ (runC os (k + 1) cur).1) (h2 : (runC os n c).2 = (runC os (k + 1) cur).2) (hh : haltS os cur.pc = false) (hc : choice (nthO os cur.pc.toNat) = false) (h0 : (nextS os cur.pc cur.regs).2 = 0) :
    (runC os n c).1 = (cs ++ [cur]) ++ (runC os k (firstS os cur)).1 ∧ (runC os n c).2 = (runC os k (firstS os cur)).2 := by
  have e : runC os (k + 1) cur = (cur :: (runC os k (firstS os cur)).1, (runC os k (firstS os cur)).2) := by simp [runC, hh, hc, h0]
  rw [h, h2, e]; simp
theorem runC_end (os : List Ord) (k : Nat) (cur : Cfg) (h : k = 0 ∨ haltS os cur.pc = true) : runC os k cur = ([cur], 0) := by
  cases k with
  | zero => rfl
  | succ k =>
    rcases h with h | h
    · omega
    · simp [runC, h]
theorem vecS_cnt (n i : Nat) : cnt (dI (vecS n i)) = n := by rw [cnt_dI, vecS_len]
theorem follow_cnt (R : Int) (os : List Ord) (mode : Int) (regs : List Int) (steps : Int) : cnt (dII (followS R os mode regs steps).1) ≤ 16777216 := by
  unfold followS
  split
  · rename_i hm
    split
    · obtain ⟨K, rfl, hpg, _, _, hr, _, hrl⟩ := modeCode_zero hm
      have hs : inRg steps 0 200 = true := by simp only [Bool.and_eq_true] at hr; exact hr.2
      simp only [inRg, Bool.and_eq_true, decide_eq_true_eq] at hs
      have h1 := runC_len os steps.toNat ⟨0, regs⟩
      have h2 := folL_len (K : Int).toNat os mode (runC os steps.toNat ⟨0, regs⟩).1.dropLast
      rw [List.length_dropLast] at h2
      have hx : ∀ x, x ∈ folL (K : Int).toNat os mode (runC os steps.toNat ⟨0, regs⟩).1.dropLast → x.length ≤ 25 := fun x hx => ?_
      · have h3 := cntL_lists _ hx
        have h4 : (folL (K : Int).toNat os mode (runC os steps.toNat ⟨0, regs⟩).1.dropLast).length * 25 ≤ 1000 * 25 := Nat.mul_le_mul (by omega) (Nat.le_refl _)
        show cntL ((folL (K : Int).toNat os mode (runC os steps.toNat ⟨0, regs⟩).1.dropLast).map dI) ≤ _
        omega
      simp only [folL, List.mem_flatMap, folC, List.mem_map] at hx
      obtain ⟨c, _, k, _, rfl⟩ := hx
      rw [vecS_len]
      have := rulesS_len (K : Int).toNat os mode
      have := hpg.n6
      omega
    · simp [dII, cnt, cntL]
  · simp [dII, cnt, cntL]
end Go.Proofs.Ytncndnholheemaa
