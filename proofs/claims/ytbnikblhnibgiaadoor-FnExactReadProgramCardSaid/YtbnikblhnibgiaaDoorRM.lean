/- A region that draws its order: a load may be taken first where only its last operations write the cell. No program is in sight. -/
import Derived.Test.YtbnikblhnibgiaaDoorG
import Derived.Deep.RegionHeld3
namespace Go.Proofs.YtbnikblhnibgiaaDoor
open Go.RowKit

section
variable {P : Program} {ops : Array Oper} {Q : Exit → Act → World → Prop} {md : Region.Mode} {S : World → Prop} {E : List Nat}

/-- Whatever order is picked from here on; S holds behind every operation but those in E. -/
def wpC (P : Program) (md : Region.Mode) (ops : Array Oper) (Q : Exit → Act → World → Prop) (S : World → Prop) (E : List Nat) : Nat → Array Bool → Act → World → Prop
  | 0, l, a, w => Region.ready md ops l = [] ∧ Q .normal a w
  | f + 1, l, a, w => (Region.ready md ops l = [] → Q .normal a w) ∧ ∀ i ∈ Region.ready md ops l, wpOp P ops Q i (fun a' w' => (i ∉ E → S w') ∧ wpC P md ops Q S E f (l.setIfInBounds i true) a' w') a w
theorem wpC_any : ∀ (f : Nat) (l : Array Bool) (a : Act) (w : World), wpC P md ops Q S E f l a w → wpAny P md ops Q f l a w
  | 0, _, _, _, h => h
  | f + 1, _, _, _, h => ⟨h.1, fun i hi => wpOp_mono (fun a' w' h' => wpC_any f _ a' w' h'.2) (h.2 i hi)⟩
/-- None of D has come up; each of them waits for i or for another one of D. -/
def blockedB (md : Region.Mode) (ops : Array Oper) (l : Array Bool) (i : Nat) (D : List Nat) : Bool :=
  D.all fun d => !l.getD d false && match ops[d]? with | some o => o.after.any (fun e => Region.binds md e && (e.on == i || D.contains e.on)) | none => true
theorem blocked_not {l : Array Bool} {i : Nat} {D : List Nat} (h : blockedB md ops l i D = true) (hi : l.getD i false = false) {d : Nat} (hd : d ∈ D) : d ∉ Region.ready md ops l := fun hr => by
  obtain ⟨_, o, ho, hall⟩ := mem_ready.1 hr
  have h1 := List.all_eq_true.1 h d hd
  rw [ho] at h1
  simp only [Bool.and_eq_true] at h1
  obtain ⟨e, he, hb⟩ := Array.any_eq_true'.1 h1.2
  simp only [Bool.and_eq_true, Bool.or_eq_true, beq_iff_eq] at hb
  have h2 := hall e he hb.1
  rcases hb.2 with h3 | h3
  · rw [h3, hi] at h2; cases h2
  · have h4 : e.on ∈ D := by simpa using h3
    have h5 := List.all_eq_true.1 h e.on h4
    simp only [Bool.and_eq_true, Bool.not_eq_true'] at h5
    rw [h5.1] at h2; cases h2
theorem blocked_set {l : Array Bool} {i j : Nat} {D : List Nat} (h : blockedB md ops l i D = true) (hj : j ∉ D) : blockedB md ops (l.setIfInBounds j true) i D = true := by
  refine List.all_eq_true.2 fun d hd => ?_
  have h1 := List.all_eq_true.1 h d hd
  rw [getD_set_ne false (show j ≠ d from fun e => hj (by rw [e]; exact hd))]
  exact h1
theorem ready_un {l : Array Bool} {i : Nat} (h : i ∈ Region.ready md ops l) : l.getD i false = false := by
  have h0 := (mem_ready.1 h).1
  rcases Nat.lt_or_ge i l.size with h' | h'
  · simp [h'] at h0 ⊢; exact h0
  · simp [Array.getElem?_eq_none h'] at h0
theorem wpC_first {i : Nat} {oi : Oper} {v : Value} {D : List Nat} (hi : ops[i]? = some oi) (hsel : ∀ (j : Nat) (o : Oper) cs b, ops[j]? = some o → o.op ≠ .select cs b)
    (hQ : ∀ c a w, Q (.panic c) (a.put oi.dst v) w → Q (.panic c) a w) (hE : ∀ e, e ∈ E → e ∈ D) :
    ∀ (f : Nat) (l : Array Bool) (a : Act) (w : World),
      (∀ j oj, ops[j]? = some oj → j ≠ i → l.getD j true = false → (∀ e ∈ oj.after, Region.binds md e = true → e.on ≠ i) → oi.apart ops oj = true) →
      i ∈ Region.ready md ops l → blockedB md ops l i D = true → YieldsIf P ops S oi v a → S w →
      wpC P md ops Q S E f (l.setIfInBounds i true) (a.put oi.dst v) w → wpC P md ops Q S E (f + 1) l a w := by
  intro f
  induction f with
  | zero =>
    intro l a w _ hr _ hy hS H
    refine ⟨fun h => (by rw [h] at hr; cases hr), fun j hj => ?_⟩
    by_cases e : j = i
    · subst e; exact hy.wpOp hi hS ⟨fun _ => hS, H⟩
    · have h9 := ready_mono hj e
      rw [H.1] at h9
      cases h9
  | succ f ih =>
    intro l a w hfree hr hB hy hS H
    refine ⟨fun h => (by rw [h] at hr; cases hr), fun j hj => ?_⟩
    by_cases e : j = i
    · subst e; exact hy.wpOp hi hS ⟨fun _ => hS, H⟩
    · have hun := ready_un hr
      have hjD : j ∉ D := fun h => blocked_not hB hun h hj
      have hjE : j ∉ E := fun h => hjD (hE j h)
      obtain ⟨hju, oj, hoj, hall⟩ := mem_ready.1 hj
      have hno : ∀ x ∈ oj.after, Region.binds md x = true → x.on ≠ i := fun x hx hb hxi => by
        have h1 := hall x hx hb
        rw [hxi, hun] at h1
        cases h1
      have h1 := H.2 j (ready_mono hj e)
      have h2 := wpOp_putIf hoj (hfree j oj hoj e hju hno) (fun cs b => hsel i oi cs b hi) (fun cs b => hsel j oj cs b hoj) hQ hy h1
      refine wpOp_mono (fun a' w' h3 => ⟨h3.2.1, ih (l.setIfInBounds j true) a' w' (fun k ok hk hki hku hkn => hfree k ok hk hki ?_ hkn) (ready_mono hr (Ne.symm e)) (blocked_set hB hjD) h3.1 (h3.2.1 hjE) ?_⟩) h2
      · by_cases hjk : j = k
        · subst hjk; exact hju
        · rw [getD_set_ne true hjk] at hku; exact hku
      · rw [Array.setIfInBounds_comm _ _ e]
        exact h3.2.2
/-- Number i is taken first. -/
theorem wpC_take {i : Nat} {oi : Oper} {v : Value} {f : Nat} {l l' : Array Bool} {a : Act} {w : World} (D : List Nat) (hi : ops[i]? = some oi) (hs : Region.noSelect ops = true) (hf : Region.free md ops l i = true) (hr : (Region.ready md ops l).contains i = true) (hB : blockedB md ops l i D = true) (hE : E.all D.contains = true)
    (hl : l.setIfInBounds i true = l') (hQ : ∀ c a w, Q (.panic c) (a.put oi.dst v) w → Q (.panic c) a w) (hw : Region.wanted oi (yielded ops a.tmps) = true) (hy : ∀ w', S w' → (execOp a.eval oi).run P w' = .ok (.value v) w') (hS : S w)
    (h : wpC P md ops Q S E f l' (a.put oi.dst v) w) : wpC P md ops Q S E (f + 1) l a w := by
  subst hl
  exact wpC_first hi (Region.noSelect_spec hs) hQ (fun e he => by have := List.all_eq_true.1 hE e he; simpa using this) f l a w (Region.free_spec hi hf) (by simpa using hr) hB (.inl ⟨hw, hy⟩) hS h
/-- Number i alone can come up. -/
theorem wpC_one {i : Nat} {o : Oper} {f : Nat} {l l' : Array Bool} {a : Act} {w : World} (hr : Region.ready md ops l = [i]) (ho : ops[i]? = some o) (hl : l.setIfInBounds i true = l') (hw : Region.wanted o (yielded ops a.tmps) = true)
    (h : ∀ K : Act → World → Prop, (∀ a' w', (i ∉ E → S w') → wpC P md ops Q S E f l' a' w' → K a' w') → if Region.wanted o (yielded ops a.tmps) = true then Oper.wp P o a w K Q else False) : wpC P md ops Q S E (f + 1) l a w := by
  subst hl
  refine ⟨fun h0 => (by rw [hr] at h0; cases h0), fun j hj => ?_⟩
  rw [hr] at hj
  have e : j = i := by simpa using hj
  subst e
  have h1 := h (fun a' w' => (j ∉ E → S w') ∧ wpC P md ops Q S E f (l.setIfInBounds j true) a' w') (fun a' w' h2 h3 => ⟨h2, h3⟩)
  rw [if_pos hw] at h1
  unfold wpOp
  simp only [ho, hw, if_true]
  exact .inl h1
/-- Two can come up. -/
theorem wpC_two {i j : Nat} {o p : Oper} {f : Nat} {l l' l'' : Array Bool} {a : Act} {w : World} (hr : Region.ready md ops l = [i, j]) (ho : ops[i]? = some o) (hp : ops[j]? = some p) (hl : l.setIfInBounds i true = l') (hl2 : l.setIfInBounds j true = l'') (hw : Region.wanted o (yielded ops a.tmps) = true) (hw2 : Region.wanted p (yielded ops a.tmps) = true)
    (h : ∀ K : Act → World → Prop, (∀ a' w', (i ∉ E → S w') → wpC P md ops Q S E f l' a' w' → K a' w') → if Region.wanted o (yielded ops a.tmps) = true then Oper.wp P o a w K Q else False)
    (h2 : ∀ K : Act → World → Prop, (∀ a' w', (j ∉ E → S w') → wpC P md ops Q S E f l'' a' w' → K a' w') → if Region.wanted p (yielded ops a.tmps) = true then Oper.wp P p a w K Q else False) : wpC P md ops Q S E (f + 1) l a w := by
  subst hl
  subst hl2
  refine ⟨fun h0 => (by rw [hr] at h0; cases h0), fun k hk => ?_⟩
  rw [hr] at hk
  have e : k = i ∨ k = j := by simpa using hk
  rcases e with e | e
  · subst e
    have h1 := h (fun a' w' => (k ∉ E → S w') ∧ wpC P md ops Q S E f (l.setIfInBounds k true) a' w') (fun a' w' h2 h3 => ⟨h2, h3⟩)
    rw [if_pos hw] at h1
    unfold wpOp
    simp only [ho, hw, if_true]
    exact .inl h1
  · subst e
    have h1 := h2 (fun a' w' => (k ∉ E → S w') ∧ wpC P md ops Q S E f (l.setIfInBounds k true) a' w') (fun a' w' h2 h3 => ⟨h2, h3⟩)
    rw [if_pos hw2] at h1
    unfold wpOp
    simp only [hp, hw2, if_true]
    exact .inl h1
/-- Three can come up. -/
theorem wpC_three {i j m : Nat} {o p q : Oper} {f : Nat} {l l1 l2 l3 : Array Bool} {a : Act} {w : World} (hr : Region.ready md ops l = [i, j, m]) (ho : ops[i]? = some o) (hp : ops[j]? = some p) (hq : ops[m]? = some q) (e1 : l.setIfInBounds i true = l1) (e2 : l.setIfInBounds j true = l2) (e3 : l.setIfInBounds m true = l3)
    (hw : Region.wanted o (yielded ops a.tmps) = true) (hw2 : Region.wanted p (yielded ops a.tmps) = true) (hw3 : Region.wanted q (yielded ops a.tmps) = true)
    (h : ∀ K : Act → World → Prop, (∀ a' w', (i ∉ E → S w') → wpC P md ops Q S E f l1 a' w' → K a' w') → if Region.wanted o (yielded ops a.tmps) = true then Oper.wp P o a w K Q else False)
    (h2 : ∀ K : Act → World → Prop, (∀ a' w', (j ∉ E → S w') → wpC P md ops Q S E f l2 a' w' → K a' w') → if Region.wanted p (yielded ops a.tmps) = true then Oper.wp P p a w K Q else False)
    (h3 : ∀ K : Act → World → Prop, (∀ a' w', (m ∉ E → S w') → wpC P md ops Q S E f l3 a' w' → K a' w') → if Region.wanted q (yielded ops a.tmps) = true then Oper.wp P q a w K Q else False) : wpC P md ops Q S E (f + 1) l a w := by
  subst e1
  subst e2
  subst e3
  refine ⟨fun h0 => (by rw [hr] at h0; cases h0), fun k hk => ?_⟩
  rw [hr] at hk
  have e : k = i ∨ k = j ∨ k = m := by simpa using hk
  rcases e with e | e | e
  · subst e
    have h1 := h (fun a' w' => (k ∉ E → S w') ∧ wpC P md ops Q S E f (l.setIfInBounds k true) a' w') (fun a' w' h2 h3 => ⟨h2, h3⟩)
    rw [if_pos hw] at h1
    unfold wpOp
    simp only [ho, hw, if_true]
    exact .inl h1
  · subst e
    have h1 := h2 (fun a' w' => (k ∉ E → S w') ∧ wpC P md ops Q S E f (l.setIfInBounds k true) a' w') (fun a' w' h2 h3 => ⟨h2, h3⟩)
    rw [if_pos hw2] at h1
    unfold wpOp
    simp only [hp, hw2, if_true]
    exact .inl h1
  · subst e
    have h1 := h3 (fun a' w' => (k ∉ E → S w') ∧ wpC P md ops Q S E f (l.setIfInBounds k true) a' w') (fun a' w' h2 h3 => ⟨h2, h3⟩)
    rw [if_pos hw3] at h1
    unfold wpOp
    simp only [hq, hw3, if_true]
    exact .inl h1
theorem wpC_done {l : Array Bool} {a : Act} {w : World} (hr : Region.ready md ops l = []) (h : Q .normal a w) : ∀ f, wpC P md ops Q S E f l a w
  | 0 => ⟨hr, h⟩
  | _ + 1 => ⟨fun _ => h, by rw [hr]; simp⟩
theorem wp_region_C {id : Nat} {a : Act} {w : World} {n : Nat} {l : Array Bool} (S : World → Prop) (E : List Nat) (hm : P.follows .mixedOrders = true) (hn : ops.size = n) (hl : Array.replicate n false = l)
    (h : wpC P .any ops Q S E n l a w.drew) : (Code.region id ops true).wp P Q a w := by
  subst hl
  subst hn
  exact wp_region_any hm (wpC_any _ _ _ _ h)
end
/-- A call that hands back one value, at a step of a region that draws its order. -/
theorem step_callV {P : Program} {ops : Array Oper} {o : Oper} {ac : Act} {w : World} {K : Act → World → Prop} {Q : Exit → Act → World → Prop} {X : Prop} (hgd : o.guard = none) (f : FuncId) (xs : Array Operand) (ts : Array TypeId)
    (ho : o.op = .call { callee := .value (.func f), args := xs, argTypes := ts }) (hrun : ∀ args w, (callFunc f args).run P w = .ok (.enter f args) w) (vs : Array Value) (hv : xs.map ac.eval = vs) {R : Ending → World → Prop}
    (h : Calls P f vs w R) (hK : ∀ e w', R e w' → ∃ v, e = .returned v ∧ K (ac.put o.dst v) w') : if Region.wanted o (yielded ops ac.tmps) = true then Oper.wp P o ac w K Q else X := by
  have hw : Region.wanted o (yielded ops ac.tmps) = true := by simp [Region.wanted, hgd]
  rw [if_pos hw]
  unfold Oper.wp execOp
  simp only [ho, resolve, Act.eval, Deferred.ofValue, Sem.run_bind, Sem.run_pure, Result.andThen_ok, invoke, Array.append_empty]
  rw [show xs.map (Act.eval ac) = vs from hv]
  simp only [Array.empty_append, hrun, Oper.upon_enter]
  refine h.mono fun e w' hR => ?_
  obtain ⟨v, he, hk⟩ := hK e w' hR
  subst he
  exact hk
end Go.Proofs.YtbnikblhnibgiaaDoor
