/- Numbers of one digit as text: contracts. -/
import Derived.Test.YtbnikblhnibgiaaGreatDoorZ1
import Derived.Laws.Concat
import Derived.Laws.Strings
import Derived.Laws.IdiomStrings
import Derived.Deep.RegionHeld3
import Derived.Test.YtbnikblhnibgiaaGreatDoorZ2
import Derived.Lib.ItoaNum
import Derived.Test.YtbnikblhnibgiaaGreatDoorZ8
import Derived.Lib.AppendIntMem
import Derived.Lib.SmallJoins
import Derived.Lib.Join
import Derived.Test.YtbnikblhnibgiaaGreatDoorZ7
import Derived.ShapedOpen
import Derived.HandedShaped
import Derived.Lib.Strings
import Derived.Test.YtbnikblhnibgiaaGreatDoorZ3
namespace Go.Proofs.YtbnikblhnibgiaaGreatDoor
open Go.RowKit

/-- The text of a number of one digit. -/
def decL (i : Nat) : List UInt8 := [UInt8.ofNat (48 + i)]
theorem dig_cases {i : Nat} (h : i < 10) : i = 0 ∨ i = 1 ∨ i = 2 ∨ i = 3 ∨ i = 4 ∨ i = 5 ∨ i = 6 ∨ i = 7 ∨ i = 8 ∨ i = 9 := by omega
set_option maxRecDepth 100000 in
theorem small_c (i : Nat) (hi : i < 10) (w : World) : Calls Tryz.prog 90 #[.int .i64 i] w (RetP w (.string ⟨(decL i).toArray⟩)) := by
  rcases dig_cases hi with rfl | rfl | rfl | rfl | rfl | rfl | rfl | rfl | rfl | rfl
  all_goals
    clear hi
    go_enter Tryz.func90, Tryz.ntmps90
    go_wp2
    go_ret
    exact ⟨rfl, rfl⟩
set_option maxRecDepth 100000 in
theorem formatIn_c (i : Nat) (hi : i < 10) (w : World) : Calls Tryz.prog 74 #[.int .i64 i, .int .i64 10] w (RetP w (.string ⟨(decL i).toArray⟩)) := by
  have h1 : (0 : Int) ≤ i := by omega
  have h2 : (i : Int) < 100 := by omega
  go_enter Tryz.func74, Tryz.ntmps74
  go_wp2_with fail
  refine (small_c i hi w).mono ?_
  rintro e w' ⟨rfl, rfl⟩
  go_wp2
  go_ret
  exact ⟨rfl, rfl⟩
theorem formatInt_c (i : Nat) (hi : i < 10) (w : World) : Calls Tryz.prog 52 #[.int .i64 i, .int .i64 10] w (RetP w (.string ⟨(decL i).toArray⟩)) := by
  go_enter Tryz.func52, Tryz.ntmps52
  go_wp2_with fail
  refine (formatIn_c i hi w).mono ?_
  rintro e w' ⟨rfl, rfl⟩
  go_wp2
  go_ret
  exact ⟨rfl, rfl⟩
theorem decimal_c (i : Nat) (hi : i < 10) (w : World) : Calls Tryz.prog 26 #[.int .i64 i] w (RetP w (.string ⟨(decL i).toArray⟩)) := by
  go_enter Tryz.func26, Tryz.ntmps26
  go_wp2_with fail
  refine (formatInt_c i hi w).mono ?_
  rintro e w' ⟨rfl, rfl⟩
  go_wp2
  go_ret
  exact ⟨rfl, rfl⟩
end Go.Proofs.YtbnikblhnibgiaaGreatDoor

/- A region that draws its order: a load may be taken first where only its last operations write the cell. No program is in sight. -/
namespace Go.Proofs.YtbnikblhnibgiaaGreatDoor
open Go.RowKit

section
variable {P : Program} {ops : Array Oper} {Q : Exit → Act → World → Prop} {md : Region.Mode} {S : World → Prop} {E : List Nat}

/-- Whatever order is picked from here on; S holds behind every operation but those in E. -/
def wpC (P : Program) (md : Region.Mode) (ops : Array Oper) (Q : Exit → Act → World → Prop) (S : World → Prop) (E : List Nat) : Nat → Array Bool → Act → World → Prop
  | 0, l, a, w => Region.ready md ops l = [] ∧ Q .normal a w
  | f + 1, l, a, w => (Region.ready md ops l = [] → Q .normal a w) ∧ ∀ i ∈ Region.ready md ops l, wpOp P ops Q i (fun a' w' => (i ∉ E → S w') ∧ wpC P md ops Q S E f (l.setIfInBounds i true) a' w') a w
theorem wpC_any : ∀ (f : Nat) (l : Array Bool) (a : Act) (w : World), wpC P md ops Q S E f l a w → wpAny P md ops Q f l a w
  | 0, _, _, _, h => h
  | f + 1, _, _, _, h => ⟨h.1, fun i hi => wpOp_mono (fun a' w' h' => wpC_any f _ a' w' h'.2) (h.2 i hi)⟩
/-- None of D has come up; each of them waits for i or for another one of D. -/
def blockedB (md : Region.Mode) (ops : Array Oper) (l : Array Bool) (i : Nat) (D : List Nat) : Bool :=
  D.all fun d => !l.getD d false && match ops[d]? with | some o => o.after.any (fun e => Region.binds md e && (e.on == i || D.contains e.on)) | none => true
theorem blocked_not {l : Array Bool} {i : Nat} {D : List Nat} (h : blockedB md ops l i D = true) (hi : l.getD i false = false) {d : Nat} (hd : d ∈ D) : d ∉ Region.ready md ops l := fun hr => by
  obtain ⟨_, o, ho, hall⟩ := mem_ready.1 hr
  have h1 := List.all_eq_true.1 h d hd
  rw [ho] at h1
  simp only [Bool.and_eq_true] at h1
  obtain ⟨e, he, hb⟩ := Array.any_eq_true'.1 h1.2
  simp only [Bool.and_eq_true, Bool.or_eq_true, beq_iff_eq] at hb
  have h2 := hall e he hb.1
  rcases hb.2 with h3 | h3
  · rw [h3, hi] at h2; cases h2
  · have h4 : e.on ∈ D := by simpa using h3
    have h5 := List.all_eq_true.1 h e.on h4
    simp only [Bool.and_eq_true, Bool.not_eq_true'] at h5
    rw [h5.1] at h2; cases h2
theorem blocked_set {l : Array Bool} {i j : Nat} {D : List Nat} (h : blockedB md ops l i D = true) (hj : j ∉ D) : blockedB md ops (l.setIfInBounds j true) i D = true := by
  refine List.all_eq_true.2 fun d hd => ?_
  have h1 := List.all_eq_true.1 h d hd
  rw [getD_set_ne false (show j ≠ d from fun e => hj (by rw [e]; exact hd))]
  exact h1
theorem ready_un {l : Array Bool} {i : Nat} (h : i ∈ Region.ready md ops l) : l.getD i false = false := by
  have h0 := (mem_ready.1 h).1
  rcases Nat.lt_or_ge i l.size with h' | h'
  · simp [h'] at h0 ⊢; exact h0
  · simp [Array.getElem?_eq_none h'] at h0
theorem wpC_first {i : Nat} {oi : Oper} {v : Value} {D : List Nat} (hi : ops[i]? = some oi) (hsel : ∀ (j : Nat) (o : Oper) cs b, ops[j]? = some o → o.op ≠ .select cs b)
    (hQ : ∀ c a w, Q (.panic c) (a.put oi.dst v) w → Q (.panic c) a w) (hE : ∀ e, e ∈ E → e ∈ D) :
    ∀ (f : Nat) (l : Array Bool) (a : Act) (w : World),
      (∀ j oj, ops[j]? = some oj → j ≠ i → l.getD j true = false → (∀ e ∈ oj.after, Region.binds md e = true → e.on ≠ i) → oi.apart ops oj = true) →
      i ∈ Region.ready md ops l → blockedB md ops l i D = true → YieldsIf P ops S oi v a → S w →
      wpC P md ops Q S E f (l.setIfInBounds i true) (a.put oi.dst v) w → wpC P md ops Q S E (f + 1) l a w := by
  intro f
  induction f with
  | zero =>
    intro l a w _ hr _ hy hS H
    refine ⟨fun h => (by rw [h] at hr; cases hr), fun j hj => ?_⟩
    by_cases e : j = i
    · subst e; exact hy.wpOp hi hS ⟨fun _ => hS, H⟩
    · have h9 := ready_mono hj e
      rw [H.1] at h9
      cases h9
  | succ f ih =>
    intro l a w hfree hr hB hy hS H
    refine ⟨fun h => (by rw [h] at hr; cases hr), fun j hj => ?_⟩
    by_cases e : j = i
    · subst e; exact hy.wpOp hi hS ⟨fun _ => hS, H⟩
    · have hun := ready_un hr
      have hjD : j ∉ D := fun h => blocked_not hB hun h hj
      have hjE : j ∉ E := fun h => hjD (hE j h)
      obtain ⟨hju, oj, hoj, hall⟩ := mem_ready.1 hj
      have hno : ∀ x ∈ oj.after, Region.binds md x = true → x.on ≠ i := fun x hx hb hxi => by
        have h1 := hall x hx hb
        rw [hxi, hun] at h1
        cases h1
      have h1 := H.2 j (ready_mono hj e)
      have h2 := wpOp_putIf hoj (hfree j oj hoj e hju hno) (fun cs b => hsel i oi cs b hi) (fun cs b => hsel j oj cs b hoj) hQ hy h1
      refine wpOp_mono (fun a' w' h3 => ⟨h3.2.1, ih (l.setIfInBounds j true) a' w' (fun k ok hk hki hku hkn => hfree k ok hk hki ?_ hkn) (ready_mono hr (Ne.symm e)) (blocked_set hB hjD) h3.1 (h3.2.1 hjE) ?_⟩) h2
      · by_cases hjk : j = k
        · subst hjk; exact hju
        · rw [getD_set_ne true hjk] at hku; exact hku
      · rw [Array.setIfInBounds_comm _ _ e]
        exact h3.2.2
/-- Number i is taken first. -/
theorem wpC_take {i : Nat} {oi : Oper} {v : Value} {f : Nat} {l l' : Array Bool} {a : Act} {w : World} (D : List Nat) (hi : ops[i]? = some oi) (hs : Region.noSelect ops = true) (hf : Region.free md ops l i = true) (hr : (Region.ready md ops l).contains i = true) (hB : blockedB md ops l i D = true) (hE : E.all D.contains = true)
    (hl : l.setIfInBounds i true = l') (hQ : ∀ c a w, Q (.panic c) (a.put oi.dst v) w → Q (.panic c) a w) (hw : Region.wanted oi (yielded ops a.tmps) = true) (hy : ∀ w', S w' → (execOp a.eval oi).run P w' = .ok (.value v) w') (hS : S w)
    (h : wpC P md ops Q S E f l' (a.put oi.dst v) w) : wpC P md ops Q S E (f + 1) l a w := by
  subst hl
  exact wpC_first hi (Region.noSelect_spec hs) hQ (fun e he => by have := List.all_eq_true.1 hE e he; simpa using this) f l a w (Region.free_spec hi hf) (by simpa using hr) hB (.inl ⟨hw, hy⟩) hS h
/-- Number i alone can come up. -/
theorem wpC_one {i : Nat} {o : Oper} {f : Nat} {l l' : Array Bool} {a : Act} {w : World} (hr : Region.ready md ops l = [i]) (ho : ops[i]? = some o) (hl : l.setIfInBounds i true = l') (hw : Region.wanted o (yielded ops a.tmps) = true)
    (h : ∀ K : Act → World → Prop, (∀ a' w', (i ∉ E → S w') → wpC P md ops Q S E f l' a' w' → K a' w') → if Region.wanted o (yielded ops a.tmps) = true then Oper.wp P o a w K Q else False) : wpC P md ops Q S E (f + 1) l a w := by
  subst hl
  refine ⟨fun h0 => (by rw [hr] at h0; cases h0), fun j hj => ?_⟩
  rw [hr] at hj
  have e : j = i := by simpa using hj
  subst e
  have h1 := h (fun a' w' => (j ∉ E → S w') ∧ wpC P md ops Q S E f (l.setIfInBounds j true) a' w') (fun a' w' h2 h3 => ⟨h2, h3⟩)
  rw [if_pos hw] at h1
  unfold wpOp
  simp only [ho, hw, if_true]
  exact .inl h1
/-- Two can come up. -/
theorem wpC_two {i j : Nat} {o p : Oper} {f : Nat} {l l' l'' : Array Bool} {a : Act} {w : World} (hr : Region.ready md ops l = [i, j]) (ho : ops[i]? = some o) (hp : ops[j]? = some p) (hl : l.setIfInBounds i true = l') (hl2 : l.setIfInBounds j true = l'') (hw : Region.wanted o (yielded ops a.tmps) = true) (hw2 : Region.wanted p (yielded ops a.tmps) = true)
    (h : ∀ K : Act → World → Prop, (∀ a' w', (i ∉ E → S w') → wpC P md ops Q S E f l' a' w' → K a' w') → if Region.wanted o (yielded ops a.tmps) = true then Oper.wp P o a w K Q else False)
    (h2 : ∀ K : Act → World → Prop, (∀ a' w', (j ∉ E → S w') → wpC P md ops Q S E f l'' a' w' → K a' w') → if Region.wanted p (yielded ops a.tmps) = true then Oper.wp P p a w K Q else False) : wpC P md ops Q S E (f + 1) l a w := by
  subst hl
  subst hl2
  refine ⟨fun h0 => (by rw [hr] at h0; cases h0), fun k hk => ?_⟩
  rw [hr] at hk
  have e : k = i ∨ k = j := by simpa using hk
  rcases e with e | e
  · subst e
    have h1 := h (fun a' w' => (k ∉ E → S w') ∧ wpC P md ops Q S E f (l.setIfInBounds k true) a' w') (fun a' w' h2 h3 => ⟨h2, h3⟩)
    rw [if_pos hw] at h1
    unfold wpOp
    simp only [ho, hw, if_true]
    exact .inl h1
  · subst e
    have h1 := h2 (fun a' w' => (k ∉ E → S w') ∧ wpC P md ops Q S E f (l.setIfInBounds k true) a' w') (fun a' w' h2 h3 => ⟨h2, h3⟩)
    rw [if_pos hw2] at h1
    unfold wpOp
    simp only [hp, hw2, if_true]
    exact .inl h1
/-- Three can come up. -/
theorem wpC_three {i j m : Nat} {o p q : Oper} {f : Nat} {l l1 l2 l3 : Array Bool} {a : Act} {w : World} (hr : Region.ready md ops l = [i, j, m]) (ho : ops[i]? = some o) (hp : ops[j]? = some p) (hq : ops[m]? = some q) (e1 : l.setIfInBounds i true = l1) (e2 : l.setIfInBounds j true = l2) (e3 : l.setIfInBounds m true = l3)
    (hw : Region.wanted o (yielded ops a.tmps) = true) (hw2 : Region.wanted p (yielded ops a.tmps) = true) (hw3 : Region.wanted q (yielded ops a.tmps) = true)
    (h : ∀ K : Act → World → Prop, (∀ a' w', (i ∉ E → S w') → wpC P md ops Q S E f l1 a' w' → K a' w') → if Region.wanted o (yielded ops a.tmps) = true then Oper.wp P o a w K Q else False)
    (h2 : ∀ K : Act → World → Prop, (∀ a' w', (j ∉ E → S w') → wpC P md ops Q S E f l2 a' w' → K a' w') → if Region.wanted p (yielded ops a.tmps) = true then Oper.wp P p a w K Q else False)
    (h3 : ∀ K : Act → World → Prop, (∀ a' w', (m ∉ E → S w') → wpC P md ops Q S E f l3 a' w' → K a' w') → if Region.wanted q (yielded ops a.tmps) = true then Oper.wp P q a w K Q else False) : wpC P md ops Q S E (f + 1) l a w := by
  subst e1
  subst e2
  subst e3
  refine ⟨fun h0 => (by rw [hr] at h0; cases h0), fun k hk => ?_⟩
  rw [hr] at hk
  have e : k = i ∨ k = j ∨ k = m := by simpa using hk
  rcases e with e | e | e
  · subst e
    have h1 := h (fun a' w' => (k ∉ E → S w') ∧ wpC P md ops Q S E f (l.setIfInBounds k true) a' w') (fun a' w' h2 h3 => ⟨h2, h3⟩)
    rw [if_pos hw] at h1
    unfold wpOp
    simp only [ho, hw, if_true]
    exact .inl h1
  · subst e
    have h1 := h2 (fun a' w' => (k ∉ E → S w') ∧ wpC P md ops Q S E f (l.setIfInBounds k true) a' w') (fun a' w' h2 h3 => ⟨h2, h3⟩)
    rw [if_pos hw2] at h1
    unfold wpOp
    simp only [hp, hw2, if_true]
    exact .inl h1
  · subst e
    have h1 := h3 (fun a' w' => (k ∉ E → S w') ∧ wpC P md ops Q S E f (l.setIfInBounds k true) a' w') (fun a' w' h2 h3 => ⟨h2, h3⟩)
    rw [if_pos hw3] at h1
    unfold wpOp
    simp only [hq, hw3, if_true]
    exact .inl h1
theorem wpC_done {l : Array Bool} {a : Act} {w : World} (hr : Region.ready md ops l = []) (h : Q .normal a w) : ∀ f, wpC P md ops Q S E f l a w
  | 0 => ⟨hr, h⟩
  | _ + 1 => ⟨fun _ => h, by rw [hr]; simp⟩
theorem wp_region_C {id : Nat} {a : Act} {w : World} {n : Nat} {l : Array Bool} (S : World → Prop) (E : List Nat) (hm : P.follows .mixedOrders = true) (hn : ops.size = n) (hl : Array.replicate n false = l)
    (h : wpC P .any ops Q S E n l a w.drew) : (Code.region id ops true).wp P Q a w := by
  subst hl
  subst hn
  exact wp_region_any hm (wpC_any _ _ _ _ h)
end
/-- A call that hands back one value, at a step of a region that draws its order. -/
theorem step_callV {P : Program} {ops : Array Oper} {o : Oper} {ac : Act} {w : World} {K : Act → World → Prop} {Q : Exit → Act → World → Prop} {X : Prop} (hgd : o.guard = none) (f : FuncId) (xs : Array Operand) (ts : Array TypeId)
    (ho : o.op = .call { callee := .value (.func f), args := xs, argTypes := ts }) (hrun : ∀ args w, (callFunc f args).run P w = .ok (.enter f args) w) (vs : Array Value) (hv : xs.map ac.eval = vs) {R : Ending → World → Prop}
    (h : Calls P f vs w R) (hK : ∀ e w', R e w' → ∃ v, e = .returned v ∧ K (ac.put o.dst v) w') : if Region.wanted o (yielded ops ac.tmps) = true then Oper.wp P o ac w K Q else X := by
  have hw : Region.wanted o (yielded ops ac.tmps) = true := by simp [Region.wanted, hgd]
  rw [if_pos hw]
  unfold Oper.wp execOp
  simp only [ho, resolve, Act.eval, Deferred.ofValue, Sem.run_bind, Sem.run_pure, Result.andThen_ok, invoke, Array.append_empty]
  rw [show xs.map (Act.eval ac) = vs from hv]
  simp only [Array.empty_append, hrun, Oper.upon_enter]
  refine h.mono fun e w' hR => ?_
  obtain ⟨v, he, hk⟩ := hK e w' hR
  subst he
  exact hk
end Go.Proofs.YtbnikblhnibgiaaGreatDoor

/- Numbers of up to four digits as text: the reference's contract. Written by mkte.py. -/
namespace Go.Proofs.YtbnikblhnibgiaaGreatDoor
open Go.RowKit

theorem decL_digits {i : Nat} (h : i < 10) : Lib.decDigits i = decL i := by rw [Lib.decDigits, dif_pos h]; rfl
theorem digits_more {i : Nat} (h : ¬ i < 10) : Lib.decDigits i = Lib.decDigits (i / 10) ++ [UInt8.ofNat (48 + i % 10)] := by rw [Lib.decDigits, dif_neg h]
theorem digits_len {i : Nat} (h : i < 10000) : (Lib.decDigits i).length ≤ 4 ∧ 1 ≤ (Lib.decDigits i).length := by
  have l1 : ∀ i, i < 10 → (Lib.decDigits i).length = 1 := fun i h => by rw [decL_digits h]; rfl
  have l2 : ∀ i, i < 100 → (Lib.decDigits i).length ≤ 2 ∧ 1 ≤ (Lib.decDigits i).length := fun i h => by
    by_cases e : i < 10
    · have := l1 i e; omega
    · have := l1 (i / 10) (by omega); rw [digits_more e]; simp; omega
  have l3 : ∀ i, i < 1000 → (Lib.decDigits i).length ≤ 3 ∧ 1 ≤ (Lib.decDigits i).length := fun i h => by
    by_cases e : i < 10
    · have := l1 i e; omega
    · have := l2 (i / 10) (by omega); rw [digits_more e]; simp; omega
  by_cases e : i < 10
  · have := l1 i e; omega
  · have := l3 (i / 10) (by omega); rw [digits_more e]; simp; omega
/-- The text of a number, as bytes. -/
def decN (i : Nat) : ByteArray := ⟨(Lib.decDigits i).toArray⟩
theorem decN_size {i : Nat} (h : i < 10000) : (decN i).size ≤ 4 ∧ 1 ≤ (decN i).size := digits_len h
theorem decN_one {i : Nat} (h : i < 10) : decN i = ⟨(decL i).toArray⟩ := by rw [decN, decL_digits h]
theorem decN_more {i : Nat} (h : ¬ i < 10) : decN i = decN (i / 10) ++ ⟨#[UInt8.ofNat (48 + i % 10)]⟩ := by
  rw [decN, digits_more h, decN, ← ByteArray.mk_append_mk]
theorem conv1 (d : Nat) (hd : d < 10) (g : Nat) (wx : World) (h : wx.cell? ⟨g, 0, none⟩ = some (.int .u8 (48 + (d : Int)))) : (convert 22 9 (.slice (some ⟨g, 0, none⟩) 1 1)).run Tryz.prog wx = .ok (.string ⟨#[UInt8.ofNat (48 + d)]⟩) wx :=
  run_convert_bytes_back (P := Tryz.prog) wx 22 9 5 ⟨g, 0, none⟩ 1 [UInt8.ofNat (48 + d)] Tryz.underlying22 Tryz.underlying5 Tryz.underlying9 (fun j hj => by
    have : j = 0 := by simp at hj; omega
    subst this
    rw [show (⟨g, 0, none⟩ : Addr).add 0 = ⟨g, 0, none⟩ from rfl, h]
    simp; omega)
end Go.Proofs.YtbnikblhnibgiaaGreatDoor

/- The text of a bag: what it is; the reference's functions. -/
namespace Go.Proofs.YtbnikblhnibgiaaGreatDoor
open Go.RowKit

/-- The text of so many objects of a kind. -/
def wordT (k : Nat) (m : Nat) : ByteArray := ⟨#[UInt8.ofNat (97 + k)]⟩ ++ (if 1 < m then decN m else ⟨#[]⟩)
theorem wordT_size {k m : Nat} (h : m < 10000) : (wordT k m).size ≤ 5 ∧ 1 ≤ (wordT k m).size := by
  have h1 : (ByteArray.mk #[UInt8.ofNat (97 + k)]).size = 1 := rfl
  have h2 : (ByteArray.mk #[]).size = 0 := rfl
  have h3 := decN_size h
  unfold wordT
  rw [ByteArray.size_append, h1]
  split <;> omega
/-- The text of the first k kinds, as it grows. -/
def outT (b : List Int) : Nat → ByteArray
  | 0 => ⟨#[]⟩
  | k + 1 => if nth b k = 0 then outT b k else (if (outT b k).size = 0 then wordT k (nth b k).toNat else outT b k ++ (⟨#[32]⟩ ++ wordT k (nth b k).toNat))
def bagTextT (b : List Int) : ByteArray := if (outT b b.length).size = 0 then ⟨#[45]⟩ else outT b b.length
def bagT (b : List Int) : ByteArray := if isBagS b = true then bagTextT b else ⟨#[]⟩
theorem outT_size {b : List Int} (h : ∀ j, nth b j ≤ 1000) : ∀ k, (outT b k).size ≤ 6 * k
  | 0 => Nat.le_refl 0
  | k + 1 => by
    have h1 := outT_size h k
    have h2 := (wordT_size (k := k) (m := (nth b k).toNat) (by have := h k; omega)).1
    have h3 : (ByteArray.mk #[32]).size = 1 := rfl
    unfold outT
    split
    · omega
    · split
      · omega
      · rw [ByteArray.size_append, ByteArray.size_append, h3]; omega
theorem empty_of_size {b : ByteArray} (h : b.size = 0) : b = ⟨#[]⟩ := by
  apply ByteArray.ext
  exact Array.eq_empty_of_size_eq_zero h
theorem append_nil (b : ByteArray) : b ++ ⟨#[]⟩ = b := by
  apply ByteArray.ext
  simp [ByteArray.data_append]
theorem nil_append (b : ByteArray) : ⟨#[]⟩ ++ b = b := by
  apply ByteArray.ext
  simp [ByteArray.data_append]
theorem toList_nil {b : ByteArray} (h : b.size = 0) : b.toList = [] := by rw [empty_of_size h, ByteArray.toList_eq]
theorem toList_ne {b : ByteArray} (h : b.size ≠ 0) : b.toList ≠ [] := by
  rw [ByteArray.toList_eq]
  intro e
  apply h
  have : b.data.toList.length = 0 := by rw [e]; rfl
  simpa using this
theorem ret_strB {a b : ByteArray} (h : a = b) : Ending.returned (.string a) = .returned (.string b) := by rw [h]
theorem convK (k : Nat) (hk : k < 100) (g : Nat) (wx : World) (h : wx.cell? ⟨g, 0, none⟩ = some (.int .u8 (97 + (k : Int)))) : (convert 22 9 (.slice (some ⟨g, 0, none⟩) 1 1)).run Tryz.prog wx = .ok (.string ⟨#[UInt8.ofNat (97 + k)]⟩) wx :=
  run_convert_bytes_back (P := Tryz.prog) wx 22 9 5 ⟨g, 0, none⟩ 1 [UInt8.ofNat (97 + k)] Tryz.underlying22 Tryz.underlying5 Tryz.underlying9 (fun j hj => by
    have : j = 0 := by simp at hj; omega
    subst this
    rw [show (⟨g, 0, none⟩ : Addr).add 0 = ⟨g, 0, none⟩ from rfl, h]
    simp; omega)
end Go.Proofs.YtbnikblhnibgiaaGreatDoor

/- The text of a bag: the program's functions. -/
namespace Go.Proofs.YtbnikblhnibgiaaGreatDoor
open Go.RowKit

theorem join_snoc (r : List (List UInt8)) (y sep : List UInt8) : Lib.join (r ++ [y]) sep = if r = [] then y else Lib.join r sep ++ sep ++ y := by
  cases r with
  | nil => simp [Lib.join_one]
  | cons x r =>
    rw [if_neg (by simp), List.cons_append, Lib.join_cons, Lib.join_cons]
    simp [Lib.joinTail, List.append_assoc]
/-- The words of the first k kinds. -/
def wordsT (b : List Int) : Nat → List ByteArray
  | 0 => []
  | k + 1 => if nth b k = 0 then wordsT b k else wordsT b k ++ [wordT k (nth b k).toNat]
theorem wordsT_len (b : List Int) : ∀ k, (wordsT b k).length ≤ k
  | 0 => Nat.le_refl 0
  | k + 1 => by
    have := wordsT_len b k
    unfold wordsT
    split
    · omega
    · simp; omega
theorem words_out (b : List Int) (hb : ∀ j, 0 ≤ nth b j ∧ nth b j ≤ 1000) : ∀ k, (⟨(Lib.join ((wordsT b k).map (·.data.toList)) [32]).toArray⟩ : ByteArray) = outT b k ∧ (wordsT b k = [] ↔ (outT b k).size = 0)
  | 0 => ⟨rfl, by simp [wordsT, outT]; rfl⟩
  | k + 1 => by
    obtain ⟨i1, i2⟩ := words_out b hb k
    have hw := wordT_size (k := k) (m := (nth b k).toNat) (by have := hb k; omega)
    unfold wordsT outT
    by_cases h0 : nth b k = 0
    · rw [if_pos h0, if_pos h0]; exact ⟨i1, i2⟩
    · rw [if_neg h0, if_neg h0, List.map_append, List.map_cons, List.map_nil, join_snoc]
      by_cases hz : (outT b k).size = 0
      · rw [if_pos hz, if_pos (by rw [i2.2 hz]; rfl)]
        refine ⟨by simp, ?_⟩
        constructor
        · intro e; simp at e
        · intro e; omega
      · have hne : ¬ wordsT b k = [] := fun e => hz (i2.1 e)
        rw [if_neg hz, if_neg (by simpa using hne)]
        refine ⟨?_, ?_⟩
        · rw [← ByteArray.mk_append_mk, ← ByteArray.mk_append_mk, i1, ByteArray.append_assoc]
        · constructor
          · intro e; simp at e
          · intro e; rw [ByteArray.size_append, ByteArray.size_append] at e; omega
theorem Bld.full {E : Nat} {w : World} {B : Nat} {v : Value} {vs : List Value} (h : Bld E w B v vs) (h0 : vs ≠ []) : ∃ g c, v = .slice (some ⟨g, 0, none⟩) vs.length c ∧ g < w.heap.size ∧ vs.length ≤ c ∧ ∀ j u, vs[j]? = some u → w.cell? ⟨g, j, none⟩ = some u := by
  have hcells := fun g => World.ownsRow.cells (g := g) h
  have hlt := h.lt
  obtain ⟨_, h2⟩ := h
  rcases h2 with ⟨rfl, h3⟩ | ⟨g, cap, cur, rfl, hB, hg, hn, _⟩
  · exact absurd (by simpa using h3) h0
  · refine ⟨g, cap, rfl, (hlt g rfl).2, hn, fun j u hu => ?_⟩
    have := hcells g rfl j u hu
    rwa [Addr.add_lit, Nat.zero_add] at this
theorem Bld.anyV {E : Nat} {w : World} {B : Nat} {v : Value} {vs : List Value} (h : Bld E w B v vs) : ∃ a c, v = .slice a vs.length c := by
  obtain ⟨_, h2⟩ := h
  rcases h2 with ⟨rfl, h3⟩ | ⟨g, cap, cur, rfl, _⟩
  · have : vs = [] := by simpa using h3
    subst this
    exact ⟨none, 0, rfl⟩
  · exact ⟨_, cap, rfl⟩
theorem tabStr : Tab Tryz.prog 52 9 (.string ⟨#[]⟩) 1 16 := ⟨by kernel_rfl, by kernel_rfl⟩
/-- The table of powers lies where it lay. -/
abbrev PowAt (w : World) : Prop := Lib.TabIs Tryz.prog w "internal/strconv.uint64pow10" .u64 Lib.pow10Tab
theorem gPow : ∃ g, Tryz.prog.globalNamed "internal/strconv.uint64pow10" = some g := ⟨3, by kernel_rfl⟩
theorem PowAt.below {w w' : World} (h : PowAt w) (hb : Below w.heap.size w w') : PowAt w' := by
  obtain ⟨g, hg⟩ := gPow
  exact Go.Joins.tab_stays hg h hb (Nat.le_refl _)
theorem decimalN_c (m : Nat) (hm : m < 10000) (w : World) (h : PowAt w) : Calls Tryz.prog 26 #[.int .i64 m] w (RetV w (.string (decN m))) := by
  have e : Lib.itoa (m : Int) = Lib.decDigits m := by rw [Lib.itoa, if_neg (by omega), Int.toNat_natCast]
  go_enter Tryz.func26, Tryz.ntmps26
  go_wp2_with fail
  refine (Tryz.strconv_FormatInt_10 (m : Int) (by omega) (by omega) w h).mono ?_
  rintro e' w' ⟨rfl, k, os, rfl⟩
  have HB := Lib.hid (Go.Lib.below_grow w.heap.size w (Nat.le_refl _) k os)
  go_wp2
  go_ret
  exact ⟨rfl, HB.out⟩
theorem isBagS_ok {b : List Int} (h : isBagS b = true) : b.length ≤ 8 ∧ ∀ j, 0 ≤ nth b j ∧ nth b j ≤ 1000 := by
  simp only [isBagS, Bool.and_eq_true] at h
  refine ⟨by have := h.2; simp [inRg] at this; omega, fun j => ?_⟩
  by_cases e : j < b.length
  · have := allB_at h.1 e
    simp [cntOk, inRg] at this; omega
  · have : nth b j = 0 := by simp [nth, List.getElem?_eq_none (Nat.le_of_not_lt e)]
    omega
end Go.Proofs.YtbnikblhnibgiaaGreatDoor

/- What the library's functions tell: cutting, numbers; what must lie in memory for them. -/
namespace Go.Proofs.YtbnikblhnibgiaaGreatDoor
open Go.RowKit
/-- The cells and the table that the library reads. -/
structure LibOk (w : World) : Prop where
  max : ∃ m, w.cell? ⟨2, 0, none⟩ = some (.int .i64 m)
  syn : ∃ ev, w.cell? ⟨0, 0, none⟩ = some ev ∧ (ev = .nilIface ∨ ∃ te pe, ev = .iface te pe)
  rng : ∃ ev, w.cell? ⟨1, 0, none⟩ = some ev ∧ (ev = .nilIface ∨ ∃ te pe, ev = .iface te pe)
  pow : PowAt w
theorem cell_lt {w : World} {g i : Nat} {v : Value} (h : w.cell? ⟨g, i, none⟩ = some v) : g < w.heap.size := by
  by_cases e : g < w.heap.size
  · exact e
  · simp [World.cell?, Array.getElem?_eq_none (Nat.le_of_not_lt e)] at h
theorem LibOk.below {w w' : World} (h : LibOk w) (hb : Below w.heap.size w w') : LibOk w' := by
  obtain ⟨⟨m, h1⟩, ⟨e1, h2, h2'⟩, ⟨e2, h3, h3'⟩, h4⟩ := h
  exact ⟨⟨m, by rw [bcell1 hb (cell_lt h1)]; exact h1⟩, ⟨e1, by rw [bcell1 hb (cell_lt h2)]; exact h2, h2'⟩, ⟨e2, by rw [bcell1 hb (cell_lt h3)]; exact h3, h3'⟩, h4.below hb⟩
theorem parse_c (s : ByteArray) (hs : s.size ≤ 2097152) (w : World) (h : LibOk w) :
    Calls Tryz.prog 24 #[.string s, .int .i64 10, .int .i64 64] w (fun e w' => ∃ x, e = .returned (.tuple #[.int .i64 (pvS s.data.toList), x]) ∧ Below w.heap.size w w') := by
  cases hp : Lib.parseIntB 64 s.data.toList with
  | ok v =>
    refine (Tryz.strconv_ParseInt_10_at64_ok s (by omega) v hp w).mono ?_
    rintro e w' ⟨rfl, hw⟩
    refine ⟨_, by rw [pvS, hp], ?_⟩
    rcases hw with rfl | ⟨t, rfl⟩
    · exact Below.refl _ _
    · exact Go.Joins.below_bytesWorld _ _ _ _ (Nat.le_refl _)
  | «syntax» =>
    obtain ⟨ev, h1, h2⟩ := h.syn
    refine (Tryz.strconv_ParseInt_10_at64_syntax s (by omega) hp ev w h1 h2).mono ?_
    rintro e w' ⟨N, rfl, _, _, hb⟩
    exact ⟨_, by rw [pvS, hp], hb⟩
  | range =>
    obtain ⟨ev, h1, h2⟩ := h.rng
    refine (Tryz.strconv_ParseInt_10_at64_range s (by omega) hp ev w h1 h2).mono ?_
    rintro e w' ⟨N, rfl, _, _, hb⟩
    exact ⟨_, by rw [pvS, hp], hb⟩
theorem split_c (s : ByteArray) (c : UInt8) (hs : s.size ≤ 2097152) (w : World) (h : LibOk w) :
    Calls Tryz.prog 25 #[.string s, .string ⟨#[c]⟩] w (fun e w' => ∃ ws : List ByteArray, ws.map (·.data.toList) = cutL c s.data.toList ∧ 1 ≤ ws.length ∧ ws.length ≤ s.size + 1 ∧
      e = .returned (.slice (some ⟨w.heap.size, 0, none⟩) ws.length ws.length) ∧ w' = w.alloc (.cells (ws.map Value.string).toArray 9)) := by
  obtain ⟨m, hm⟩ := h.max
  refine (Tryz.strings_Split s ⟨#[c]⟩ m w (by omega) hm (Nat.le_refl 1)).mono ?_
  rintro e w' ⟨rfl, rfl⟩
  have hl := Lib.splitB_all ⟨#[c]⟩ (Nat.le_refl 1) 0 _ s rfl
  have hle := Lib.countB_le ⟨#[c]⟩ (Nat.le_refl 1) _ s (Nat.le_refl _)
  refine ⟨Lib.splitB ⟨#[c]⟩ 0 (Lib.countB s ⟨#[c]⟩) s, ?_, by omega, by omega, by rw [hl], rfl⟩
  rw [Lib.splitB_data]
  exact split_cut c s.data.toList
end Go.Proofs.YtbnikblhnibgiaaGreatDoor

/- The bag with a text: what the program's reader and the reference's make of a text is one; plain. -/
namespace Go.Proofs.YtbnikblhnibgiaaGreatDoor
/-- The word of so many objects of a kind. -/
def wordL (k m : Nat) : Bs := UInt8.ofNat (97 + k) :: (if 1 < m then Lib.decDigits m else [])
/-- The words of the first k kinds. -/
def wordsL (b : List Int) : Nat → List Bs
  | 0 => []
  | k + 1 => if nth b k = 0 then wordsL b k else wordsL b k ++ [wordL k (nth b k).toNat]
def bagL (b : List Int) : Bs := if wordsL b b.length = [] then [45] else Lib.join (wordsL b b.length) [32]
theorem wordT_L (k m : Nat) : (wordT k m).data.toList = wordL k m := by
  unfold wordT wordL
  rw [ByteArray.data_append]
  split <;> simp [decN]
theorem wordsT_L (b : List Int) : ∀ k, (wordsT b k).map (·.data.toList) = wordsL b k
  | 0 => rfl
  | k + 1 => by
    unfold wordsT wordsL
    split
    · exact wordsT_L b k
    · rw [List.map_append, wordsT_L b k, List.map_cons, List.map_nil, wordT_L]
theorem bagT_L {b : List Int} (hb : ∀ j, 0 ≤ nth b j ∧ nth b j ≤ 1000) : (bagTextT b).data.toList = bagL b := by
  obtain ⟨h1, h2⟩ := words_out b hb b.length
  rw [wordsT_L] at h1
  have h3 : wordsL b b.length = [] ↔ (outT b b.length).size = 0 := by rw [← h2, ← wordsT_L]; simp
  unfold bagTextT bagL
  by_cases e : wordsL b b.length = []
  · rw [if_pos e, if_pos (h3.1 e)]
  · rw [if_neg e, if_neg (fun x => e (h3.2 x)), ← h1]
/-- One word read by the program. -/
def pstep (kinds : Nat) (b : List Int) : Bs → Option (List Int)
  | [] => none
  | c :: t => if 97 ≤ c.toNat ∧ c.toNat < 97 + kinds then some (b.set (c.toNat - 97) (if t = [] then 1 else pvS t)) else none
def pfold (kinds : Nat) : List Bs → List Int → Option (List Int)
  | [], b => some b
  | w :: r, b => match pstep kinds b w with
    | none => none
    | some b' => pfold kinds r b'
def checkB (s : Bs) (b : List Int) : Option (List Int) := if isBagS b = true ∧ bagL b = s then some b else none
def progRead (kinds : Nat) (s : Bs) : Option (List Int) := if s = [45] then checkB s (List.replicate kinds 0) else match pfold kinds (cutL 32 s) (List.replicate kinds 0) with
  | none => none
  | some b => checkB s b
/-- One word read by the reference. -/
def sstep (kinds : Nat) (b : List Int) (nx : Nat) : Bs → Option (List Int × Nat)
  | [] => none
  | c :: t => if c.toNat < 97 ∨ 97 + kinds ≤ c.toNat ∨ c.toNat < 97 + nx then none
    else if t = [] then some (b.set (c.toNat - 97) 1, c.toNat - 97 + 1)
    else match numS t with
      | none => none
      | some x => if 2 ≤ x ∧ x ≤ 1000 then some (b.set (c.toNat - 97) x, c.toNat - 97 + 1) else none
def sfold (kinds : Nat) : List Bs → List Int → Nat → Option (List Int)
  | [], b, _ => some b
  | w :: r, b, nx => match sstep kinds b nx w with
    | none => none
    | some (b', nx') => sfold kinds r b' nx'
def specRead (kinds : Nat) (s : Bs) : Option (List Int) := if s = [45] then some (List.replicate kinds 0) else sfold kinds (cutL 32 s) (List.replicate kinds 0) 0

theorem nthS_eq {b : List Int} {k : Nat} {v : Int} (h : k < b.length) : nth (b.set k v) k = v := by simp [nth, h]
theorem nthS_ne {b : List Int} {k j : Nat} {v : Int} (h : k ≠ j) : nth (b.set k v) j = nth b j := by simp [nth, List.getElem?_set_ne h]
theorem nthZ_rep (n j : Nat) : nth (List.replicate n 0) j = 0 := by
  simp only [nth, List.getD_eq_getElem?_getD, List.getElem?_replicate]; split <;> rfl
theorem wordsL_same {b b' : List Int} : ∀ {k : Nat}, (∀ j, j < k → nth b' j = nth b j) → wordsL b' k = wordsL b k
  | 0, _ => rfl
  | k + 1, h => by
    unfold wordsL
    rw [h k (by omega), wordsL_same (fun j hj => h j (by omega))]
theorem wordsL_zeros {b : List Int} {nx : Nat} : ∀ {k : Nat}, nx ≤ k → (∀ j, nx ≤ j → j < k → nth b j = 0) → wordsL b k = wordsL b nx
  | 0, h, _ => by rw [show nx = 0 by omega]
  | k + 1, h, hz => by
    by_cases e : nx = k + 1
    · rw [e]
    · rw [wordsL, if_pos (hz k (by omega) (by omega))]
      exact wordsL_zeros (by omega) (fun j h1 h2 => hz j h1 (by omega))
theorem letter (c : UInt8) (h : 97 ≤ c.toNat) : UInt8.ofNat (97 + (c.toNat - 97)) = c := by
  rw [show 97 + (c.toNat - 97) = c.toNat by omega]; simp
theorem word_back {c : UInt8} {t : Bs} {kinds nx : Nat} {b b' : List Int} {nx' : Nat} (h : sstep kinds b nx (c :: t) = some (b', nx')) :
    ∃ k m : Nat, 97 ≤ c.toNat ∧ c.toNat = 97 + k ∧ k < kinds ∧ nx ≤ k ∧ 1 ≤ m ∧ m ≤ 1000 ∧ b' = b.set k m ∧ nx' = k + 1 ∧ wordL k m = c :: t ∧ (if t = [] then 1 else pvS t) = (m : Int) := by
  simp only [sstep] at h
  split at h
  · cases h
  · rename_i hn
    split at h
    · rename_i ht
      subst ht
      cases h
      refine ⟨c.toNat - 97, 1, by omega, by omega, by omega, by omega, by omega, by omega, rfl, rfl, ?_, rfl⟩
      rw [wordL, letter c (by omega), if_neg (by omega)]
    · rename_i ht
      cases hx : numS t with
      | none => rw [hx] at h; cases h
      | some x =>
        rw [hx] at h
        simp only at h
        split at h
        · rename_i hr
          cases h
          have ht2 := numS_inv hx
          refine ⟨c.toNat - 97, x, by omega, by omega, by omega, by omega, by omega, by omega, rfl, rfl, ?_, ?_⟩
          · rw [wordL, letter c (by omega), if_pos (by omega), ← ht2]
          · rw [if_neg ht, ht2, pvS_dec (by omega)]
        · cases h
theorem sfold_spec {kinds : Nat} : ∀ {ws : List Bs} {b : List Int} {nx : Nat} {b' : List Int}, b.length = kinds → nx ≤ kinds → (∀ j, nx ≤ j → nth b j = 0) → (∀ j, 0 ≤ nth b j ∧ nth b j ≤ 1000) → sfold kinds ws b nx = some b' →
    b'.length = kinds ∧ pfold kinds ws b = some b' ∧ (∀ j, 0 ≤ nth b' j ∧ nth b' j ≤ 1000) ∧ wordsL b' kinds = wordsL b nx ++ ws
  | [], b, nx, b', hl, hn, hz, hb, h => by
    simp only [sfold, Option.some.injEq] at h
    subst h
    exact ⟨hl, rfl, hb, by rw [wordsL_zeros hn (fun j h1 _ => hz j h1)]; simp⟩
  | [] :: r, b, nx, b', hl, hn, hz, hb, h => by simp [sfold, sstep] at h
  | (c :: t) :: r, b, nx, b', hl, hn, hz, hb, h => by
    rw [sfold] at h
    cases hs : sstep kinds b nx (c :: t) with
    | none => rw [hs] at h; cases h
    | some p =>
      obtain ⟨b1, nx1⟩ := p
      rw [hs] at h
      obtain ⟨k, m, h97, hck, hk, hnk, hm1, hm2, rfl, rfl, hw, hv⟩ := word_back hs
      have ih := sfold_spec (by simpa using hl) (by omega) (fun j hj => by rw [nthS_ne (by omega)]; exact hz j (by omega)) (fun j => by
        by_cases e : k = j
        · subst e; rw [nthS_eq (by omega)]; omega
        · rw [nthS_ne e]; exact hb j) h
      obtain ⟨i1, i2, i3, i4⟩ := ih
      refine ⟨i1, ?_, i3, ?_⟩
      · rw [pfold, pstep, if_pos (by omega), hv, show c.toNat - 97 = k by omega]
        exact i2
      · rw [i4, wordsL, nthS_eq (by omega), if_neg (by omega), show ((m : Nat) : Int).toNat = m by omega, hw,
          wordsL_zeros hnk (fun j h1 h2 => by rw [nthS_ne (by omega)]; exact hz j h1),
          wordsL_same (b := b) (fun j hj => nthS_ne (by omega))]
        simp
theorem words_no {b : List Int} : ∀ {k : Nat}, k ≤ 8 → ∀ w ∈ wordsL b k, (32 : UInt8) ∉ w ∧ w ≠ [45]
  | 0, _, w, h => by simp [wordsL] at h
  | k + 1, hk, w, h => by
    rw [wordsL] at h
    split at h
    · exact words_no (by omega) w h
    · rw [List.mem_append] at h
      rcases h with h | h
      · exact words_no (by omega) w h
      · simp only [List.mem_singleton] at h
        subst h
        have hc : (UInt8.ofNat (97 + k)).toNat = 97 + k := by simp; omega
        have hne : ∀ d : UInt8, d.toNat < 97 → UInt8.ofNat (97 + k) ≠ d := fun d hd e => by rw [e] at hc; omega
        constructor
        · intro hm
          rw [wordL, List.mem_cons] at hm
          rcases hm with hm | hm
          · exact hne 32 (by decide) hm.symm
          · split at hm
            · have hd := (dec_dig (nth b k).toNat).1
              rw [digs, List.all_eq_true] at hd
              have := hd _ hm
              simp [digD] at this
            · simp at hm
        · intro e
          rw [wordL] at e
          exact hne 45 (by decide) (by injection e)
theorem sfold_snoc {kinds : Nat} {w : Bs} : ∀ {ws : List Bs} {b : List Int} {nx : Nat} {b1 : List Int} {n1 : Nat}, (∀ r, sfold kinds (ws ++ r) b nx = sfold kinds r b1 n1) → ∀ {b2 : List Int} {n2 : Nat}, sstep kinds b1 n1 w = some (b2, n2) → ∀ r, sfold kinds ((ws ++ [w]) ++ r) b nx = sfold kinds r b2 n2 := by
  intro ws b nx b1 n1 h b2 n2 h2 r
  rw [List.append_assoc, h, List.cons_append, List.nil_append, sfold, h2]
theorem list_eq {a b : List Int} (hl : a.length = b.length) (h : ∀ j, j < b.length → nth a j = nth b j) : a = b := by
  apply List.ext_getElem hl
  intro i h1 h2
  have := h i h2
  simpa [nth, h1, h2] using this
theorem sfold_words {kinds : Nat} {b : List Int} (h8 : kinds ≤ 8) (hl : b.length = kinds) (hb : ∀ j, 0 ≤ nth b j ∧ nth b j ≤ 1000) : ∀ k, k ≤ kinds →
    ∃ b1 n1, n1 ≤ k ∧ b1.length = kinds ∧ (∀ j, j < k → nth b1 j = nth b j) ∧ (∀ j, k ≤ j → nth b1 j = 0) ∧ ∀ r, sfold kinds (wordsL b k ++ r) (List.replicate kinds 0) 0 = sfold kinds r b1 n1
  | 0, _ => ⟨List.replicate kinds 0, 0, Nat.le_refl _, by simp, fun j hj => by omega, fun j _ => nthZ_rep _ _, fun r => rfl⟩
  | k + 1, hk => by
    obtain ⟨b1, n1, h1, h2, h3, h4, h5⟩ := sfold_words h8 hl hb k (by omega)
    by_cases h0 : nth b k = 0
    · refine ⟨b1, n1, by omega, h2, fun j hj => ?_, fun j hj => h4 j (by omega), fun r => ?_⟩
      · by_cases e : j = k
        · subst e; rw [h4 _ (Nat.le_refl _), h0]
        · exact h3 j (by omega)
      · rw [wordsL, if_pos h0]; exact h5 r
    · have hbk := hb k
      obtain ⟨m, hm⟩ : ∃ m : Nat, nth b k = (m : Int) := ⟨(nth b k).toNat, by omega⟩
      have hs : sstep kinds b1 n1 (wordL k m) = some (b1.set k m, k + 1) := by
        have hc : (UInt8.ofNat (97 + k)).toNat = 97 + k := by simp; omega
        rw [wordL]
        simp only [sstep, hc]
        rw [if_neg (by omega), show 97 + k - 97 = k by omega]
        by_cases hm1 : 1 < m
        · rw [if_pos hm1, if_neg (dec_dig m).2.2.1, numS_dec (by omega)]
          simp only
          rw [if_pos (by omega)]
        · rw [if_neg hm1, if_pos rfl, show m = 1 by omega]; rfl
      refine ⟨b1.set k m, k + 1, Nat.le_refl _, by simpa using h2, fun j hj => ?_, fun j hj => ?_, fun r => ?_⟩
      · by_cases e : j = k
        · subst e; rw [nthS_eq (by omega), hm]
        · rw [nthS_ne (by omega)]; exact h3 j (by omega)
      · rw [nthS_ne (by omega)]; exact h4 j (by omega)
      · rw [wordsL, if_neg h0, hm, show ((m : Nat) : Int).toNat = m by omega]
        exact sfold_snoc h5 hs r
theorem read_text {kinds : Nat} {b : List Int} (h8 : kinds ≤ 8) (hl : b.length = kinds) (hb : ∀ j, 0 ≤ nth b j ∧ nth b j ≤ 1000) : specRead kinds (bagL b) = some b := by
  obtain ⟨b1, n1, h1, h2, h3, h4, h5⟩ := sfold_words h8 hl hb kinds (Nat.le_refl _)
  have e1 : b1 = b := list_eq (by omega) (fun j hj => h3 j (by omega))
  subst e1
  unfold specRead bagL
  rw [hl]
  by_cases e : wordsL b1 kinds = []
  · rw [if_pos e, if_pos rfl]
    have h6 := h5 []
    rw [e] at h6
    simpa [sfold] using h6
  · rw [if_neg e]
    have hno := fun w hw => words_no (b := b1) (k := kinds) h8 w hw
    have hcut := cutL_join e (fun w hw => (hno w hw).1)
    have hne : ¬ Lib.join (wordsL b1 kinds) [32] = [45] := by
      intro x
      rw [x] at hcut
      have : wordsL b1 kinds = [[45]] := by rw [← hcut]; rfl
      exact (hno [45] (by rw [this]; simp)).2 rfl
    rw [if_neg hne, hcut]
    have h6 := h5 []
    simpa [sfold] using h6
theorem bagS_of {b : List Int} (h1 : 1 ≤ b.length) (h8 : b.length ≤ 8) (hb : ∀ j, 0 ≤ nth b j ∧ nth b j ≤ 1000) : isBagS b = true := by
  simp only [isBagS, Bool.and_eq_true, allB, List.all_eq_true]
  refine ⟨fun x hx => ?_, by simp [inRg]; omega⟩
  obtain ⟨j, hj, rfl⟩ := List.getElem_of_mem hx
  have := hb j
  simp [nth, hj] at this
  simp [cntOk, inRg]; omega
theorem zeros_words (kinds : Nat) : wordsL (List.replicate kinds 0) kinds = [] := by
  rw [wordsL_zeros (Nat.zero_le _) (fun j _ _ => nthZ_rep _ _)]; rfl
theorem read_same {kinds : Nat} (h1 : 1 ≤ kinds) (h8 : kinds ≤ 8) (s : Bs) : progRead kinds s = specRead kinds s := by
  by_cases e : s = [45]
  · unfold progRead specRead checkB
    rw [if_pos e, if_pos e, if_pos]
    refine ⟨bagS_of (by simpa using h1) (by simpa using h8) (fun j => by rw [nthZ_rep]; omega), ?_⟩
    rw [bagL, List.length_replicate, if_pos (zeros_words kinds), e]
  · have key : ∀ b, progRead kinds s = some b → specRead kinds s = some b := fun b hb => by
      have hpl : ∀ {ws : List Bs} {b b' : List Int}, pfold kinds ws b = some b' → b'.length = b.length := by
        intro ws
        induction ws with
        | nil => intro b b' h; simp only [pfold, Option.some.injEq] at h; rw [h]
        | cons w r ih =>
          intro b b' h
          rw [pfold] at h
          cases hw : pstep kinds b w with
          | none => rw [hw] at h; cases h
          | some b1 =>
            rw [hw] at h
            rw [ih h]
            cases w with
            | nil => cases hw
            | cons c t =>
              simp only [pstep] at hw
              split at hw
              · cases hw; simp
              · cases hw
      unfold progRead at hb
      rw [if_neg e] at hb
      cases hp : pfold kinds (cutL 32 s) (List.replicate kinds 0) with
      | none => rw [hp] at hb; cases hb
      | some b1 =>
        rw [hp] at hb
        simp only [checkB] at hb
        split at hb
        · rename_i hc
          cases hb
          have := isBagS_ok hc.1
          rw [← hc.2]
          exact read_text h8 (by rw [hpl hp]; simp) this.2
        · cases hb
    cases hs : specRead kinds s with
    | none =>
      cases hp : progRead kinds s with
      | none => rfl
      | some b => rw [key b hp] at hs; cases hs
    | some b =>
      have hs' := hs
      unfold specRead at hs'
      rw [if_neg e] at hs'
      obtain ⟨i1, i2, i3, i4⟩ := sfold_spec (by simp) (Nat.zero_le _) (fun j _ => nthZ_rep _ _) (fun j => by rw [nthZ_rep]; omega) hs'
      have hw : wordsL b kinds = cutL 32 s := by rw [i4]; rfl
      have hne : wordsL b kinds ≠ [] := by rw [hw]; exact cutL_ne _ _
      unfold progRead
      rw [if_neg e, i2]
      simp only [checkB]
      rw [if_pos]
      refine ⟨bagS_of (by omega) (by omega) i3, ?_⟩
      rw [bagL, i1, if_neg hne, hw, join_cutL]
end Go.Proofs.YtbnikblhnibgiaaGreatDoor

/- The reference's readers of numbers and bags: contracts. -/
namespace Go.Proofs.YtbnikblhnibgiaaGreatDoor
open Go.RowKit
/-- The byte at a place, as a number. -/
def bAt (s : ByteArray) (k : Nat) : Nat := (s.data.toList.getD k 0).toNat
theorem bAt_lt (s : ByteArray) (k : Nat) : bAt s k < 256 := UInt8.toNat_lt _
theorem sizeL (s : ByteArray) : s.size = s.data.toList.length := by rw [Array.length_toList]; rfl
theorem bAt_get {s : ByteArray} {k : Nat} (h : k < s.size) : s.data.toList[k]? = some (s.data.toList.getD k 0) := by
  rw [sizeL] at h
  rw [List.getD_eq_getElem?_getD, List.getElem?_eq_getElem h]; rfl
theorem takeL {l : Bs} {k : Nat} {x : UInt8} (h : l[k]? = some x) : l.take (k + 1) = l.take k ++ [x] := by
  rw [List.take_add_one, h]; rfl
theorem dropL {l : Bs} {k : Nat} {x : UInt8} (h : l[k]? = some x) : l.drop k = x :: l.drop (k + 1) := by
  obtain ⟨hk, rfl⟩ := List.getElem?_eq_some_iff.1 h
  exact List.drop_eq_getElem_cons hk
theorem valD_lt : ∀ (s : Bs), valD s < 10 ^ s.length ∨ digs s = false := fun s => by
  refine snocRec (P := fun s => valD s < 10 ^ s.length ∨ digs s = false) (.inl (by decide)) ?_ s
  intro s d ih
  rw [digs_snoc, valD_snoc]
  cases hd : digD d
  · exact .inr (by simp)
  · rcases ih with h | h
    · left
      simp [digD] at hd
      rw [List.length_append, List.length_singleton, Nat.pow_succ]
      omega
    · exact .inr (by rw [h]; rfl)
theorem digs_false {s : Bs} {k : Nat} {x : UInt8} (h : s[k]? = some x) (hx : digD x = false) : digs s = false := by
  rw [digs, List.all_eq_false]
  exact ⟨x, List.mem_of_getElem? h, by simp [hx]⟩
/-- A number and whether it is one. -/
def numP (s : Bs) : Nat × Bool := match numS s with
  | some n => (n, true)
  | none => (0, false)
theorem numP_none {s : Bs} (h : s.length < 1 ∨ 9 < s.length ∨ (s.head? = some 48 ∧ 1 < s.length)) : numP s = (0, false) := by unfold numP numS; rw [if_pos h]
theorem numP_bad {s : Bs} (h : digs s = false) : numP s = (0, false) := by
  unfold numP numS
  by_cases e : s.length < 1 ∨ 9 < s.length ∨ (s.head? = some 48 ∧ 1 < s.length)
  · rw [if_pos e]
  · rw [if_neg e, if_neg (by rw [h]; simp)]
theorem numP_ok {s : Bs} (h : ¬ (s.length < 1 ∨ 9 < s.length ∨ (s.head? = some 48 ∧ 1 < s.length))) (hd : digs s = true) : numP s = (valD s, true) := by
  unfold numP numS; rw [if_neg h, if_pos hd]
theorem idxS {P : Program} {t : TypeId} (ht : P.underlying t = some .string) (s : ByteArray) (k : Nat) (hk : k < s.size) (w : World) :
    (Instr.index t (.string s) (.int .i64 (k : Int))).run P w = .ok (.int .u8 ((bAt s k : Nat) : Int)) w := by
  rw [run_index_string w t s .i64 k ht, dif_pos (by omega)]
  have e : s[(k : Int).toNat]'(by omega) = s.data.toList.getD k 0 := by
    rw [sizeL] at hk
    simp only [Int.toNat_natCast]
    rw [List.getD_eq_getElem?_getD, List.getElem?_eq_getElem hk]
    rfl
  rw [e]; rfl
end Go.Proofs.YtbnikblhnibgiaaGreatDoor

/- Texts cut at a byte: the reference's functions. Written by mknf.py. -/
namespace Go.Proofs.YtbnikblhnibgiaaGreatDoor
open Go.RowKit
/-- The lines of a text, each of which ends with a newline; and whether the last one does. -/
def linesOfB (s : Bs) : List Bs × Bool := ((cutL 10 s).dropLast, (cutL 10 s).getLast? == some [])
/-- The state of a text that is cut: what was cut off, what comes yet. -/
structure CutS (c : UInt8) (S : Bs) (W : List ByteArray) (f k : Nat) : Prop where
  eq : cutL c S = W.map (·.data.toList) ++ cutL c (S.drop f)
  no : c ∉ (S.drop f).take (k - f)
  le : f ≤ k
  len : W.length ≤ k
theorem CutS.start (c : UInt8) (S : Bs) : CutS c S [] 0 0 := ⟨by simp, by simp, Nat.le_refl _, Nat.zero_le _⟩
theorem cut_get {S : Bs} {f k : Nat} {x : UInt8} (hx : S[k]? = some x) (h : f ≤ k) : (S.drop f).drop (k - f) = x :: S.drop (k + 1) := by
  rw [List.drop_drop, show f + (k - f) = k by omega, dropL hx]
theorem CutS.miss {c x : UInt8} {S : Bs} {W : List ByteArray} {f k : Nat} (h : CutS c S W f k) (hx : S[k]? = some x) (hne : x ≠ c) : CutS c S W f (k + 1) := by
  refine ⟨h.eq, ?_, by have := h.le; omega, by have := h.len; omega⟩
  have e : (S.drop f)[k - f]? = some x := by rw [List.getElem?_drop, show f + (k - f) = k by have := h.le; omega]; exact hx
  rw [show k + 1 - f = (k - f) + 1 by have := h.le; omega, takeL e, List.mem_append]
  rintro (e | e)
  · exact h.no e
  · simp at e; exact hne e.symm
theorem CutS.hit {c : UInt8} {s : ByteArray} {W : List ByteArray} {f k : Nat} (h : CutS c s.data.toList W f k) (hx : s.data.toList[k]? = some c) : CutS c s.data.toList (W ++ [s.extract f k]) (k + 1) (k + 1) := by
  refine ⟨?_, by simp, Nat.le_refl _, by have := h.len; simp; omega⟩
  have e : s.data.toList.drop f = (s.data.toList.drop f).take (k - f) ++ c :: s.data.toList.drop (k + 1) := by
    rw [← cut_get hx h.le, List.take_append_drop]
  rw [h.eq, e, cutL_hit _ h.no, List.map_append, List.map_cons, List.map_nil, Lib.extract_data, List.append_assoc]
  rfl
theorem CutS.last {c : UInt8} {s : ByteArray} {W : List ByteArray} {f : Nat} (h : CutS c s.data.toList W f s.size) : cutL c s.data.toList = W.map (·.data.toList) ++ [s.data.toList.drop f] := by
  have hno : c ∉ s.data.toList.drop f := by
    have := h.no
    rwa [List.take_of_length_le (by rw [List.length_drop, ← sizeL]; exact Nat.le_refl _)] at this
  rw [h.eq, cutL_miss hno]
/-- A list of strings just made. -/
def CutR (w : World) (L : List Bs) (E : Nat) (v : Value) (w' : World) : Prop := ∃ ws : List ByteArray, ws.map (·.data.toList) = L ∧ Bld E w' w.heap.size v (ws.map Value.string) ∧ ws.length ≤ 2097153 ∧ Below w.heap.size w w'
theorem sliceS {P : Program} {t : TypeId} (ht : P.underlying t = some .string) (s : ByteArray) (f k : Nat) (h1 : f ≤ k) (h2 : k ≤ s.size) (w : World) :
    (Instr.slice t (.string s) (some (.int .i64 (f : Int))) (some (.int .i64 (k : Int))) none).run P w = .ok (.string (s.extract f k)) w := by
  rw [run_slice_string_if w t s .i64 .i64 f k ht, if_pos (by omega), if_pos (by omega)]
  simp
theorem sliceS_from {P : Program} {t : TypeId} (ht : P.underlying t = some .string) (s : ByteArray) (f : Nat) (h1 : f ≤ s.size) (w : World) :
    (Instr.slice t (.string s) (some (.int .i64 (f : Int))) none none).run P w = .ok (.string (s.extract f s.size)) w := by
  simp [go_sem, ht, h1]
end Go.Proofs.YtbnikblhnibgiaaGreatDoor

/- The bag with a text: the reference's functions. Written by mknh.py. -/
namespace Go.Proofs.YtbnikblhnibgiaaGreatDoor
open Go.RowKit
def nthBA (ws : List ByteArray) (j : Nat) : ByteArray := ws.getD j ⟨#[]⟩
theorem words_at {ws : List ByteArray} {L : List Bs} (h : ws.map (·.data.toList) = L) {k : Nat} (hk : k < ws.length) : L.drop k = (nthBA ws k).data.toList :: L.drop (k + 1) := by
  subst h
  rw [List.drop_eq_getElem_cons (by simpa using hk)]
  simp [nthBA, hk]
theorem words_mem {ws : List ByteArray} {L : List Bs} (h : ws.map (·.data.toList) = L) {k : Nat} (hk : k < ws.length) : (nthBA ws k).data.toList ∈ L := by
  subst h
  rw [List.mem_map]
  exact ⟨_, List.getElem_mem hk, by simp [nthBA, hk]⟩
theorem Bld.words {E : Nat} {w : World} {B : Nat} {v : Value} {ws : List ByteArray} (h : Bld E w B v (ws.map Value.string)) (h0 : ws ≠ []) :
    ∃ g c, v = .slice (some ⟨g, 0, none⟩) ws.length c ∧ B ≤ g ∧ g < w.heap.size ∧ ws.length ≤ c ∧ ∀ j, j < ws.length → w.cell? ⟨g, j, none⟩ = some (.string (nthBA ws j)) := by
  have hlt := h.lt
  obtain ⟨g, c, rfl, h1, h2, h3⟩ := h.full (by simpa using h0)
  refine ⟨g, c, by simp, (hlt g rfl).1, h1, by simpa using h2, fun j hj => ?_⟩
  exact h3 j (.string (nthBA ws j)) (by simp [nthBA, hj])
theorem cutL_size (c : UInt8) : ∀ (s : Bs) (w : Bs), w ∈ cutL c s → w.length ≤ s.length
  | [], w, h => by simp [cutL] at h; subst h; simp
  | x :: l, w, h => by
    have ih := cutL_size c l
    unfold cutL at h
    split at h
    · rcases List.mem_cons.1 h with rfl | h
      · simp
      · have := ih w h; simp; omega
    · split at h
      · rename_i h2; exact absurd h2 (cutL_ne c l)
      · rename_i a r h2
        rw [h2] at ih
        rcases List.mem_cons.1 h with rfl | h
        · have := ih a (by simp); simpa using this
        · have := ih w (by simp [h]); simp; omega
theorem word_size {ws : List ByteArray} {c : UInt8} {s : ByteArray} (h : ws.map (·.data.toList) = cutL c s.data.toList) {k : Nat} (hk : k < ws.length) : (nthBA ws k).size ≤ s.size := by
  have := cutL_size c _ _ (words_mem h hk)
  rwa [← sizeL, ← sizeL] at this
theorem split1 {y : ByteArray} (h : 1 ≤ y.size) : y.data.toList = y.data.toList.getD 0 0 :: (y.extract 1 y.size).data.toList := by
  rw [Lib.extract_to_end]
  have := dropL (bAt_get (s := y) (k := 0) h)
  simpa using this
theorem tail_nil {y : ByteArray} (h : 1 ≤ y.size) : (y.extract 1 y.size).data.toList = [] ↔ y.size = 1 := by
  rw [Lib.extract_to_end, List.drop_eq_nil_iff, ← sizeL]; omega
theorem ss_empty {kinds nx : Nat} {b : List Int} {y : ByteArray} (h : y.size < 1) : sstep kinds b nx y.data.toList = none := by
  have : y.data.toList = [] := List.length_eq_zero_iff.1 (by rw [← sizeL]; omega)
  rw [this]; rfl
theorem ss_bad {kinds nx : Nat} {b : List Int} {y : ByteArray} (h : 1 ≤ y.size) (hb : bAt y 0 < 97 ∨ 97 + kinds ≤ bAt y 0 ∨ bAt y 0 < 97 + nx) : sstep kinds b nx y.data.toList = none := by
  rw [split1 h, sstep, show (y.data.toList.getD 0 0).toNat = bAt y 0 from rfl, if_pos hb]
theorem ss_one {kinds nx : Nat} {b : List Int} {y : ByteArray} (h : y.size = 1) (hb : ¬ (bAt y 0 < 97 ∨ 97 + kinds ≤ bAt y 0 ∨ bAt y 0 < 97 + nx)) : sstep kinds b nx y.data.toList = some (b.set (bAt y 0 - 97) 1, bAt y 0 - 97 + 1) := by
  rw [split1 (by omega), sstep, show (y.data.toList.getD 0 0).toNat = bAt y 0 from rfl, if_neg hb, if_pos ((tail_nil (by omega)).2 h)]
theorem ss_num {kinds nx : Nat} {b : List Int} {y : ByteArray} (h : 1 < y.size) (hb : ¬ (bAt y 0 < 97 ∨ 97 + kinds ≤ bAt y 0 ∨ bAt y 0 < 97 + nx)) {x : Nat} {ok : Bool} (hx : numP (y.extract 1 y.size).data.toList = (x, ok)) :
    sstep kinds b nx y.data.toList = if ok = true ∧ 2 ≤ x ∧ x ≤ 1000 then some (b.set (bAt y 0 - 97) x, bAt y 0 - 97 + 1) else none := by
  rw [split1 (by omega), sstep, show (y.data.toList.getD 0 0).toNat = bAt y 0 from rfl, if_neg hb, if_neg (fun e => by have := (tail_nil (by omega)).1 e; omega)]
  unfold numP at hx
  cases hn : numS (y.extract 1 y.size).data.toList with
  | none =>
    rw [hn] at hx
    cases hx
    rw [if_neg (by simp)]
  | some n =>
    rw [hn] at hx
    cases hx
    simp only [true_and]
/-- A bag read, or none. -/
def RdB (w : World) (R : Option (List Int)) (e : Ending) (w' : World) : Prop := (R = none ∧ ∃ v, e = .returned (.tuple #[v, .bool false]) ∧ Below w.heap.size w w') ∨
  ∃ b v F, R = some b ∧ e = .returned (.tuple #[v, .bool true]) ∧ Below w.heap.size w w' ∧ Ow w' (dI b) v F ∧ F.Nodup ∧ ∀ g, g ∈ F → w.heap.size ≤ g
theorem RdB.some {w w' : World} {R : Option (List Int)} {b : List Int} {g n c : Nat} {E : Nat} (hR : R = some b) (hl : b.length ≤ 8) (hn : n = b.length) (hb : Below w.heap.size w w') (h : Bld E w' w.heap.size (.slice (some ⟨g, 0, none⟩) n c) (b.map (.int .i64))) :
    RdB w R (.returned (.tuple #[.slice (some ⟨g, 0, none⟩) n c, .bool true])) w' := by
  obtain ⟨a, c', F, e, ho, hn', hF⟩ := h.ow (by unfold maxLen; omega)
  rw [e]
  exact .inr ⟨b, _, F, hR, rfl, hb, ho, hn', hF⟩
theorem Bld.setZ {E : Nat} {w : World} {B g n c : Nat} {xs : List Int} (h : Bld E w B (.slice (some ⟨g, 0, none⟩) n c) (xs.map (.int .i64))) (i : Nat) (x : Int) : Bld E (w.setCell ⟨g, i, none⟩ (.int .i64 x)) B (.slice (some ⟨g, 0, none⟩) n c) ((xs.set i x).map (.int .i64)) := by
  have := h.set i (.int .i64 x)
  rwa [show (xs.map (Value.int .i64)).set i (.int .i64 x) = (xs.set i x).map (.int .i64) by rw [List.map_set]] at this
theorem Bld.atZ {E : Nat} {w : World} {B g n c : Nat} {xs : List Int} (h : Bld E w B (.slice (some ⟨g, 0, none⟩) n c) (xs.map (.int .i64))) {i : Nat} (hi : i < xs.length) : w.cell? ⟨g, i, none⟩ = some (.int .i64 (nth xs i)) :=
  h.cell (by simp [nth, hi])
end Go.Proofs.YtbnikblhnibgiaaGreatDoor

/- The reference's readers of programs: numbers. Written by mkjn.py. -/
namespace Go.Proofs.YtbnikblhnibgiaaGreatDoor
open Go.RowKit
theorem num7_len {s : Bs} (h : s.length < 1 ∨ 4 < s.length) : num7 s = -1 := by unfold num7; rw [if_pos h]
theorem num7_bad {s : Bs} (h : digs s = false) : num7 s = -1 := by
  unfold num7
  by_cases e : s.length < 1 ∨ 4 < s.length
  · rw [if_pos e]
  · rw [if_neg e, if_neg (by rw [h]; simp)]
theorem num7_ok {s : Bs} (h : ¬ (s.length < 1 ∨ 4 < s.length)) (hd : digs s = true) : num7 s = valD s := by
  unfold num7; rw [if_neg h, if_pos hd]
end Go.Proofs.YtbnikblhnibgiaaGreatDoor

/- The text of a program: contracts. -/
namespace Go.Proofs.YtbnikblhnibgiaaGreatDoor
open Go.RowKit

/-- The text of a number of one digit, as bytes. -/
def decB (i : Nat) : ByteArray := ⟨(decL i).toArray⟩
theorem decB_size (i : Nat) : (decB i).size = 1 := rfl
/-- The text of an order. -/
def ordT (o : Ord) : ByteArray := if o.op = 3 then ⟨#[104, 97, 108, 116]⟩ else if o.op = 2 then ⟨#[115, 117, 98, 32]⟩ ++ decB o.reg.toNat ++ ⟨#[32]⟩ ++ decB o.to.toNat ++ ⟨#[32]⟩ ++ decB o.els.toNat else ⟨#[97, 100, 100, 32]⟩ ++ decB o.reg.toNat ++ ⟨#[32]⟩ ++ decB o.to.toNat ++ ⟨#[32]⟩ ++ decB o.els.toNat
theorem ordT_size (o : Ord) : (ordT o).size ≤ 9 := by
  unfold ordT
  split
  · exact (by decide : 4 ≤ 9)
  · split <;> simp [ByteArray.size_append, decB_size] <;> decide
/-- The text of the first k orders of a program. -/
def progT (R : Int) (os : List Ord) : Nat → ByteArray
  | 0 => ⟨#[112, 114, 111, 103, 114, 97, 109, 32]⟩ ++ decB R.toNat ++ ⟨#[10]⟩
  | k + 1 => progT R os k ++ (ordT (nthO os k) ++ ⟨#[10]⟩)
theorem progT_size (R : Int) (os : List Ord) : ∀ k, (progT R os k).size ≤ 10 + 10 * k
  | 0 => by simp [progT, ByteArray.size_append, decB_size]; decide
  | k + 1 => by
    have h1 := progT_size R os k
    have h2 := ordT_size (nthO os k)
    have h3 : (ByteArray.mk #[10]).size = 1 := rfl
    simp only [progT, ByteArray.size_append, h3]
    omega
def textB (R : Int) (os : List Ord) : ByteArray := if validProgS R os = true then progT R os os.length else ⟨#[]⟩
theorem ret_str {a b : ByteArray} (h : a = b) : Ending.returned (.string a) = .returned (.string b) := by rw [h]
/-- An order of a valid program. -/
structure OkO (o : Ord) : Prop where
  op : o.op = 1 ∨ o.op = 2 ∨ o.op = 3
  reg : 0 ≤ o.reg ∧ o.reg < 10
  «to» : 0 ≤ o.to ∧ o.to < 10
  els : 0 ≤ o.els ∧ o.els < 10
theorem valid_ok {R : Int} {os : List Ord} (h : validProgS R os = true) : 0 ≤ R ∧ R < 10 ∧ os.length ≤ 6 ∧ ∀ k, k < os.length → OkO (nthO os k) := by
  have hR : 1 ≤ R ∧ R ≤ 3 ∧ 1 ≤ os.length ∧ os.length ≤ 6 := by simp [validProgS, inRg] at h; omega
  refine ⟨by omega, by omega, by omega, fun k hk => ?_⟩
  have hok : okOrd R os.length (nthO os k) = true := by
    simp only [validProgS, Bool.and_eq_true] at h
    have h2 := h.2
    rw [allO, List.all_eq_true] at h2
    rw [nthO_lt hk]; exact h2 _ (List.getElem_mem hk)
  unfold okOrd at hok
  split at hok
  · rename_i hop
    simp [inRg] at hok
    exact ⟨by omega, by omega, by omega, by omega⟩
  · simp at hok
    exact ⟨by omega, by omega, by omega, by omega⟩
set_option maxHeartbeats 1000000 in
set_option maxRecDepth 100000 in
theorem orderText_c (o : Ord) (h : OkO o) (w : World) : Calls Tryz.prog 27 #[.agg #[.int .i64 o.op, .int .i64 o.reg, .int .i64 o.to, .int .i64 o.els]] w (RetV w (.string (ordT o))) := by
  obtain ⟨hop, hr, ht, he⟩ := h
  obtain ⟨op, reg, tq, els⟩ := o
  simp only at hop hr ht he ⊢
  obtain ⟨r, rfl⟩ : ∃ n : Nat, reg = (n : Int) := ⟨reg.toNat, by omega⟩
  obtain ⟨t, rfl⟩ : ∃ n : Nat, tq = (n : Int) := ⟨tq.toNat, by omega⟩
  obtain ⟨l, rfl⟩ : ∃ n : Nat, els = (n : Int) := ⟨els.toNat, by omega⟩
  have D1 : Hid (∀ wx, Calls Tryz.prog 26 #[.int .i64 r] wx (RetP wx (.string (decB r)))) := Lib.hid (fun wx => decimal_c r (by omega) wx)
  have D2 : Hid (∀ wx, Calls Tryz.prog 26 #[.int .i64 t] wx (RetP wx (.string (decB t)))) := Lib.hid (fun wx => decimal_c t (by omega) wx)
  have D3 : Hid (∀ wx, Calls Tryz.prog 26 #[.int .i64 l] wx (RetP wx (.string (decB l)))) := Lib.hid (fun wx => decimal_c l (by omega) wx)
  have s1 := decB_size r
  have s2 := decB_size t
  have s3 := decB_size l
  clear hr ht he
  rcases hop with rfl | rfl | rfl
  · go_enter Tryz.func27, Tryz.ntmps27
    go_wp2
    go_quiet (first | with_reducible exact quietP (D1.out _) | with_reducible exact quietP (D2.out _) | with_reducible exact quietP (D3.out _))
    go_wp2
    go_ret
    exact ⟨rfl, (below_alloc _ _).trans (below_drewN _ _ _)⟩
  · go_enter Tryz.func27, Tryz.ntmps27
    go_wp2
    go_quiet (first | with_reducible exact quietP (D1.out _) | with_reducible exact quietP (D2.out _) | with_reducible exact quietP (D3.out _))
    go_wp2
    go_ret
    exact ⟨rfl, (below_alloc _ _).trans (below_drewN _ _ _)⟩
  · go_enter Tryz.func27, Tryz.ntmps27
    go_wp2
    go_ret
    exact ⟨rfl, below_alloc _ _⟩
set_option maxHeartbeats 2000000 in
set_option maxRecDepth 100000 in
theorem implProgramText_c (R : Int) (os : List Ord) (a : Option Addr) (c : Nat) (w : World) (hx : SlO Any w a os) :
    Calls Tryz.prog 7 #[.agg #[.int .i64 R, .slice a os.length c]] w (RetV w (.string (textB R os))) := by
  have hb0 := below_alloc w (.cells #[.int .i64 R, .slice a os.length c] 26)
  have HV := Lib.hid (implValidProgram_c R Any a c os (w.alloc (.cells #[.int .i64 R, .slice a os.length c] 26)) (hx.below hb0))
  have HB0 := Lib.hid hb0
  have HX := Lib.hid hx
  have i1 := ix_of (P := Tryz.prog) tabO.under tabO.size (fun h0 => (hx.ptr h0).2) c
  cases hv : validProgS R os
  · have e : textB R os = ⟨#[]⟩ := by rw [textB, if_neg (by rw [hv]; simp)]
    rw [e]
    rw [hv] at HV
    clear e hv hb0 hx
    go_enter Tryz.func7, Tryz.ntmps7
    go_wp2_with fail
    refine HV.out.mono ?_
    rintro e w1 ⟨rfl, hb1⟩
    have HB1 := Lib.hid (HB0.out.trans (hb1.mono (by simp)))
    clear hb1
    go_wp2
    go_ret
    exact ⟨rfl, HB1.out⟩
  · have e : textB R os = progT R os os.length := by rw [textB, if_pos hv]
    rw [hv] at HV
    obtain ⟨hR0, hR1, hl6, hok⟩ := valid_ok hv
    obtain ⟨r, rfl⟩ : ∃ n : Nat, R = (n : Int) := ⟨R.toNat, by omega⟩
    have D0 : Hid (∀ wx, Calls Tryz.prog 26 #[.int .i64 r] wx (RetP wx (.string (decB r)))) := Lib.hid (fun wx => decimal_c r (by omega) wx)
    have s0 := decB_size r
    have HP0 : Hid (progT (r : Int) os 0 = ⟨#[112, 114, 111, 103, 114, 97, 109, 32]⟩ ++ decB r ++ ⟨#[10]⟩) := Lib.hid rfl
    have HOK := Lib.hid hok
    have HSZ := Lib.hid (progT_size (r : Int) os)
    have HE := Lib.hid e
    clear hv hb0 hx hR0 hR1 hok e
    go_enter Tryz.func7, Tryz.ntmps7
    go_wp2_with fail
    refine HV.out.mono ?_
    rintro e w1 ⟨rfl, hb1⟩
    have f0 : w1.cell? ⟨w.heap.size, 0, none⟩ = some (.int .i64 (r : Int)) := by rw [bcell1 hb1 (by simp)]; simp [go_sem]
    have f1 : w1.cell? ⟨w.heap.size, 1, none⟩ = some (.slice a os.length c) := by rw [bcell1 hb1 (by simp)]; simp [go_sem]
    have HB1 : Hid (Below w.heap.size w w1) := Lib.hid (HB0.out.trans (hb1.mono (by simp)))
    clear hb1
    go_wp2_with fail
    refine (D0.out _).mono ?_
    rintro e w2 ⟨rfl, rfl⟩
    go_wp2
    go_loopw [3, 5, 17] (fun s _ i wr => ∃ k : Nat, k ≤ os.length ∧ i = .int .i64 k ∧ s = .string (progT (r : Int) os k) ∧ Hid (Below w.heap.size w wr)) (fun _ _ i _ => os.length - (intOf i).toNat)
    case atStart => exact ⟨0, Nat.zero_le _, rfl, by rw [HP0.out], HB1⟩
    case round =>
      obtain ⟨k, hk, rfl, rfl, HB⟩ := hrel
      by_cases hlt : k < os.length
      · have hki : (k : Int) < os.length := by omega
        have hsl := HX.out.below HB.out
        have g0 := hsl.c0 k hlt
        have g1 := hsl.c1 k hlt
        have g2 := hsl.c2 k hlt
        have g3 := hsl.c3 k hlt
        obtain ⟨o, ho⟩ : ∃ o, o = nthO os k := ⟨_, rfl⟩
        rw [← ho] at g0 g1 g2 g3
        have C := Lib.hid (fun wx => orderText_c o (by rw [ho]; exact HOK.out k hlt) wx)
        obtain ⟨b, hb⟩ : ∃ b, b = progT (r : Int) os k := ⟨_, rfl⟩
        have HN : Hid (b ++ (ordT o ++ ⟨#[10]⟩) = progT (r : Int) os (k + 1)) := Lib.hid (by rw [hb, ho]; rfl)
        have hbs : b.size ≤ 70 := by have := HSZ.out k; rw [hb]; omega
        have hos := ordT_size o
        rw [← hb]
        obtain ⟨t, ht⟩ : ∃ t, t = ordT o := ⟨_, rfl⟩
        rw [← ht] at C HN hos
        have HZ := HB.out.size
        clear hsl ho hb ht
        go_wp2_with fail
        refine (C.out _).mono ?_
        rintro e w3 ⟨rfl, hb3⟩
        have HB3 : Hid (Below w.heap.size w w3) := Lib.hid (bnext (HB.out.alloc HB.out.size _) hb3 (Nat.le_refl _))
        clear hb3 C
        go_wp2
        go_roundw
        case rel => exact ⟨k + 1, by omega, by go_num, by rw [HN.out], HB3⟩
        case measure => simp [intOf]; omega
      · obtain rfl : k = os.length := by omega
        go_wp2
        go_ret
        exact ⟨ret_str HE.out.symm, HB.out⟩
theorem implProgramText_d (R : Int) (os : List Ord) {vo : Value} (w : World) (h1 : Rd Any w (dO os) vo) :
    Calls Tryz.prog 7 #[.agg #[.int .i64 R, vo]] w (RetV w (.string (textB R os))) := by
  obtain ⟨a, c, rfl, h⟩ := Rd_O.1 h1
  exact implProgramText_c R os a c w h
end Go.Proofs.YtbnikblhnibgiaaGreatDoor

/- The program with a text: what the program's reader and the reference's make of a text is one; plain. -/
namespace Go.Proofs.YtbnikblhnibgiaaGreatDoor
def decD (i : Int) : Bs := [UInt8.ofNat (48 + i.toNat)]
def ordL (o : Ord) : Bs := if o.op = 3 then [104, 97, 108, 116] else (if o.op = 2 then [115, 117, 98] else [97, 100, 100]) ++ 32 :: (decD o.reg ++ 32 :: (decD o.to ++ 32 :: decD o.els))
def headL (R : Int) : Bs := [112, 114, 111, 103, 114, 97, 109, 32] ++ decD R
def linesL (R : Int) (os : List Ord) : List Bs := headL R :: os.map ordL
def progL (R : Int) (os : List Ord) : Bs := (linesL R os).flatMap (· ++ [10])
theorem ordT_L (o : Ord) : (ordT o).data.toList = ordL o := by
  unfold ordT ordL
  split
  · rfl
  · split <;> simp [ByteArray.data_append, decB, decL, decD]
theorem progT_L (R : Int) (os : List Ord) : ∀ k, k ≤ os.length → (progT R os k).data.toList = (linesL R (os.take k)).flatMap (· ++ [10])
  | 0, _ => by simp [progT, linesL, headL, ByteArray.data_append, decB, decL, decD]
  | k + 1, h => by
    have e : os.take (k + 1) = os.take k ++ [nthO os k] := by rw [List.take_add_one, nthO_lt (by omega)]; simp [show k < os.length by omega]
    rw [progT, ByteArray.data_append, Array.toList_append, progT_L R os k (by omega), ByteArray.data_append, Array.toList_append, ordT_L, e]
    simp [linesL]
theorem text_L {R : Int} {os : List Ord} (h : validProgS R os = true) : (textB R os).data.toList = progL R os := by
  rw [textB, if_pos h, progT_L R os os.length (Nat.le_refl _), List.take_length, progL]
/-- The lines of a text, each of which ends with a newline; and whether the last one does. -/
def linesOfS (s : Bs) : List Bs × Bool := ((cutL 10 s).dropLast, (cutL 10 s).getLast? == some [])
theorem lines_back (ls : List Bs) (h : ∀ l ∈ ls, (10 : UInt8) ∉ l) : cutL 10 (ls.flatMap (· ++ [10])) = ls ++ [[]] := by
  induction ls with
  | nil => rfl
  | cons l r ih =>
    rw [List.flatMap_cons, List.append_assoc, List.singleton_append, cutL_hit _ (h l (by simp)), ih (fun x hx => h x (by simp [hx]))]
    rfl
/-- An order read by the program. -/
def pOrd (line : Bs) : Ord :=
  let ws := cutL 32 line
  let n := fun i => match ws[i + 1]? with | some w => pvS w | none => 0
  if ws[0]? = some [97, 100, 100] then ⟨1, n 0, n 1, n 2⟩ else if ws[0]? = some [115, 117, 98] then ⟨2, n 0, n 1, n 2⟩ else ⟨3, 0, 0, 0⟩
/-- An order read by the reference. -/
def sOrd (line : Bs) : Ord :=
  let ws := cutL 32 line ++ [[], [], []]
  let n := fun i => num7 (ws.getD (i + 1) [])
  if ws[0]? = some [104, 97, 108, 116] then ⟨3, 0, 0, 0⟩ else ⟨if ws[0]? = some [115, 117, 98] then 2 else if ws[0]? = some [97, 100, 100] then 1 else 3, n 0, n 1, n 2⟩
/-- The first line read by the program. -/
def pHead (line : Bs) : Int := pvS (Lib.trimPrefix line [112, 114, 111, 103, 114, 97, 109, 32])
/-- What stands behind a text's first instance. -/
def behindS (by' : Bs) : Bs → Option Bs
  | [] => if by' = [] then some [] else none
  | x :: l => if by'.isPrefixOf (x :: l) then some ((x :: l).drop by'.length) else behindS by' l
def sHead (line : Bs) : Int := num7 ((behindS [112, 114, 111, 103, 114, 97, 109, 32] line).getD [])
def progRd (s : Bs) : Option (Int × List Ord) :=
  let (ls, ok) := linesOfS s
  if ok = true ∧ 1 ≤ ls.length ∧ ls.length ≤ 7 then
    (if (textB (pHead (ls.getD 0 [])) (ls.tail.map pOrd)).data.toList = s then some (pHead (ls.getD 0 []), ls.tail.map pOrd) else none)
  else none
def specRd (s : Bs) : Option (Int × List Ord) :=
  let (ls, ok) := linesOfS s
  if ok = true ∧ 1 ≤ ls.length ∧ ls.length ≤ 7 then
    (if validProgS (sHead (ls.getD 0 [])) (ls.tail.map sOrd) = true ∧ progL (sHead (ls.getD 0 [])) (ls.tail.map sOrd) = s then some (sHead (ls.getD 0 []), ls.tail.map sOrd) else none)
  else none
theorem decD_eq {i : Int} (h : 0 ≤ i ∧ i < 10) : decD i = Lib.decDigits i.toNat := by rw [Lib.decDigits, dif_pos (by omega)]; rfl
theorem decD_pv {i : Int} (h : 0 ≤ i ∧ i < 10) : pvS (decD i) = i := by rw [decD_eq h, pvS_dec (by omega)]; omega
theorem decD_num {i : Int} (h : 0 ≤ i ∧ i < 10) : num7 (decD i) = i := by rw [decD_eq h, num7_dec (by omega)]; omega
theorem decD_not {i : Int} (h : 0 ≤ i ∧ i < 10) (c : UInt8) (hc : c.toNat < 48) : c ∉ decD i := by
  intro e
  simp only [decD, List.mem_singleton] at e
  have := u8_dig (i := i.toNat) (by omega)
  rw [← e] at this
  omega
theorem ord_cut {o : Ord} (h : OkO o) : cutL 32 (ordL o) = if o.op = 3 then [[104, 97, 108, 116]] else [if o.op = 2 then [115, 117, 98] else [97, 100, 100], decD o.reg, decD o.to, decD o.els] := by
  have h1 := decD_not h.reg 32 (by decide)
  have h2 := decD_not h.to 32 (by decide)
  have h3 := decD_not h.els 32 (by decide)
  unfold ordL
  split
  · rfl
  · rw [cutL_hit _ (by split <;> decide), cutL_hit _ h1, cutL_hit _ h2, cutL_miss h3]
theorem ord_no {o : Ord} (h : OkO o) : (10 : UInt8) ∉ ordL o := by
  have h1 := decD_not h.reg 10 (by decide)
  have h2 := decD_not h.to 10 (by decide)
  have h3 := decD_not h.els 10 (by decide)
  unfold ordL
  split
  · decide
  · simp only [List.mem_append, List.mem_cons]
    rintro (e | e | e | e | e | e)
    · revert e; split <;> decide
    · revert e; decide
    · exact h1 e
    · revert e; decide
    · exact h2 e
    · rcases e with e | e
      · revert e; decide
      · exact h3 e
theorem pOrd_back {R : Int} {n : Nat} {o : Ord} (h : OkO o) (hv : okOrd R n o = true) : pOrd (ordL o) = o := by
  have hc := ord_cut h
  obtain ⟨op, reg, tq, els⟩ := o
  rcases h.op with e | e | e
  · simp only at e; subst e
    rw [if_neg (show ¬ (1 : Int) = 3 by decide), if_neg (show ¬ (1 : Int) = 2 by decide)] at hc
    simp [pOrd, hc, decD_pv h.reg, decD_pv h.to, decD_pv h.els]
  · simp only at e; subst e
    rw [if_neg (show ¬ (2 : Int) = 3 by decide), if_pos rfl] at hc
    simp [pOrd, hc, decD_pv h.reg, decD_pv h.to, decD_pv h.els]
  · simp only at e; subst e
    rw [if_pos rfl] at hc
    simp [okOrd] at hv
    obtain ⟨rfl, rfl, rfl⟩ := hv
    simp [pOrd, hc]
theorem sOrd_back {R : Int} {n : Nat} {o : Ord} (h : OkO o) (hv : okOrd R n o = true) : sOrd (ordL o) = o := by
  have hc := ord_cut h
  obtain ⟨op, reg, tq, els⟩ := o
  rcases h.op with e | e | e
  · simp only at e; subst e
    rw [if_neg (show ¬ (1 : Int) = 3 by decide), if_neg (show ¬ (1 : Int) = 2 by decide)] at hc
    simp [sOrd, hc, decD_num h.reg, decD_num h.to, decD_num h.els]
  · simp only at e; subst e
    rw [if_neg (show ¬ (2 : Int) = 3 by decide), if_pos rfl] at hc
    simp [sOrd, hc, decD_num h.reg, decD_num h.to, decD_num h.els]
  · simp only at e; subst e
    rw [if_pos rfl] at hc
    simp [okOrd] at hv
    obtain ⟨rfl, rfl, rfl⟩ := hv
    simp [sOrd, hc]
theorem pHead_back {R : Int} (h : 0 ≤ R ∧ R < 10) : pHead (headL R) = R := by
  unfold pHead headL
  rw [show Lib.trimPrefix ([112, 114, 111, 103, 114, 97, 109, 32] ++ decD R) [112, 114, 111, 103, 114, 97, 109, 32] = decD R by
    unfold Lib.trimPrefix Lib.hasPrefix; rw [if_pos (by simp)]; rfl]
  exact decD_pv h
theorem sHead_back {R : Int} (h : 0 ≤ R ∧ R < 10) : sHead (headL R) = R := by
  unfold sHead headL
  rw [show behindS [112, 114, 111, 103, 114, 97, 109, 32] ([112, 114, 111, 103, 114, 97, 109, 32] ++ decD R) = some (decD R) by
    rw [List.cons_append, behindS, if_pos (by simp)]; rfl]
  exact decD_num h
theorem head_no {R : Int} (h : 0 ≤ R ∧ R < 10) : (10 : UInt8) ∉ headL R := by
  have h1 := decD_not h 10 (by decide)
  unfold headL
  rw [List.mem_append]
  rintro (e | e)
  · revert e; decide
  · exact h1 e
theorem map_back (f : Bs → Ord) (os : List Ord) (h : ∀ o ∈ os, f (ordL o) = o) : (os.map ordL).map f = os := by
  rw [List.map_map]
  conv => rhs; rw [← List.map_id os]
  exact List.map_congr_left (fun o ho => h o ho)
theorem okO_of {R : Int} {os : List Ord} (h : validProgS R os = true) : ∀ o ∈ os, OkO o ∧ okOrd R os.length o = true := by
  obtain ⟨_, _, _, h4⟩ := valid_ok h
  intro o ho
  obtain ⟨j, hj, rfl⟩ := List.getElem_of_mem ho
  have h5 := h4 j hj
  rw [nthO_lt hj] at h5
  refine ⟨h5, ?_⟩
  simp only [validProgS, Bool.and_eq_true] at h
  have h2 := h.2
  rw [allO, List.all_eq_true] at h2
  exact h2 _ ho
theorem lines_text {R : Int} {os : List Ord} (h : validProgS R os = true) : linesOfS (progL R os) = (linesL R os, true) ∧ (linesL R os).length = os.length + 1 ∧ 1 ≤ os.length ∧ os.length ≤ 6 := by
  obtain ⟨h1, h2, h3, h4⟩ := valid_ok h
  have hn : 1 ≤ os.length := by simp [validProgS, inRg] at h; omega
  have hc := lines_back (linesL R os) (fun l hl => by
    rw [linesL, List.mem_cons] at hl
    rcases hl with rfl | hl
    · exact head_no ⟨h1, h2⟩
    · obtain ⟨o, ho, rfl⟩ := List.mem_map.1 hl
      exact ord_no (okO_of h o ho).1)
  refine ⟨?_, by simp [linesL], hn, h3⟩
  unfold linesOfS progL
  rw [hc]
  simp
theorem spec_text {R : Int} {os : List Ord} (h : validProgS R os = true) : specRd (progL R os) = some (R, os) := by
  obtain ⟨h1, h2, h3, h4⟩ := lines_text h
  obtain ⟨g1, g2, _, _⟩ := valid_ok h
  have e1 : sHead ((linesL R os).getD 0 []) = R := by simpa [linesL] using sHead_back ⟨g1, g2⟩
  have e2 : (linesL R os).tail.map sOrd = os := map_back sOrd os (fun o ho => sOrd_back (okO_of h o ho).1 (okO_of h o ho).2)
  unfold specRd
  rw [h1]
  simp only
  rw [if_pos ⟨trivial, by omega, by omega⟩, e1, e2, if_pos ⟨h, rfl⟩]
theorem prog_text {R : Int} {os : List Ord} (h : validProgS R os = true) : progRd (progL R os) = some (R, os) := by
  obtain ⟨h1, h2, h3, h4⟩ := lines_text h
  obtain ⟨g1, g2, _, _⟩ := valid_ok h
  have e1 : pHead ((linesL R os).getD 0 []) = R := by simpa [linesL] using pHead_back ⟨g1, g2⟩
  have e2 : (linesL R os).tail.map pOrd = os := map_back pOrd os (fun o ho => pOrd_back (okO_of h o ho).1 (okO_of h o ho).2)
  unfold progRd
  rw [h1]
  simp only
  rw [if_pos ⟨trivial, by omega, by omega⟩, e1, e2, if_pos (text_L h)]
theorem spec_some {s : Bs} {p : Int × List Ord} (h : specRd s = some p) : validProgS p.1 p.2 = true ∧ progL p.1 p.2 = s := by
  unfold specRd at h
  simp only at h
  split at h
  · split at h
    · rename_i hc; cases h; exact hc
    · cases h
  · cases h
theorem prog_some {s : Bs} {p : Int × List Ord} (h : progRd s = some p) : validProgS p.1 p.2 = true ∧ progL p.1 p.2 = s := by
  unfold progRd at h
  simp only at h
  split at h
  · rename_i hl
    split at h
    · rename_i hc
      cases h
      cases hv : validProgS (pHead ((linesOfS s).1.getD 0 [])) ((linesOfS s).1.tail.map pOrd) with
      | true => exact ⟨rfl, by rw [← text_L hv]; exact hc⟩
      | false =>
        exfalso
        rw [textB, if_neg (by rw [hv]; simp)] at hc
        have hs : s = [] := hc.symm
        subst hs
        have := hl.2.1
        simp [linesOfS, cutL] at this
    · cases h
  · cases h
theorem rd_same (s : Bs) : progRd s = specRd s := by
  cases h1 : progRd s with
  | some p =>
    obtain ⟨hv, rfl⟩ := prog_some h1
    exact (spec_text hv).symm
  | none =>
    cases h2 : specRd s with
    | none => rfl
    | some p =>
      obtain ⟨hv, rfl⟩ := spec_some h2
      rw [prog_text hv] at h1; cases h1
end Go.Proofs.YtbnikblhnibgiaaGreatDoor

/- Readers of programs: lines, a text cut behind another, an order read by the reference. Written by mkga.py. -/
namespace Go.Proofs.YtbnikblhnibgiaaGreatDoor
open Go.RowKit
/-- 'append(v, ys...)' of strings just built. -/
theorem app_strs {P : Program} {ops : Array Oper} {rest : List Oper} {o : Oper} {ac : Act} {Q : Exit → Act → World → Prop} {w : World} (hgd : o.guard = none) (s x : Operand) (T : TypeId)
    (ho : o.op = .call { callee := .builtin .append, args := #[s, x], argTypes := #[T, T] }) {E bytes : Nat} {z : Value} (tab : Tab P T E z 1 bytes) (hzs : z.cells.size = 1) (hby : bytes ≤ 1024)
    (B : Nat) (v : Value) (vs : List Value) (hs : ac.eval s = v) (hown : Bld E w B v vs) (g m : Nat) (ys : List ByteArray) (hm : ys.length = m)
    (hx : ac.eval x = .slice (some ⟨g, 0, none⟩) m m) (hc : ∀ j u, (ys.map Value.string)[j]? = some u → w.cell? ⟨g, j, none⟩ = some u) (hlen : vs.length + ys.length < 4294967296) (h0 : 0 < m) (hB : B ≤ w.heap.size)
    (K : ∀ v' w', Bld E w' B v' (vs ++ ys.map Value.string) → Below B w w' → wpList P ops Q rest (ac.put o.dst v') w') : wpList P ops Q (o :: rest) ac w := by
  obtain ⟨i0, hi, hz0, hz1, hz2⟩ := info_parts tab.info
  subst hm
  have hbytes : (vs.length + ys.length) * bytes ≤ 140737488355328 := by
    have : (vs.length + ys.length) * bytes ≤ 4294967296 * 1024 := Nat.mul_le_mul (by omega) hby
    omega
  refine wpList_append_own w hgd s x T ho B E i0 z 1 bytes tab.under hi hz0 hz1 hz2 hzs (by decide) v vs.length vs hs hown ⟨g, 0, none⟩ ys.length ys.length (ys.map Value.string) hx (by simp) ?_ ?_ (by unfold maxLen; omega) hbytes hB ?_
  · intro j u hu
    rw [Addr.add_lit, Nat.zero_add]
    exact hc j u hu
  · intro u hu
    obtain ⟨y, _, rfl⟩ := List.mem_map.1 hu
    rfl
  · intro v' w' h2 h3 _
    have hlt := hown.lt
    refine K v' w' (by simpa [Bld] using h2) ?_
    exact (Below.refl B w).grown h3 hB fun k hk => (hlt k hk).1
theorem sl_to {P : Program} {T E k : Nat} (hT : P.underlying T = some (.slice E)) (hE : (P.info? E).map (·.size) = some k) (g o n c m : Nat) (hm : m ≤ c) (w' : World) :
    (Instr.slice T (.slice (some ⟨g, o, none⟩) n c) none (some (.int .i64 m)) none).run P w' = .ok (.slice (some ⟨g, o, none⟩) m c) w' := by
  have hE' : ∃ info, P.info? E = some info ∧ info.size = k := by
    cases hh : P.info? E with
    | none => simp [hh] at hE
    | some info => exact ⟨info, rfl, by simpa [hh] using hE⟩
  obtain ⟨info, hi, _⟩ := hE'
  by_cases hc : c = 0
  · have hm0 : m = 0 := by omega
    simp [hm0, Instr.slice, Instr.sliceBounds, Instr.sliceBound, run_underlying hT, asIntOf, sizeOf, typeInfo, hi, hc]
  · simp [hm, Instr.slice, Instr.sliceBounds, Instr.sliceBound, run_underlying hT, asIntOf, sizeOf, typeInfo, hi, hc, Addr.add_lit]
theorem sl_from {P : Program} {T E : Nat} (hT : P.underlying T = some (.slice E)) (hE : (P.info? E).map (·.size) = some 1) (g o n N c : Nat) (hn : n = N + 1) (w' : World) :
    (Instr.slice T (.slice (some ⟨g, o, none⟩) n c) (some (.int .i64 1)) none none).run P w' = .ok (.slice (some ⟨g, if c = 1 then o else o + 1, none⟩) N (c - 1)) w' := by
  have hE' : ∃ info, P.info? E = some info ∧ info.size = 1 := by
    cases hh : P.info? E with
    | none => simp [hh] at hE
    | some info => exact ⟨info, rfl, by simpa [hh] using hE⟩
  obtain ⟨info, hi, hs⟩ := hE'
  subst hn
  have hn1 : ¬ ((N : Int) + 1 < 1) := by omega
  by_cases hc : c = 1
  · simp [hn1, Instr.slice, Instr.sliceBounds, Instr.sliceBound, run_underlying hT, asIntOf, sizeOf, typeInfo, hi, hs, hc]
  · simp [hn1, Instr.slice, Instr.sliceBounds, Instr.sliceBound, run_underlying hT, asIntOf, sizeOf, typeInfo, hi, hs, hc, Addr.add_lit]
theorem sliceS_to {P : Program} {t : TypeId} (ht : P.underlying t = some .string) (s : ByteArray) (f : Nat) (h1 : f ≤ s.size) (w : World) :
    (Instr.slice t (.string s) none (some (.int .i64 (f : Int))) none).run P w = .ok (.string (s.extract 0 f)) w := by
  simp [go_sem, ht, h1]
theorem behind_step {b : Bs} : ∀ {x : UInt8} {l : Bs}, b.isPrefixOf (x :: l) = false → behindS b (x :: l) = behindS b l := fun {x l} h => by rw [behindS, if_neg (by rw [h]; simp)]
theorem behind_hit {b s : Bs} (h : b.isPrefixOf s = true) : behindS b s = some (s.drop b.length) := by
  cases s with
  | nil =>
    cases b with
    | nil => rfl
    | cons c r => simp [List.isPrefixOf] at h
  | cons x l => rw [behindS, if_pos h]
theorem behind_short {b : Bs} (h0 : b ≠ []) : ∀ {s : Bs}, s.length < b.length → behindS b s = none
  | [], _ => by rw [behindS, if_neg h0]
  | x :: l, h => by
    rw [behindS, if_neg, behind_short h0 (by simp at h; omega)]
    intro e
    have := List.IsPrefix.length_le (List.isPrefixOf_iff_prefix.1 e)
    omega
theorem prefix_take {b s : Bs} : b.isPrefixOf s = (s.take b.length == b) := by
  rw [Bool.eq_iff_iff, List.isPrefixOf_iff_prefix, beq_iff_eq, List.prefix_iff_eq_take]
  exact ⟨fun h => h.symm, fun h => h.symm⟩
/-- What stands behind a text's first instance is returned, second of three. -/
def CutP (w : World) (s b : ByteArray) (e : Ending) (w' : World) : Prop := ∃ (x y : ByteArray) (ok : Bool), e = .returned (.tuple #[.string x, .string y, .bool ok]) ∧ y.size ≤ s.size ∧ y.data.toList = (behindS b.data.toList s.data.toList).getD [] ∧ Below w.heap.size w w'
/-- The lines of a text are returned, in memory of their own, and whether the last one is whole. -/
def LinP (w : World) (s : ByteArray) (e : Ending) (w' : World) : Prop := ∃ (ws : List ByteArray) (g : Nat) (ok : Bool), ws.map (·.data.toList) = cutL 10 s.data.toList ∧ (linesOfS s.data.toList).2 = ok ∧ e = .returned (.tuple #[.slice (some ⟨g, 0, none⟩) (ws.length - 1) ws.length, .bool ok]) ∧
  1 ≤ ws.length ∧ ws.length ≤ 2097153 ∧ g < w'.heap.size ∧ w.heap.size ≤ g ∧ (∀ j, j < ws.length → w'.cell? ⟨g, j, none⟩ = some (.string (nthBA ws j))) ∧ Below w.heap.size w w'
set_option maxHeartbeats 4000000 in
set_option maxRecDepth 100000 in
theorem linesOf_c (s : ByteArray) (hs : s.size ≤ 2097152) (w : World) (hlib : LibOk w) :
    Calls Tryz.prog 20 #[.string s] w (LinP w s) := by
  have C := Lib.hid (split_c s 10 hs w hlib)
  clear hlib
  go_enter Tryz.func20, Tryz.ntmps20
  go_wp2_with fail
  refine C.out.mono ?_
  rintro e w1 ⟨ws, hws, hw1, hwl, rfl, hw2⟩
  have hb1 : Below w.heap.size w w1 := by rw [hw2]; exact below_alloc _ _
  have hg : w.heap.size < w1.heap.size := by rw [hw2]; simp
  have hcell : ∀ j, j < ws.length → w1.cell? ⟨w.heap.size, j, none⟩ = some (.string (nthBA ws j)) := fun j hj => by
    rw [hw2]; simp [go_sem, nthBA, hj]
  obtain ⟨m, hm⟩ : ∃ m, m = ws.length := ⟨_, rfl⟩
  obtain ⟨n, hn⟩ : ∃ n, m = n + 1 := ⟨m - 1, by omega⟩
  have hlast : (linesOfS s.data.toList).2 = (nthBA ws n).toList.isEmpty := by
    rw [linesOfS, ← hws, List.getLast?_map, List.getLast?_eq_getElem?, ← hm, hn, show n + 1 - 1 = n by omega, ByteArray.toList_eq, nthBA, List.getD_eq_getElem?_getD, List.getElem?_eq_getElem (by omega)]
    simp
  have g0 := hcell n (by omega)
  have iw := ix_of (P := Tryz.prog) tabStr.under tabStr.size (a := some ⟨w.heap.size, 0, none⟩) (n := m) (fun _ => ⟨w.heap.size, 0, rfl⟩) m
  simp only [Nat.mul_one, adr, blk, ofs, Nat.zero_add] at iw
  have jw := fun w' => iw n w' (by omega) (by omega)
  simp only [Int.toNat_natCast] at jw
  have HB := Lib.hid hb1
  have HCL := Lib.hid hcell
  have HWS := Lib.hid hws
  have HLA := Lib.hid hlast
  have HN := Lib.hid hn
  have HM := Lib.hid hm
  have HQ : Hid (ws.length - 1 = n ∧ ws.length = m) := Lib.hid (by omega)
  have hsl := fun w' => sl_to (P := Tryz.prog) tabStr.under tabStr.size w.heap.size 0 m m n (by omega) w'
  obtain ⟨y, hy⟩ : ∃ y, y = nthBA ws n := ⟨_, rfl⟩
  rw [← hy] at g0 HLA
  have hnb : n ≤ 2097152 := by omega
  have e2 : (m : Int) - 1 = n := by omega
  rw [← hm]
  clear hws hcell hlast hw2 hw1 hwl C hy iw hm hn
  go_wp2
  go_quiet (fail)
  go_wp2
  go_ret2
  exact ⟨ws, w.heap.size, _, HWS.out, HLA.out, by rw [HQ.out.1, HQ.out.2]; rfl, by have := HN.out; have := HM.out; omega, by have := HN.out; have := HM.out; omega, hg, Nat.le_refl _, HCL.out, ⟨HB.out.os, HB.out.tape, HB.out.output, HB.out.size, HB.out.block⟩⟩
end Go.Proofs.YtbnikblhnibgiaaGreatDoor

/- An order read by the reference. Written by mkgb.py. -/
namespace Go.Proofs.YtbnikblhnibgiaaGreatDoor
open Go.RowKit
theorem setO4 (w : World) (b : Nat) (v0 v1 v2 v3 : Value) {u0 u1 u2 u3 : Value} (h0 : w.cell? ⟨b, 0, none⟩ = some u0) (h1 : w.cell? ⟨b, 1, none⟩ = some u1) (h2 : w.cell? ⟨b, 2, none⟩ = some u2) (h3 : w.cell? ⟨b, 3, none⟩ = some u3) :
    ((((w.setCell ⟨b, 0, none⟩ v0).setCell ⟨b, 1, none⟩ v1).setCell ⟨b, 2, none⟩ v2).setCell ⟨b, 3, none⟩ v3).cell? ⟨b, 0, none⟩ = some v0 ∧ ((((w.setCell ⟨b, 0, none⟩ v0).setCell ⟨b, 1, none⟩ v1).setCell ⟨b, 2, none⟩ v2).setCell ⟨b, 3, none⟩ v3).cell? ⟨b, 1, none⟩ = some v1 ∧
    ((((w.setCell ⟨b, 0, none⟩ v0).setCell ⟨b, 1, none⟩ v1).setCell ⟨b, 2, none⟩ v2).setCell ⟨b, 3, none⟩ v3).cell? ⟨b, 2, none⟩ = some v2 ∧ ((((w.setCell ⟨b, 0, none⟩ v0).setCell ⟨b, 1, none⟩ v1).setCell ⟨b, 2, none⟩ v2).setCell ⟨b, 3, none⟩ v3).cell? ⟨b, 3, none⟩ = some v3 := by
  have o : ∀ (w : World) (i j : Nat) (v : Value), i ≠ j → (w.setCell ⟨b, i, none⟩ v).cell? ⟨b, j, none⟩ = w.cell? ⟨b, j, none⟩ := fun w i j v h => World.cell?_setCell_other _ _ _ _ (by intro e; cases e; exact h rfl)
  refine ⟨?_, ?_, ?_, ?_⟩
  · rw [o _ 3 0 _ (by omega), o _ 2 0 _ (by omega), o _ 1 0 _ (by omega)]; exact World.cell?_setCell_same _ _ _ h0
  · rw [o _ 3 1 _ (by omega), o _ 2 1 _ (by omega)]; exact World.cell?_setCell_same _ _ _ (by rw [o _ 0 1 _ (by omega)]; exact h1)
  · rw [o _ 3 2 _ (by omega)]; exact World.cell?_setCell_same _ _ _ (by rw [o _ 1 2 _ (by omega), o _ 0 2 _ (by omega)]; exact h2)
  · exact World.cell?_setCell_same _ _ _ (by rw [o _ 2 3 _ (by omega), o _ 1 3 _ (by omega), o _ 0 3 _ (by omega)]; exact h3)
/-- An order that is being read: its words in block g, the order in block Z. -/
structure ROrd (w wx : World) (g Z : Nat) (ws : List ByteArray) (x r t e : Int) : Prop where
  bel : Below w.heap.size w wx
  hg : w.heap.size < g ∧ g < wx.heap.size ∧ g ≠ Z
  hZ : w.heap.size < Z ∧ Z < wx.heap.size
  wd : ∀ j, j < ws.length → wx.cell? ⟨g, j, none⟩ = some (.string (nthBA ws j))
  c0 : wx.cell? ⟨Z, 0, none⟩ = some (.int .i64 x)
  c1 : wx.cell? ⟨Z, 1, none⟩ = some (.int .i64 r)
  c2 : wx.cell? ⟨Z, 2, none⟩ = some (.int .i64 t)
  c3 : wx.cell? ⟨Z, 3, none⟩ = some (.int .i64 e)
  zf : ∀ i, wx.frozen? ⟨Z, i, none⟩ = false
  r0 : ∃ u, wx.cell? ⟨w.heap.size, 0, none⟩ = some u
  r1 : ∃ u, wx.cell? ⟨w.heap.size, 1, none⟩ = some u
  r2 : ∃ u, wx.cell? ⟨w.heap.size, 2, none⟩ = some u
  r3 : ∃ u, wx.cell? ⟨w.heap.size, 3, none⟩ = some u
  rf : ∀ i, wx.frozen? ⟨w.heap.size, i, none⟩ = false
theorem ROrd.below {w wx wy : World} {g Z : Nat} {ws : List ByteArray} {x r t e : Int} (h : ROrd w wx g Z ws x r t e) (hb : Below wx.heap.size wx wy) : ROrd w wy g Z ws x r t e := by
  have hz := hb.size
  obtain ⟨h1, ⟨h2, h2', h2''⟩, ⟨h3, h3'⟩, h4, h5, h6, h7, h8, h9, ⟨u0, i0⟩, ⟨u1, i1⟩, ⟨u2, i2⟩, ⟨u3, i3⟩, h10⟩ := h
  have hw : w.heap.size < wx.heap.size := by omega
  exact ⟨bnext h1 hb (Nat.le_refl _), ⟨h2, by omega, h2''⟩, ⟨h3, by omega⟩, fun j hj => (bcell1 hb h2').trans (h4 j hj), (bcell1 hb h3').trans h5, (bcell1 hb h3').trans h6, (bcell1 hb h3').trans h7, (bcell1 hb h3').trans h8,
    fun i => (hb.frozen (p := ⟨Z, i, none⟩) h3').trans (h9 i), ⟨u0, (bcell1 hb hw).trans i0⟩, ⟨u1, (bcell1 hb hw).trans i1⟩, ⟨u2, (bcell1 hb hw).trans i2⟩, ⟨u3, (bcell1 hb hw).trans i3⟩, fun i => (hb.frozen (p := ⟨w.heap.size, i, none⟩) hw).trans (h10 i)⟩
theorem oth_cell {wx : World} {Z i b j : Nat} {v : Value} (h : b ≠ Z ∨ j ≠ i) : (wx.setCell ⟨Z, i, none⟩ v).cell? ⟨b, j, none⟩ = wx.cell? ⟨b, j, none⟩ := World.cell?_setCell_other _ _ _ _ (by intro e; cases e; omega)
theorem ROrd.set0 {w wx : World} {g Z : Nat} {ws : List ByteArray} {x r t e : Int} (h : ROrd w wx g Z ws x r t e) (y : Int) : ROrd w (wx.setCell ⟨Z, 0, none⟩ (.int .i64 y)) g Z ws y r t e := by
  have hg := h.hg
  have hZ := h.hZ
  have hs : (wx.setCell ⟨Z, 0, none⟩ (.int .i64 y)).heap.size = wx.heap.size := (Exc.setCell _ _ _).size
  obtain ⟨u0, i0⟩ := h.r0
  obtain ⟨u1, i1⟩ := h.r1
  obtain ⟨u2, i2⟩ := h.r2
  obtain ⟨u3, i3⟩ := h.r3
  exact ⟨h.bel.setCell (by simp; omega) _, by rw [hs]; exact hg, by rw [hs]; exact hZ, fun j hj => (oth_cell (.inl hg.2.2)).trans (h.wd j hj), World.cell?_setCell_same _ _ _ h.c0, (oth_cell (by omega)).trans h.c1, (oth_cell (by omega)).trans h.c2, (oth_cell (by omega)).trans h.c3, fun i => by rw [World.frozen?_setCell]; exact h.zf i,
    ⟨u0, (oth_cell (by omega)).trans i0⟩, ⟨u1, (oth_cell (by omega)).trans i1⟩, ⟨u2, (oth_cell (by omega)).trans i2⟩, ⟨u3, (oth_cell (by omega)).trans i3⟩, fun i => by rw [World.frozen?_setCell]; exact h.rf i⟩
theorem ROrd.set1 {w wx : World} {g Z : Nat} {ws : List ByteArray} {x r t e : Int} (h : ROrd w wx g Z ws x r t e) (y : Int) : ROrd w (wx.setCell ⟨Z, 1, none⟩ (.int .i64 y)) g Z ws x y t e := by
  have hg := h.hg
  have hZ := h.hZ
  have hs : (wx.setCell ⟨Z, 1, none⟩ (.int .i64 y)).heap.size = wx.heap.size := (Exc.setCell _ _ _).size
  obtain ⟨u0, i0⟩ := h.r0
  obtain ⟨u1, i1⟩ := h.r1
  obtain ⟨u2, i2⟩ := h.r2
  obtain ⟨u3, i3⟩ := h.r3
  exact ⟨h.bel.setCell (by simp; omega) _, by rw [hs]; exact hg, by rw [hs]; exact hZ, fun j hj => (oth_cell (.inl hg.2.2)).trans (h.wd j hj), (oth_cell (by omega)).trans h.c0, World.cell?_setCell_same _ _ _ h.c1, (oth_cell (by omega)).trans h.c2, (oth_cell (by omega)).trans h.c3, fun i => by rw [World.frozen?_setCell]; exact h.zf i,
    ⟨u0, (oth_cell (by omega)).trans i0⟩, ⟨u1, (oth_cell (by omega)).trans i1⟩, ⟨u2, (oth_cell (by omega)).trans i2⟩, ⟨u3, (oth_cell (by omega)).trans i3⟩, fun i => by rw [World.frozen?_setCell]; exact h.rf i⟩
theorem ROrd.set2 {w wx : World} {g Z : Nat} {ws : List ByteArray} {x r t e : Int} (h : ROrd w wx g Z ws x r t e) (y : Int) : ROrd w (wx.setCell ⟨Z, 2, none⟩ (.int .i64 y)) g Z ws x r y e := by
  have hg := h.hg
  have hZ := h.hZ
  have hs : (wx.setCell ⟨Z, 2, none⟩ (.int .i64 y)).heap.size = wx.heap.size := (Exc.setCell _ _ _).size
  obtain ⟨u0, i0⟩ := h.r0
  obtain ⟨u1, i1⟩ := h.r1
  obtain ⟨u2, i2⟩ := h.r2
  obtain ⟨u3, i3⟩ := h.r3
  exact ⟨h.bel.setCell (by simp; omega) _, by rw [hs]; exact hg, by rw [hs]; exact hZ, fun j hj => (oth_cell (.inl hg.2.2)).trans (h.wd j hj), (oth_cell (by omega)).trans h.c0, (oth_cell (by omega)).trans h.c1, World.cell?_setCell_same _ _ _ h.c2, (oth_cell (by omega)).trans h.c3, fun i => by rw [World.frozen?_setCell]; exact h.zf i,
    ⟨u0, (oth_cell (by omega)).trans i0⟩, ⟨u1, (oth_cell (by omega)).trans i1⟩, ⟨u2, (oth_cell (by omega)).trans i2⟩, ⟨u3, (oth_cell (by omega)).trans i3⟩, fun i => by rw [World.frozen?_setCell]; exact h.rf i⟩
theorem ROrd.set3 {w wx : World} {g Z : Nat} {ws : List ByteArray} {x r t e : Int} (h : ROrd w wx g Z ws x r t e) (y : Int) : ROrd w (wx.setCell ⟨Z, 3, none⟩ (.int .i64 y)) g Z ws x r t y := by
  have hg := h.hg
  have hZ := h.hZ
  have hs : (wx.setCell ⟨Z, 3, none⟩ (.int .i64 y)).heap.size = wx.heap.size := (Exc.setCell _ _ _).size
  obtain ⟨u0, i0⟩ := h.r0
  obtain ⟨u1, i1⟩ := h.r1
  obtain ⟨u2, i2⟩ := h.r2
  obtain ⟨u3, i3⟩ := h.r3
  exact ⟨h.bel.setCell (by simp; omega) _, by rw [hs]; exact hg, by rw [hs]; exact hZ, fun j hj => (oth_cell (.inl hg.2.2)).trans (h.wd j hj), (oth_cell (by omega)).trans h.c0, (oth_cell (by omega)).trans h.c1, (oth_cell (by omega)).trans h.c2, World.cell?_setCell_same _ _ _ h.c3, fun i => by rw [World.frozen?_setCell]; exact h.zf i,
    ⟨u0, (oth_cell (by omega)).trans i0⟩, ⟨u1, (oth_cell (by omega)).trans i1⟩, ⟨u2, (oth_cell (by omega)).trans i2⟩, ⟨u3, (oth_cell (by omega)).trans i3⟩, fun i => by rw [World.frozen?_setCell]; exact h.rf i⟩
/-- The order is put where results go. -/
theorem ROrd.ret {w wx : World} {g Z : Nat} {ws : List ByteArray} {x r t e : Int} (h : ROrd w wx g Z ws x r t e) {R : Value} (hR : R = .agg #[.int .i64 x, .int .i64 r, .int .i64 t, .int .i64 e]) :
    RetV w R (.returned (.agg #[.int .i64 x, .int .i64 r, .int .i64 t, .int .i64 e])) ((((wx.setCell ⟨w.heap.size, 0, none⟩ (.int .i64 x)).setCell ⟨w.heap.size, 1, none⟩ (.int .i64 r)).setCell ⟨w.heap.size, 2, none⟩ (.int .i64 t)).setCell ⟨w.heap.size, 3, none⟩ (.int .i64 e)) :=
  ⟨by rw [hR], (((h.bel.setCell (Nat.le_refl _) _).setCell (Nat.le_refl _) _).setCell (Nat.le_refl _) _).setCell (Nat.le_refl _) _⟩
theorem sOrd_halt {line : Bs} (h : (cutL 32 line ++ [[], [], []])[0]? = some [104, 97, 108, 116]) : sOrd line = ⟨3, 0, 0, 0⟩ := by unfold sOrd; simp only; rw [if_pos h]
theorem sOrd_else {line : Bs} {ws : List ByteArray} (hws : ws.map (·.data.toList) = cutL 32 line ++ [[], [], []]) (h4 : 4 ≤ ws.length) (h : (nthBA ws 0).data.toList ≠ [104, 97, 108, 116]) :
    sOrd line = ⟨if (nthBA ws 0).data.toList = [115, 117, 98] then 2 else if (nthBA ws 0).data.toList = [97, 100, 100] then 1 else 3, num7 (nthBA ws 1).data.toList, num7 (nthBA ws 2).data.toList, num7 (nthBA ws 3).data.toList⟩ := by
  have e : ∀ k, k < ws.length → (cutL 32 line ++ [[], [], []])[k]? = some (nthBA ws k).data.toList := fun k hk => by
    rw [← hws, List.getElem?_map, List.getElem?_eq_getElem hk]
    simp [nthBA, hk]
  unfold sOrd
  simp only [List.getD_eq_getElem?_getD]
  rw [e 0 (by omega), e 1 (by omega), e 2 (by omega), e 3 (by omega), if_neg (by simpa using h)]
  simp
end Go.Proofs.YtbnikblhnibgiaaGreatDoor

/- Programs that are read: the reference's function. Written by mkgc.py. -/
namespace Go.Proofs.YtbnikblhnibgiaaGreatDoor
open Go.RowKit
/-- What ReadProgram tells, and a code. -/
def readProgS (s : Bs) : (Int × List Ord) × Int := match specRd s with
  | some p => (p, 0)
  | none => ((0, []), 5)
/-- The call returns a row in memory of its own, and a code. -/
def RetAQ (w : World) (ds : List D) (code : Int) (e : Ending) (w' : World) : Prop := ∃ vs F, e = .returned (.tuple #[.agg ⟨vs⟩, .int .i64 code]) ∧ Below w.heap.size w w' ∧ OwA w' ds vs F ∧ F.Nodup ∧ ∀ g, g ∈ F → w.heap.size ≤ g
theorem RetAQ.put {w w1 : World} {b : Nat} {R : Int} {os : List Ord} {v : Value} {F : List Nat} (h : Below w.heap.size w w1) (hb : w.heap.size ≤ b) (ho : Ow w1 (dO os) v F) (hn : F.Nodup) (hF : ∀ y, y ∈ F → w.heap.size ≤ y) (hbF : b ∉ F) (code : Int) :
    RetAQ w [.i R, dO os] code (.returned (.tuple #[.agg #[.int .i64 R, v], .int .i64 code])) ((w1.setCell ⟨b, 0, none⟩ (.int .i64 R)).setCell ⟨b, 1, none⟩ v) :=
  ⟨[.int .i64 R, v], F, rfl, (h.setCell hb _).setCell hb _, ⟨[], F, ⟨rfl, rfl⟩, ⟨F, [], (ho.setCell hbF _).setCell hbF _, rfl, by simp⟩, by simp⟩, hn, hF⟩
theorem setP2 (w : World) (b : Nat) (v0 v1 : Value) {u0 u1 : Value} (h0 : w.cell? ⟨b, 0, none⟩ = some u0) (h1 : w.cell? ⟨b, 1, none⟩ = some u1) :
    ((w.setCell ⟨b, 0, none⟩ v0).setCell ⟨b, 1, none⟩ v1).cell? ⟨b, 0, none⟩ = some v0 ∧ ((w.setCell ⟨b, 0, none⟩ v0).setCell ⟨b, 1, none⟩ v1).cell? ⟨b, 1, none⟩ = some v1 ∧ (w.setCell ⟨b, 0, none⟩ v0).cell? ⟨b, 0, none⟩ = some v0 := by
  have e0 : (w.setCell ⟨b, 0, none⟩ v0).cell? ⟨b, 0, none⟩ = some v0 := World.cell?_setCell_same _ _ _ h0
  have e1 : (w.setCell ⟨b, 0, none⟩ v0).cell? ⟨b, 1, none⟩ = some u1 := by rw [World.cell?_setCell_other _ _ _ _ (by simp)]; exact h1
  exact ⟨by rw [World.cell?_setCell_other _ _ _ _ (by simp)]; exact e0, World.cell?_setCell_same _ _ _ e1, e0⟩
theorem Bld.isSl {E : Nat} {w : World} {B : Nat} {v : Value} {vs : List Value} (h : Bld E w B v vs) : ∃ a c, v = .slice a vs.length c := by
  obtain ⟨_, h2⟩ := h
  rcases h2 with ⟨rfl, h0⟩ | ⟨g, cap, cur, rfl, _⟩
  · exact ⟨none, 0, by rw [h0]⟩
  · exact ⟨_, cap, rfl⟩
/-- A program that is being read, in block pb. -/
structure Prg (w1 : World) (pb : Nat) (R : Int) (wr : World) (os : List Ord) (v : Value) (G : List Nat) : Prop where
  bel : Below w1.heap.size w1 wr
  hp : w1.heap.size ≤ pb
  hz : pb < wr.heap.size
  c0 : wr.cell? ⟨pb, 0, none⟩ = some (.int .i64 R)
  c1 : wr.cell? ⟨pb, 1, none⟩ = some v
  zc : ∀ i, wr.frozen? ⟨pb, i, none⟩ = false
  lst : Lst 66 4 wr (pb + 1) v os.length (os.flatMap Ord.ds) G
theorem Prg.go {w1 : World} {pb : Nat} {R : Int} {wr w' : World} {os : List Ord} {v : Value} {G : List Nat} (h : Prg w1 pb R wr os v G) (hb : Below wr.heap.size wr w') : Prg w1 pb R w' os v G :=
  ⟨bnext h.bel hb (Nat.le_refl _), h.hp, Nat.lt_of_lt_of_le h.hz hb.size, (bcell1 hb h.hz).trans h.c0, (bcell1 hb h.hz).trans h.c1, fun i => (hb.frozen (p := ⟨pb, i, none⟩) h.hz).trans (h.zc i), h.lst.below hb⟩
theorem Prg.put {w1 : World} {pb : Nat} {R : Int} {wr w7 : World} {os : List Ord} {v v' : Value} {G G' : List Nat} {r : Ord} (hk : Prg w1 pb R wr os v G) (hN : LstNext 66 4 wr w7 (pb + 1) v v' os.length (os.flatMap Ord.ds) r.ds G [] G') :
    w7.cell? ⟨pb, 1, none⟩ = some v ∧ w7.frozen? ⟨pb, 1, none⟩ = false ∧ Below w1.heap.size w1 w7 ∧ Prg w1 pb R (w7.setCell ⟨pb, 1, none⟩ v') (os ++ [r]) v' G' := by
  have hz := hk.hz
  have hp := hk.hp
  have hlt := hk.lst.lt
  have hob : ∀ g, g ∈ ob v → pb + 1 ≤ g := fun g hg => (hlt g (ob_sub hk.lst _ hg)).1
  have n2 : pb ∉ ob v := fun e => by have := hob _ e; omega
  have c0 := (hN.chg.cell (by omega) n2 0).trans hk.c0
  have c1 := (hN.chg.cell (by omega) n2 1).trans hk.c1
  have zc := fun i => (hN.chg.frozen (by omega) n2 i).trans (hk.zc i)
  have hG : ∀ x, x ∈ G' → pb + 1 ≤ x := fun x hx => by
    rcases hN.mem x hx with h | h | h
    · exact (hlt x h).1
    · simp at h
    · omega
  have hzz : pb < w7.heap.size := Nat.lt_of_lt_of_le hz hN.chg.size
  have hcs : Chg [pb] w7 (w7.setCell ⟨pb, 1, none⟩ v') := chg_set w7 ⟨pb, 1, none⟩ v' [pb] (by simp)
  have hsz := (Exc.setCell w7 ⟨pb, 1, none⟩ v').size
  have a1 : Below w1.heap.size w1 w7 := hk.bel.trans (hN.chg.below (Nat.le_trans hk.bel.size (Nat.le_refl _)) (fun g hg => by have := hob g hg; omega))
  refine ⟨c1, zc 1, a1, a1.setCell (by simp; omega) _, hp, by rw [hsz]; exact hzz, (oth_cell (.inr (by omega))).trans c0, World.cell?_setCell_same _ _ _ c1, fun i => by rw [World.frozen?_setCell]; exact zc i, ?_⟩
  have := hN.lst.keep hcs fun g hg e => by
    have := hG g hg
    simp at e; omega
  simpa using this
theorem Prg.ret {w w1 : World} {b pb : Nat} {R : Int} {wr : World} {os : List Ord} {v : Value} {G : List Nat} (h : Prg w1 pb R wr os v G) (h1 : Below w.heap.size w w1) (hb : w.heap.size ≤ b) (hbp : b < w1.heap.size) (h6 : os.length ≤ 6) {Q : (Int × List Ord) × Int} (hQ : Q = ((R, os), 0)) :
    RetAQ w [.i Q.1.1, dO Q.1.2] Q.2 (.returned (.tuple #[.agg #[.int .i64 R, v], .int .i64 0])) ((wr.setCell ⟨b, 0, none⟩ (.int .i64 R)).setCell ⟨b, 1, none⟩ v) := by
  subst hQ
  obtain ⟨G', o1, n1, s1⟩ := h.lst.ow (by omega) (by unfold maxLen; omega)
  have hlt := h.lst.lt
  have hp := h.hp
  have hz := h1.size
  exact RetAQ.put (bnext h1 h.bel (Nat.le_refl _)) hb o1 n1 (fun y hy => by have := (hlt y (s1 y hy)).1; omega) (fun e => by have := (hlt _ (s1 _ e)).1; omega) 0
theorem RetAQ.none {w w1 : World} {b : Nat} (h : Below w.heap.size w w1) (hb : w.heap.size ≤ b) {Q : (Int × List Ord) × Int} (hQ : Q = ((0, []), 5)) :
    RetAQ w [.i Q.1.1, dO Q.1.2] Q.2 (.returned (.tuple #[.agg #[.int .i64 0, .slice none 0 0], .int .i64 5])) ((w1.setCell ⟨b, 0, none⟩ (.int .i64 0)).setCell ⟨b, 1, none⟩ (.slice none 0 0)) := by
  subst hQ
  exact RetAQ.put h hb (Ow_empty _ _ _ _) (by simp) (by simp) (by simp) 5
theorem Prg.slO {w1 : World} {pb : Nat} {R : Int} {wr : World} {os : List Ord} {a : Option Addr} {n c : Nat} {G : List Nat} (h : Prg w1 pb R wr os (.slice a n c) G) (h6 : os.length ≤ 6) : SlO Any wr a os := by
  obtain ⟨G', o1, _, _⟩ := h.lst.ow (by omega) (by unfold maxLen; omega)
  exact (Ow.argO o1).2
theorem Prg.start {w1 w4 : World} {R : Int} (h : Below w1.heap.size w1 w4) : Prg w1 w4.heap.size R (w4.alloc (.cells #[.int .i64 R, .slice none 0 0] 26)) [] (.slice none 0 0) [] :=
  ⟨bnext h (below_alloc _ _) (Nat.le_refl _), h.size, by simp, by simp [go_sem], by simp [go_sem], fun i => by simp [go_sem], Lst.nil _ _ _ _⟩
theorem row_ordR {w5 : World} {B : Nat} {o : Ord} {E : TypeId} {G : List Nat} : RowAt (w5.alloc (.cells #[.int .i64 o.op, .int .i64 o.reg, .int .i64 o.to, .int .i64 o.els] E)) w5.heap.size 4 B o.ds [.int .i64 o.op, .int .i64 o.reg, .int .i64 o.to, .int .i64 o.els] [] G := by
  refine ⟨⟨[], [], ⟨rfl, rfl⟩, ⟨[], [], ⟨rfl, rfl⟩, ⟨[], [], ⟨rfl, rfl⟩, ⟨[], [], ⟨rfl, rfl⟩, rfl, rfl⟩, rfl⟩, rfl⟩, rfl⟩, rfl, by simp, by simp, by simp, fun j u hu => ?_, by simp [Value.oneCell']⟩
  match j, hu with
  | 0, hu => simp at hu; subst hu; simp
  | 1, hu => simp at hu; subst hu; simp
  | 2, hu => simp at hu; subst hu; simp
  | 3, hu => simp at hu; subst hu; simp
theorem tail_step (f : Bs → Ord) {ws : List ByteArray} {k : Nat} (h1 : 1 ≤ k) (hk : k < ws.length) : ((ws.map (·.data.toList)).tail.take (k - 1)).map f ++ [f (nthBA ws k).data.toList] = ((ws.map (·.data.toList)).tail.take k).map f := by
  obtain ⟨q, rfl⟩ : ∃ q, k = q + 1 := ⟨k - 1, by omega⟩
  have e : (ws.map (·.data.toList)).tail[q]? = some (nthBA ws (q + 1)).data.toList := by
    rw [List.getElem?_tail, List.getElem?_map, List.getElem?_eq_getElem hk]
    simp [nthBA, hk]
  rw [show q + 1 - 1 = q by omega, List.take_add_one, e, List.map_append]
  rfl
theorem readProg_none {s : Bs} (h : specRd s = none) : readProgS s = ((0, []), 5) := by unfold readProgS; rw [h]
theorem readProg_some {s : Bs} {p : Int × List Ord} (h : specRd s = some p) : readProgS s = (p, 0) := by unfold readProgS; rw [h]
theorem specRd_a {s : Bs} {ls : List Bs} {ok : Bool} (h1 : (linesOfB s).1 = ls) (h2 : (linesOfB s).2 = ok) (h : ¬ (ok = true ∧ 1 ≤ ls.length ∧ ls.length ≤ 7)) : specRd s = none := by
  have e : linesOfS s = (ls, ok) := by rw [← h1, ← h2]; rfl
  unfold specRd
  rw [e]
  simp only
  rw [if_neg h]
theorem specRd_b {s : Bs} {ls : List Bs} {ok : Bool} (h1 : (linesOfB s).1 = ls) (h2 : (linesOfB s).2 = ok) (h : ok = true ∧ 1 ≤ ls.length ∧ ls.length ≤ 7) :
    specRd s = if validProgS (sHead (ls.getD 0 [])) (ls.tail.map sOrd) = true ∧ progL (sHead (ls.getD 0 [])) (ls.tail.map sOrd) = s then some (sHead (ls.getD 0 []), ls.tail.map sOrd) else none := by
  have e : linesOfS s = (ls, ok) := by rw [← h1, ← h2]; rfl
  unfold specRd
  rw [e]
  simp only
  rw [if_pos h]
end Go.Proofs.YtbnikblhnibgiaaGreatDoor
