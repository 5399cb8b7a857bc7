/- Orders and programs as data. No program text is in sight. -/
import Derived.Test.YtbnikblhnibgiaaDoorG
namespace Go.Proofs.YtbnikblhnibgiaaDoor
open Go.RowKit

/-- An order. -/
structure Ord where
  op : Int
  reg : Int
  to : Int
  els : Int
def Ord.ds (o : Ord) : List D := [.i o.op, .i o.reg, .i o.to, .i o.els]
def ordZ : Ord := ⟨0, 0, 0, 0⟩
def nthO (os : List Ord) (i : Nat) : Ord := os.getD i ordZ
theorem nthO_lt {os : List Ord} {i : Nat} (h : i < os.length) : nthO os i = os[i] := by simp [nthO, h]
def Ord.val (o : Ord) : Value := .agg #[.int .i64 o.op, .int .i64 o.reg, .int .i64 o.to, .int .i64 o.els]
def dO (os : List Ord) : D := .l 4 (os.flatMap Ord.ds)

theorem flat_len (os : List Ord) : (os.flatMap Ord.ds).length = os.length * 4 := by
  induction os with
  | nil => rfl
  | cons o os ih => simp only [List.flatMap_cons, List.length_append, ih, List.length_cons]; simp [Ord.ds]; omega
theorem flat_get : ∀ (os : List Ord) (i j : Nat), i < os.length → j < 4 → (os.flatMap Ord.ds)[i * 4 + j]? = (nthO os i).ds[j]?
  | [], i, j, hi, _ => absurd hi (by simp)
  | o :: os, 0, j, _, hj => by
    rw [List.flatMap_cons, List.getElem?_append_left (by simp [Ord.ds]; omega)]
    simp [nthO]
  | o :: os, i + 1, j, hi, hj => by
    rw [List.flatMap_cons, List.getElem?_append_right (by simp [Ord.ds]; omega)]
    have := flat_get os i j (by simpa using hi) hj
    rw [show (i + 1) * 4 + j - o.ds.length = i * 4 + j from by simp [Ord.ds]; omega, this]
    simp [nthO]

/-- The cells of a list of orders. -/
structure SlO (S : Nat → Prop) (w : World) (a : Option Addr) (os : List Ord) : Prop where
  len : os.length ≤ maxLen
  ptr : 0 < os.length → S (blk a) ∧ ∃ g o, a = some ⟨g, o, none⟩
  c0 : ∀ i, i < os.length → w.cell? (adr a (i * 4)) = some (.int .i64 (nthO os i).op)
  c1 : ∀ i, i < os.length → w.cell? (adr a (i * 4 + 1)) = some (.int .i64 (nthO os i).reg)
  c2 : ∀ i, i < os.length → w.cell? (adr a (i * 4 + 2)) = some (.int .i64 (nthO os i).to)
  c3 : ∀ i, i < os.length → w.cell? (adr a (i * 4 + 3)) = some (.int .i64 (nthO os i).els)
theorem Rd_O {S : Nat → Prop} {w : World} {os : List Ord} {v : Value} : Rd S w (dO os) v ↔ ∃ a c, v = .slice a os.length c ∧ SlO S w a os := by
  constructor
  · rintro ⟨a, m, c, hv, hl, hm, hp, hr⟩
    rw [flat_len] at hl
    have hl' : os.length = m := by omega
    subst hl'
    have key : ∀ i j d, i < os.length → j < 4 → (nthO os i).ds[j]? = some d → ∃ u, w.cell? (adr a (i * 4 + j)) = some u ∧ Rd S w d u := fun i j d hi hj hd => by
      obtain ⟨u, hc, hu⟩ := RdL.get _ _ _ hr (i * 4 + j) d (by rw [flat_get os i j hi hj]; exact hd)
      exact ⟨u, hc, hu⟩
    have k2 : ∀ i j n, i < os.length → j < 4 → (nthO os i).ds[j]? = some (.i n) → w.cell? (adr a (i * 4 + j)) = some (.int .i64 n) := fun i j n hi hj hd => by
      obtain ⟨u, hc, hu⟩ := key i j _ hi hj hd
      rw [show u = _ from hu] at hc; exact hc
    refine ⟨a, c, hv, hm, fun h0 => ?_, fun i hi => k2 i 0 _ hi (by omega) rfl, fun i hi => k2 i 1 _ hi (by omega) rfl, fun i hi => k2 i 2 _ hi (by omega) rfl, fun i hi => k2 i 3 _ hi (by omega) rfl⟩
    rcases hp with hp | hp
    · have := congrArg List.length hp
      rw [flat_len] at this
      simp only [List.length_nil] at this
      omega
    · exact hp
  · rintro ⟨a, c, rfl, h⟩
    refine ⟨a, os.length, c, rfl, flat_len _, h.len, ?_, ?_⟩
    · cases os with
      | nil => exact .inl rfl
      | cons x xs => exact .inr (h.ptr (by simp))
    · refine RdL.mk _ _ _ fun i d hd => ?_
      have hi := (List.getElem?_eq_some_iff.1 hd).1
      rw [flat_len] at hi
      obtain ⟨q, j, rfl, hj⟩ : ∃ q j, i = q * 4 + j ∧ j < 4 := ⟨i / 4, i % 4, by omega, by omega⟩
      have hq : q < os.length := by omega
      rw [flat_get os q j hq hj] at hd
      match j, hj, hd with
      | 0, _, hd => simp [Ord.ds] at hd; subst hd; exact ⟨_, h.c0 q hq, rfl⟩
      | 1, _, hd => simp [Ord.ds] at hd; subst hd; exact ⟨_, h.c1 q hq, rfl⟩
      | 2, _, hd => simp [Ord.ds] at hd; subst hd; exact ⟨_, h.c2 q hq, rfl⟩
      | 3, _, hd => simp [Ord.ds] at hd; subst hd; exact ⟨_, h.c3 q hq, rfl⟩
theorem SlO.below {S : Nat → Prop} {w w' : World} {a : Option Addr} {os : List Ord} (h : SlO S w a os) (hb : Below w.heap.size w w') : SlO S w' a os := by
  obtain ⟨a', c', e, h'⟩ := Rd_O.1 ((Rd_O.2 ⟨a, 0, rfl, h⟩).below hb)
  cases e; exact h'
theorem SlO.any {S : Nat → Prop} {w : World} {a : Option Addr} {os : List Ord} (h : SlO S w a os) : SlO Any w a os := ⟨h.len, fun h0 => ⟨trivial, (h.ptr h0).2⟩, h.c0, h.c1, h.c2, h.c3⟩
theorem Ow.argO {w : World} {os : List Ord} {a : Option Addr} {n c : Nat} {F : List Nat} (h : Ow w (dO os) (.slice a n c) F) : n = os.length ∧ SlO Any w a os := by
  obtain ⟨a', c', e, h'⟩ := Rd_O.1 (Ow.rd _ _ _ h)
  cases e; exact ⟨rfl, h'.any⟩

/-- The program's order is a right one. -/
def okOrd (R : Int) (n : Nat) (o : Ord) : Bool :=
  if o.op = 1 ∨ o.op = 2 then inRg o.reg 0 (R - 1) && inRg o.to 0 n && inRg o.els 0 n else decide (o.op = 3 ∧ o.reg = 0 ∧ o.to = 0 ∧ o.els = 0)
def allO (p : Ord → Bool) (os : List Ord) : Bool := os.all p
theorem allO_true {p : Ord → Bool} {os : List Ord} (h : ∀ j, j < os.length → p (nthO os j) = true) : allO p os = true := by
  rw [allO, List.all_eq_true]
  intro x hx
  obtain ⟨j, hj, rfl⟩ := List.getElem_of_mem hx
  simpa [nthO_lt hj] using h j hj
theorem allO_false {p : Ord → Bool} {os : List Ord} {k : Nat} (hk : k < os.length) (h : p (nthO os k) = false) : allO p os = false := by
  rw [allO, List.all_eq_false]
  exact ⟨_, List.getElem_mem hk, by simpa [nthO_lt hk] using h⟩
def validProgS (R : Int) (os : List Ord) : Bool := inRg R 1 3 && inRg os.length 1 6 && allO (okOrd R os.length) os
/-- The first place where p holds, or -1. -/
def idxO (p : Ord → Bool) (xs : List Ord) : Int := match xs.findIdx? p with | some i => (i : Int) | none => -1
theorem idxO_at {p : Ord → Bool} {xs : List Ord} {k : Nat} (hk : k < xs.length) (h : ∀ j, j < k → p (nthO xs j) = false) (hp : p (nthO xs k) = true) : idxO p xs = k := by
  have : xs.findIdx? p = some k := by
    rw [List.findIdx?_eq_some_iff_getElem]
    refine ⟨hk, by simpa [nthO, hk] using hp, fun j hj => ?_⟩
    have := h j hj
    simpa [nthO, show j < xs.length by omega] using this
  simp [idxO, this]
theorem idxO_none {p : Ord → Bool} {xs : List Ord} (h : ∀ j, j < xs.length → p (nthO xs j) = false) : idxO p xs = -1 := by
  have : xs.findIdx? p = none := by
    rw [List.findIdx?_eq_none_iff]
    intro x hx
    obtain ⟨j, hj, rfl⟩ := List.getElem_of_mem hx
    simpa [nthO, hj] using h j hj
  simp [idxO, this]
def anyO (p : Ord → Bool) (xs : List Ord) : Bool := xs.any p
theorem idxO_any (p : Ord → Bool) (xs : List Ord) : decide (0 ≤ idxO p xs) = anyO p xs := by
  unfold idxO anyO
  cases h : xs.findIdx? p with
  | none =>
    have := List.findIdx?_eq_none_iff.1 h
    have h2 : xs.any p = false := by rw [List.any_eq_false]; intro x hx; simp [this x hx]
    simp [h2]
  | some i =>
    obtain ⟨hi, hp, _⟩ := List.findIdx?_eq_some_iff_getElem.1 h
    have h2 : xs.any p = true := List.any_eq_true.2 ⟨_, List.getElem_mem hi, hp⟩
    simp [h2]
theorem anyO_not (p : Ord → Bool) (xs : List Ord) : anyO (fun n => !p n) xs = !allO p xs := by
  simp [anyO, allO, List.all_eq_not_any_not]
/-- The addresses of an element's cells. -/
@[go_sem high] theorem adr_add (a : Option Addr) (i j : Nat) : (adr a i).add j = adr a (i + j) := by
  unfold adr
  rw [Addr.add_lit, Nat.add_assoc]

theorem okOrd_a {R : Int} {n : Nat} {o : Ord} (h : inRg o.op 1 3 = false) : okOrd R n o = false := by
  have h' : ¬ (1 ≤ o.op ∧ o.op ≤ 3) := by simpa [inRg] using h
  unfold okOrd
  rw [if_neg (by omega)]
  simp; omega
theorem okOrd_b {R : Int} {n : Nat} {o : Ord} (hR : 1 ≤ R) (h : inRg o.reg 0 (R - 1) = false) : okOrd R n o = false := by
  have h' : ¬ (0 ≤ o.reg ∧ o.reg ≤ R - 1) := by simpa [inRg] using h
  unfold okOrd
  split
  · rw [h]; rfl
  · simp; omega
theorem okOrd_c {R : Int} {n : Nat} {o : Ord} (h : inRg o.to 0 n = false) : okOrd R n o = false := by
  have h' : ¬ (0 ≤ o.to ∧ o.to ≤ n) := by simpa [inRg] using h
  unfold okOrd
  split
  · rw [h]; simp
  · simp; omega
theorem okOrd_d {R : Int} {n : Nat} {o : Ord} (h : inRg o.els 0 n = false) : okOrd R n o = false := by
  have h' : ¬ (0 ≤ o.els ∧ o.els ≤ n) := by simpa [inRg] using h
  unfold okOrd
  split
  · rw [h]; simp
  · simp; omega
theorem okOrd_e {R : Int} {n : Nat} {o : Ord} (h0 : inRg o.op 1 3 = true) (h1 : inRg o.reg 0 (R - 1) = true) (h2 : inRg o.to 0 n = true) (h3 : inRg o.els 0 n = true) : okOrd R n o = !(decide (o.op = 3) && (decide (o.reg ≠ 0) || decide (o.to ≠ 0) || decide (o.els ≠ 0))) := by
  have h' : 1 ≤ o.op ∧ o.op ≤ 3 := by simpa [inRg] using h0
  unfold okOrd
  split
  · rw [h1, h2, h3, show decide (o.op = 3) = false from by simp; omega]; rfl
  · have h3 : o.op = 3 := by omega
    rw [h3]
    by_cases a1 : o.reg = 0 <;> by_cases a2 : o.to = 0 <;> by_cases a3 : o.els = 0 <;> simp [a1, a2, a3]
def ordB (a b : Ord) : Bool := a.op == b.op && a.reg == b.reg && a.to == b.to && a.els == b.els
def eqOS (xs ys : List Ord) : Bool := decide (xs.length = ys.length) && (List.range xs.length).all fun i => ordB (nthO xs i) (nthO ys i)
theorem eqOS_len {xs ys : List Ord} (h : ¬ xs.length = ys.length) : eqOS xs ys = false := by simp [eqOS, h]
theorem eqOS_true {xs ys : List Ord} (h : xs.length = ys.length) (h2 : ∀ j, j < xs.length → ordB (nthO xs j) (nthO ys j) = true) : eqOS xs ys = true := by
  rw [eqOS, h]
  simp only [decide_true, Bool.true_and]
  rw [List.all_eq_true]; intro j hj; exact h2 j (by rw [h]; simpa using hj)
theorem eqOS_false {xs ys : List Ord} {k : Nat} (hk : k < xs.length) (h : ordB (nthO xs k) (nthO ys k) = false) : eqOS xs ys = false := by
  have : ((List.range xs.length).all fun i => ordB (nthO xs i) (nthO ys i)) = false := by
    rw [List.all_eq_false]; exact ⟨k, by simpa using hk, by rw [h]; simp⟩
  rw [eqOS, this, Bool.and_false]
def samePS (R : Int) (xs : List Ord) (Q : Int) (ys : List Ord) : Bool := (R == Q) && eqOS xs ys

theorem quietP {P : Program} {f : FuncId} {args : Array Value} {w : World} {n : Nat} {v : Value} (h : Calls P f args (w.drewN n) (RetP (w.drewN n) v)) : Calls P f args (w.drewN n) fun e w'' => e = .returned v ∧ ∃ m, w'' = w.drewN m :=
  h.mono fun _ _ ⟨he, hm⟩ => ⟨he, n, hm.symm⟩
theorem quietQ {P : Program} {f : FuncId} {args : Array Value} {w : World} {n : Nat} {v : Value} (h : Calls P f args (w.drewN n) (RetQ (w.drewN n) v)) : Calls P f args (w.drewN n) fun e w'' => e = .returned v ∧ ∃ m, w'' = w.drewN m :=
  h.mono fun _ _ ⟨he, m, hm⟩ => ⟨he, n + m, by rw [hm, World.drewN_drewN]⟩

/-- A list of orders is being copied into block g. -/
structure FilO (w wr : World) (g : Nat) (os : List Ord) (k : Nat) : Prop where
  below : Below w.heap.size w wr
  base : w.heap.size ≤ g
  hass : ∀ i, i < os.length * 4 → (wr.cell? ⟨g, i, none⟩).isSome = true
  free : ∀ i, wr.frozen? ⟨g, i, none⟩ = false
  d0 : ∀ i, i < k → wr.cell? ⟨g, i * 4, none⟩ = some (.int .i64 (nthO os i).op)
  d1 : ∀ i, i < k → wr.cell? ⟨g, i * 4 + 1, none⟩ = some (.int .i64 (nthO os i).reg)
  d2 : ∀ i, i < k → wr.cell? ⟨g, i * 4 + 2, none⟩ = some (.int .i64 (nthO os i).to)
  d3 : ∀ i, i < k → wr.cell? ⟨g, i * 4 + 3, none⟩ = some (.int .i64 (nthO os i).els)
theorem cell_set_some {w : World} {p q : Addr} {v : Value} (h : (w.cell? q).isSome = true) : ((w.setCell p v).cell? q).isSome = true := by
  by_cases e : p = q
  · subst e
    obtain ⟨u, hu⟩ := Option.isSome_iff_exists.1 h
    rw [World.cell?_setCell_same w p v hu]; rfl
  · rw [World.cell?_setCell_other _ _ _ _ e]; exact h
theorem FilO.next {w wr : World} {g : Nat} {os : List Ord} {k : Nat} (h : FilO w wr g os k) (hk : k < os.length) :
    FilO w ((((wr.setCell ⟨g, k * 4, none⟩ (.int .i64 (nthO os k).op)).setCell ⟨g, k * 4 + 1, none⟩ (.int .i64 (nthO os k).reg)).setCell ⟨g, k * 4 + 2, none⟩ (.int .i64 (nthO os k).to)).setCell ⟨g, k * 4 + 3, none⟩ (.int .i64 (nthO os k).els)) g os (k + 1) := by
  have same : ∀ (w : World) (p : Addr) (v : Value), (w.cell? p).isSome = true → (w.setCell p v).cell? p = some v := fun w p v h => by
    obtain ⟨u, hu⟩ := Option.isSome_iff_exists.1 h
    exact World.cell?_setCell_same w p v hu
  have oth : ∀ (w : World) (i j : Nat) (v : Value), i ≠ j → (w.setCell ⟨g, i, none⟩ v).cell? ⟨g, j, none⟩ = w.cell? ⟨g, j, none⟩ := fun w i j v hij => World.cell?_setCell_other _ _ _ _ (fun e => hij (by cases e; rfl))
  refine ⟨(((h.below.setCell h.base _).setCell h.base _).setCell h.base _).setCell h.base _, h.base, fun i hi => cell_set_some (cell_set_some (cell_set_some (cell_set_some (h.hass i hi)))), fun i => by simp only [World.frozen?_setCell]; exact h.free i, fun i hi => ?_, fun i hi => ?_, fun i hi => ?_, fun i hi => ?_⟩
  · by_cases e : i = k
    · subst e
      rw [oth _ _ _ _ (by omega), oth _ _ _ _ (by omega), oth _ _ _ _ (by omega), same _ _ _ (h.hass _ (by omega))]
    · rw [oth _ _ _ _ (by omega), oth _ _ _ _ (by omega), oth _ _ _ _ (by omega), oth _ _ _ _ (by omega)]; exact h.d0 i (by omega)
  · by_cases e : i = k
    · subst e
      rw [oth _ _ _ _ (by omega), oth _ _ _ _ (by omega), same _ _ _ (cell_set_some (h.hass _ (by omega)))]
    · rw [oth _ _ _ _ (by omega), oth _ _ _ _ (by omega), oth _ _ _ _ (by omega), oth _ _ _ _ (by omega)]; exact h.d1 i (by omega)
  · by_cases e : i = k
    · subst e
      rw [oth _ _ _ _ (by omega), same _ _ _ (cell_set_some (cell_set_some (h.hass _ (by omega))))]
    · rw [oth _ _ _ _ (by omega), oth _ _ _ _ (by omega), oth _ _ _ _ (by omega), oth _ _ _ _ (by omega)]; exact h.d2 i (by omega)
  · by_cases e : i = k
    · subst e
      rw [same _ _ _ (cell_set_some (cell_set_some (cell_set_some (h.hass _ (by omega)))))]
    · rw [oth _ _ _ _ (by omega), oth _ _ _ _ (by omega), oth _ _ _ _ (by omega), oth _ _ _ _ (by omega)]; exact h.d3 i (by omega)
theorem OwL_O {w : World} : ∀ (os : List Ord) (g o : Nat), (∀ i, i < os.length → w.cell? ⟨g, o + i * 4, none⟩ = some (.int .i64 (nthO os i).op) ∧ w.cell? ⟨g, o + i * 4 + 1, none⟩ = some (.int .i64 (nthO os i).reg) ∧ w.cell? ⟨g, o + i * 4 + 2, none⟩ = some (.int .i64 (nthO os i).to) ∧ w.cell? ⟨g, o + i * 4 + 3, none⟩ = some (.int .i64 (nthO os i).els)) →
    (∀ i, w.frozen? ⟨g, i, none⟩ = false) → OwL w (os.flatMap Ord.ds) g o []
  | [], _, _, _, _ => rfl
  | x :: os, g, o, h, hf => by
    obtain ⟨h0, h1, h2, h3⟩ := h 0 (by simp)
    simp only [Nat.zero_mul, Nat.add_zero] at h0 h1 h2 h3
    have ih := OwL_O os g (o + 4) (fun i hi => by
      have := h (i + 1) (by simpa using hi)
      rw [show o + (i + 1) * 4 = o + 4 + i * 4 from by omega] at this
      simpa [nthO] using this) hf
    show OwL w ([D.i x.op, .i x.reg, .i x.to, .i x.els] ++ os.flatMap Ord.ds) g o []
    exact ⟨_, [], [], h0, hf _, ⟨rfl, rfl⟩, ⟨_, [], [], h1, hf _, ⟨rfl, rfl⟩, ⟨_, [], [], h2, hf _, ⟨rfl, rfl⟩, ⟨_, [], [], h3, hf _, ⟨rfl, rfl⟩, ih, rfl⟩, rfl⟩, rfl⟩, rfl⟩
theorem FilO.ret {w wr : World} {g : Nat} {os : List Ord} (h : FilO w wr g os os.length) (hl : os.length ≤ maxLen) : RetD w (dO os) (.returned (.slice (some ⟨g, 0, none⟩) os.length os.length)) wr := by
  by_cases h0 : os = []
  · subst h0
    exact ⟨_, [], rfl, h.below, Ow_empty _ _ _ _, by simp, by simp⟩
  · refine ⟨_, [g], rfl, h.below, ⟨_, os.length, os.length, rfl, flat_len _, hl, .inr ⟨g, 0, [], rfl, ⟨?_, Nat.le_refl _⟩, rfl, ?_⟩⟩, by simp, by simpa using h.base⟩
    · intro e
      have := congrArg List.length e
      rw [flat_len] at this
      apply h0
      apply List.eq_nil_of_length_eq_zero
      simp only [List.length_nil] at this
      omega
    · exact OwL_O os g 0 (fun i hi => by simp only [Nat.zero_add]; exact ⟨h.d0 i hi, h.d1 i hi, h.d2 i hi, h.d3 i hi⟩) h.free
theorem Ow.valO {w : World} {os : List Ord} {v : Value} {F : List Nat} (h : Ow w (dO os) v F) : ∃ a c, v = .slice a os.length c := by
  obtain ⟨a1, c1, e, _⟩ := Rd_O.1 (Ow.rd _ _ _ h)
  exact ⟨a1, c1, e⟩
end Go.Proofs.YtbnikblhnibgiaaDoor
