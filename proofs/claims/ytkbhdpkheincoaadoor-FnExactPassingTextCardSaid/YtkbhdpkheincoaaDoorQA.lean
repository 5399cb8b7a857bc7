/- What rules take from the places of a passing system: plain lists and numbers. No program is in sight. -/
import Derived.Test.YtkbhdpkheincoaaDoorSV
namespace Go.Proofs.YtkbhdpkheincoaaDoor
open Go.RowKit

/-- The place of the parent of a cell; behind the cells come the surroundings. -/
def upS (x1 : List Int) (c : Int) : Int := if c = 0 then x1.length else nth x1 c.toNat
/-- The objects of a list that are not free. -/
def boundS (free : List Bool) (xs : List Int) : List Int := (List.range xs.length).map fun k => if nthB free k = true then 0 else nth xs k
theorem boundS_len (free : List Bool) (xs : List Int) : (boundS free xs).length = xs.length := by simp [boundS]
theorem boundS_at {free : List Bool} {xs : List Int} {k : Nat} (h : k < xs.length) : nth (boundS free xs) k = if nthB free k = true then 0 else nth xs k := by
  simp [boundS, nth, h]
def cellN (r : PR) : Nat := r.cell.toNat
def upN (x1 : List Int) (r : PR) : Nat := (upS x1 r.cell).toNat
def innS (x2 : List Bool) (r : PR) : List Int := if r.cell = 0 then boundS x2 r.inn else r.inn
theorem innS_len (x2 : List Bool) (r : PR) : (innS x2 r).length = r.inn.length := by unfold innS; split <;> simp [boundS_len]
/-- A valid passing system, laid open. -/
structure PsOk (K : Nat) (x1 : List Int) (x2 : List Bool) (x3 : List PR) : Prop where
  k1 : 1 ≤ K
  k8 : K ≤ 8
  p1 : 1 ≤ x1.length
  p4 : x1.length ≤ 4
  par0 : nth x1 0 = -1
  free : x2.length = K
  r8 : x3.length ≤ 8
  par : ∀ c, 0 < c → c < x1.length → 0 ≤ nth x1 c ∧ nth x1 c < c
  cell : ∀ i, i < x3.length → 0 ≤ (nthPR x3 i).cell ∧ (nthPR x3 i).cell < x1.length
  out : ∀ i, i < x3.length → isBagS (nthPR x3 i).out = true ∧ (nthPR x3 i).out.length = K
  inn : ∀ i, i < x3.length → isBagS (nthPR x3 i).inn = true ∧ (nthPR x3 i).inn.length = K
  some : ∀ i, i < x3.length → ¬ sumS (nthPR x3 i).out + sumS (nthPR x3 i).inn = 0
  own : ∀ i, i < x3.length → 0 < (nthPR x3 i).cell ∨ 0 < sumS (nthPR x3 i).out ∨ hasBoundS x2 (nthPR x3 i).inn = true
theorem PsOk.of {x0 : Int} {x1 : List Int} {x2 : List Bool} {x3 : List PR} (h : okPass x0 x1 x2 x3 = true) : ∃ K : Nat, x0 = K ∧ PsOk K x1 x2 x3 := by
  simp only [okPass, Bool.and_eq_true] at h
  obtain ⟨⟨h1, h2⟩, h3⟩ := h
  obtain ⟨a1, a2, a3, a4, a5, a6, a7⟩ := passHead_ok h1
  refine ⟨x0.toNat, by omega, by omega, by omega, a3, a4, a5, by omega, a7, fun c c0 c1 => ?_, fun i hi => ?_, fun i hi => ?_, fun i hi => ?_, fun i hi => ?_, fun i hi => ?_⟩
  · have := parsOk_at h2 (k := c - 1) (by omega)
    simp only [parOk, inRg, Bool.and_eq_true, decide_eq_true_eq] at this
    rw [show c - 1 + 1 = c by omega] at this
    omega
  all_goals
    have hr := allPR_at h3 hi
    simp only [ruleOk, Bool.and_eq_true, Bool.or_eq_true, decide_eq_true_eq, inRg, Bool.not_eq_true', beq_eq_false_iff_ne, ne_eq] at hr
    obtain ⟨⟨⟨⟨⟨r1, r2⟩, r3⟩, r4⟩, r5⟩, r6⟩ := hr
  · omega
  · have := validBagS_ok r3; exact ⟨this.1, by omega⟩
  · have := validBagS_ok r4; exact ⟨this.1, by omega⟩
  · exact r5
  · rcases r6 with (r6 | r6) | r6
    · exact .inl r6
    · exact .inr (.inl r6)
    · exact .inr (.inr r6)
/-- A valid stock, laid open. -/
structure StOk (K n : Nat) (y0 : List (List Int)) (y1 : List Int) : Prop where
  len : y0.length = n
  bag : ∀ i, i < n → isBagS (nthR y0 i) = true ∧ (nthR y0 i).length = K
  around : isBagS y1 = true ∧ y1.length = K
theorem StOk.of {K : Nat} {n : Nat} {x2 : List Bool} {y0 : List (List Int)} {y1 : List Int} (h : okStock K n x2 y0 y1 = true) : StOk K n y0 y1 := by
  simp only [okStock, Bool.and_eq_true, decide_eq_true_eq] at h
  obtain ⟨⟨⟨h1, h2⟩, _⟩, h3⟩ := h
  refine ⟨h1, fun i hi => ?_, ?_⟩
  · have := validBagS_ok (allII_at h3 (k := i) (by omega)); exact ⟨this.1, by omega⟩
  · have := validBagS_ok h2; exact ⟨this.1, by omega⟩
theorem stockAll_ok {x0 : Int} {x1 : List Int} {x2 : List Bool} {x3 : List PR} {y0 : List (List Int)} {y1 : List Int} (h : okStockAll x0 x1 x2 x3 y0 y1 = true) : ∃ K : Nat, x0 = K ∧ PsOk K x1 x2 x3 ∧ StOk K x1.length y0 y1 := by
  simp only [okStockAll, Bool.and_eq_true] at h
  obtain ⟨K, rfl, hp⟩ := PsOk.of h.1
  exact ⟨K, rfl, hp, StOk.of h.2⟩
theorem PsOk.upN {K : Nat} {x1 : List Int} {x2 : List Bool} {x3 : List PR} (h : PsOk K x1 x2 x3) {i : Nat} (hi : i < x3.length) :
    cellN (nthPR x3 i) < x1.length ∧ upN x1 (nthPR x3 i) ≤ x1.length ∧ upN x1 (nthPR x3 i) ≠ cellN (nthPR x3 i) ∧ (upS x1 (nthPR x3 i).cell = (upN x1 (nthPR x3 i) : Int)) ∧ ((nthPR x3 i).cell = (cellN (nthPR x3 i) : Int)) ∧ ((nthPR x3 i).cell = 0 ↔ upN x1 (nthPR x3 i) = x1.length) := by
  have hc := h.cell i hi
  have hp := h.par (nthPR x3 i).cell.toNat
  unfold cellN Go.Proofs.YtkbhdpkheincoaaDoor.upN upS
  by_cases e : (nthPR x3 i).cell = 0
  · have := h.p1
    rw [if_pos e, Int.toNat_natCast]
    refine ⟨by omega, Nat.le_refl _, by omega, rfl, by omega, ⟨fun _ => rfl, fun _ => e⟩⟩
  · rw [if_neg e]
    have := hp (by omega) (by omega)
    omega
/-- What a rule takes of kind k at a place. -/
def needs (x1 : List Int) (x2 : List Bool) (r : PR) (pl k : Nat) : Int := (if pl = cellN r then nth r.out k else 0) + (if pl = upN x1 r then nth (innS x2 r) k else 0)
/-- What is left of kind k at a place behind the first i counts. -/
def lev (x1 : List Int) (x2 : List Bool) (x3 : List PR) (bags : List (List Int)) (cs : List Int) : Nat → Nat → Nat → Int
  | 0, pl, k => nth (nthR bags pl) k
  | i + 1, pl, k => lev x1 x2 x3 bags cs i pl k - nth cs i * needs x1 x2 (nthPR x3 i) pl k
theorem innS_bd {K : Nat} {x1 : List Int} {x2 : List Bool} {x3 : List PR} (h : PsOk K x1 x2 x3) {i : Nat} (hi : i < x3.length) {k : Nat} (hk : k < K) : 0 ≤ nth (innS x2 (nthPR x3 i)) k ∧ nth (innS x2 (nthPR x3 i)) k ≤ 1000 := by
  have hn := h.inn i hi
  have hb := isBagS_at hn.1 (k := k) (by omega)
  unfold innS
  split
  · rw [boundS_at (by omega)]
    split <;> omega
  · exact hb
theorem out_bd {K : Nat} {x1 : List Int} {x2 : List Bool} {x3 : List PR} (h : PsOk K x1 x2 x3) {i : Nat} (hi : i < x3.length) {k : Nat} (hk : k < K) : 0 ≤ nth (nthPR x3 i).out k ∧ nth (nthPR x3 i).out k ≤ 1000 :=
  isBagS_at (h.out i hi).1 (by have := (h.out i hi).2; omega)
theorem inn_bd {K : Nat} {x1 : List Int} {x2 : List Bool} {x3 : List PR} (h : PsOk K x1 x2 x3) {i : Nat} (hi : i < x3.length) {k : Nat} (hk : k < K) : 0 ≤ nth (nthPR x3 i).inn k ∧ nth (nthPR x3 i).inn k ≤ 1000 :=
  isBagS_at (h.inn i hi).1 (by have := (h.inn i hi).2; omega)
theorem needs_bd {K : Nat} {x1 : List Int} {x2 : List Bool} {x3 : List PR} (h : PsOk K x1 x2 x3) {i : Nat} (hi : i < x3.length) (pl : Nat) {k : Nat} (hk : k < K) : 0 ≤ needs x1 x2 (nthPR x3 i) pl k ∧ needs x1 x2 (nthPR x3 i) pl k ≤ 2000 := by
  have h1 := out_bd h hi hk
  have h2 := innS_bd h hi hk
  unfold needs
  split <;> split <;> omega
/-- Numbers from 0 to 1001. -/
def cntBd (cs : List Int) : Prop := ∀ j, 0 ≤ nth cs j ∧ nth cs j ≤ 1001
theorem mul_bd {a b A B : Int} (h1 : 0 ≤ a ∧ a ≤ A) (h2 : 0 ≤ b ∧ b ≤ B) : 0 ≤ a * b ∧ a * b ≤ A * B :=
  ⟨Int.mul_nonneg h1.1 h2.1, Int.mul_le_mul h1.2 h2.2 h2.1 (by omega)⟩
theorem lev_mono {K : Nat} {x1 : List Int} {x2 : List Bool} {x3 : List PR} {bags : List (List Int)} {cs : List Int} (h : PsOk K x1 x2 x3) (hc : cntBd cs) (pl : Nat) {k : Nat} (hk : k < K) :
    ∀ (i d : Nat), i + d ≤ x3.length → lev x1 x2 x3 bags cs (i + d) pl k ≤ lev x1 x2 x3 bags cs i pl k
  | i, 0, _ => Int.le_refl _
  | i, d + 1, hd => by
    have ih := lev_mono h hc pl hk (bags := bags) i d (by omega)
    have hm := mul_bd (hc (i + d)) (needs_bd h (i := i + d) (by omega) pl hk)
    rw [← Nat.add_assoc, lev]; omega
theorem lev_bd {K : Nat} {x1 : List Int} {x2 : List Bool} {x3 : List PR} {bags : List (List Int)} {cs : List Int} (h : PsOk K x1 x2 x3) (hc : cntBd cs) (pl : Nat) {k : Nat} (hk : k < K) (h0 : 0 ≤ nth (nthR bags pl) k ∧ nth (nthR bags pl) k ≤ 1000) :
    ∀ i, i ≤ x3.length → -(2002000 * (i : Int)) ≤ lev x1 x2 x3 bags cs i pl k ∧ lev x1 x2 x3 bags cs i pl k ≤ 1000
  | 0, _ => by simp [lev]; omega
  | i + 1, hi => by
    have ih := lev_bd h hc pl hk h0 i (by omega)
    have hm := mul_bd (hc i) (needs_bd h (i := i) (by omega) pl hk)
    rw [lev]; omega
/-- The bags of all places, the surroundings last. -/
def bagsS (y0 : List (List Int)) (y1 : List Int) : List (List Int) := y0 ++ [y1]
theorem bagsS_len (y0 : List (List Int)) (y1 : List Int) : (bagsS y0 y1).length = y0.length + 1 := by simp [bagsS]
theorem bagsS_ok {K n : Nat} {y0 : List (List Int)} {y1 : List Int} (h : StOk K n y0 y1) {pl : Nat} (hp : pl ≤ n) : isBagS (nthR (bagsS y0 y1) pl) = true ∧ (nthR (bagsS y0 y1) pl).length = K := by
  have hl := h.len
  by_cases e : pl < n
  · have := h.bag pl e
    rw [nthR_lt (by omega)] at this
    rw [nthR_lt (by rw [bagsS_len]; omega)]
    simp only [bagsS]
    rw [List.getElem_append_left (by omega)]; exact this
  · have e2 : pl = y0.length := by omega
    subst e2
    have := h.around
    rw [nthR_lt (by rw [bagsS_len]; omega)]
    simpa [bagsS] using this
theorem bagsS_at {K n : Nat} {y0 : List (List Int)} {y1 : List Int} (h : StOk K n y0 y1) {pl k : Nat} (hp : pl ≤ n) (hk : k < K) : 0 ≤ nth (nthR (bagsS y0 y1) pl) k ∧ nth (nthR (bagsS y0 y1) pl) k ≤ 1000 := by
  have := bagsS_ok h hp
  exact isBagS_at this.1 (by omega)
/-- No place lacks anything. -/
def allGe (n K : Nat) (f : Nat → Nat → Int) : Prop := ∀ pl k, pl ≤ n → k < K → 0 ≤ f pl k

/-! The program's: bag by bag. -/
def takeB (x1 : List Int) (x2 : List Bool) (r : PR) (n : Int) (bags : List (List Int)) : List (List Int) :=
  (bags.set (cellN r) (plusS (nthR bags (cellN r)) r.out (-n))).set (upN x1 r) (plusS (nthR (bags.set (cellN r) (plusS (nthR bags (cellN r)) r.out (-n))) (upN x1 r)) (innS x2 r) (-n))
def takeTo (x1 : List Int) (x2 : List Bool) (x3 : List PR) (cs : List Int) (bags : List (List Int)) : Nat → List (List Int)
  | 0 => bags
  | i + 1 => takeB x1 x2 (nthPR x3 i) (nth cs i) (takeTo x1 x2 x3 cs bags i)
theorem nthR_set {xss : List (List Int)} {i j : Nat} {v : List Int} (h : i < xss.length) : nthR (xss.set i v) j = if j = i then v else nthR xss j := by
  by_cases e : j = i
  · subst e; simp [nthR, h]
  · simp [nthR, Ne.symm e, e]
theorem plusS_nth {xs ys : List Int} {f : Int} {k : Nat} (h : k < xs.length) : nth (plusS xs ys f) k = addW f (nth xs k) (nth ys k) := zipF_at h
theorem addW_neg {n x y : Int} (h : 0 ≤ n ∧ n ≤ 1001) (hy : 0 ≤ y ∧ y ≤ 1000) (hx : -100000000 ≤ x ∧ x ≤ 100000000) : addW (-n) x y = x - n * y := by
  have hm := mul_bd h hy
  have e : -n * y = -(n * y) := Int.neg_mul _ _
  unfold addW wrap64
  rw [e]
  omega
theorem takeB_at {K : Nat} {x1 : List Int} {x2 : List Bool} {x3 : List PR} (h : PsOk K x1 x2 x3) {i : Nat} (hi : i < x3.length) {n : Int} (hn : 0 ≤ n ∧ n ≤ 1001) {bags : List (List Int)} (hl : bags.length = x1.length + 1)
    (hb : ∀ pl, pl ≤ x1.length → (nthR bags pl).length = K ∧ ∀ k, k < K → -100000000 ≤ nth (nthR bags pl) k ∧ nth (nthR bags pl) k ≤ 1000) {pl : Nat} (hp : pl ≤ x1.length) :
    (nthR (takeB x1 x2 (nthPR x3 i) n bags) pl).length = K ∧ ∀ k, k < K → nth (nthR (takeB x1 x2 (nthPR x3 i) n bags) pl) k = nth (nthR bags pl) k - n * needs x1 x2 (nthPR x3 i) pl k := by
  obtain ⟨u1, u2, u3, _, _, _⟩ := h.upN hi
  have ho := h.out i hi
  have hq := h.inn i hi
  have hil := innS_len x2 (nthPR x3 i)
  unfold takeB needs
  rw [nthR_set (by simp; omega), nthR_set (by omega), nthR_set (by omega)]
  rw [if_neg u3]
  by_cases e1 : pl = upN x1 (nthPR x3 i)
  · have e2 : ¬ pl = cellN (nthPR x3 i) := by rw [e1]; exact u3
    simp only [if_pos e1, if_neg e2]
    have hbu := hb _ u2
    refine ⟨by rw [plusS_len]; exact hbu.1, fun k hk => ?_⟩
    rw [plusS_nth (by omega), addW_neg hn (innS_bd h hi hk) (by have := hbu.2 k hk; omega), e1]
    simp
  · simp only [if_neg e1]
    by_cases e2 : pl = cellN (nthPR x3 i)
    · simp only [if_pos e2]
      have hbc := hb (cellN (nthPR x3 i)) (by omega)
      refine ⟨by rw [plusS_len]; exact hbc.1, fun k hk => ?_⟩
      rw [plusS_nth (by omega), addW_neg hn (out_bd h hi hk) (by have := hbc.2 k hk; omega), e2]
      simp
    · simp only [if_neg e2]
      exact ⟨(hb pl hp).1, fun k hk => by simp⟩
theorem takeB_len (x1 : List Int) (x2 : List Bool) (r : PR) (n : Int) (bags : List (List Int)) : (takeB x1 x2 r n bags).length = bags.length := by simp [takeB]
theorem takeTo_len (x1 : List Int) (x2 : List Bool) (x3 : List PR) (cs : List Int) (bags : List (List Int)) : ∀ i, (takeTo x1 x2 x3 cs bags i).length = bags.length
  | 0 => rfl
  | i + 1 => by rw [takeTo, takeB_len, takeTo_len]
theorem takeTo_at {K : Nat} {x1 : List Int} {x2 : List Bool} {x3 : List PR} {y0 : List (List Int)} {y1 : List Int} {cs : List Int} (h : PsOk K x1 x2 x3) (hs : StOk K x1.length y0 y1) (hc : cntBd cs) :
    ∀ i, i ≤ x3.length → ∀ pl, pl ≤ x1.length → (nthR (takeTo x1 x2 x3 cs (bagsS y0 y1) i) pl).length = K ∧ ∀ k, k < K → nth (nthR (takeTo x1 x2 x3 cs (bagsS y0 y1) i) pl) k = lev x1 x2 x3 (bagsS y0 y1) cs i pl k
  | 0, _, pl, hp => ⟨(bagsS_ok hs hp).2, fun k _ => rfl⟩
  | i + 1, hi, pl, hp => by
    have ih := takeTo_at h hs hc i (by omega)
    have h8 := h.r8
    have hb : ∀ pl, pl ≤ x1.length → (nthR (takeTo x1 x2 x3 cs (bagsS y0 y1) i) pl).length = K ∧ ∀ k, k < K → -100000000 ≤ nth (nthR (takeTo x1 x2 x3 cs (bagsS y0 y1) i) pl) k ∧ nth (nthR (takeTo x1 x2 x3 cs (bagsS y0 y1) i) pl) k ≤ 1000 := fun pl hp => by
      refine ⟨(ih pl hp).1, fun k hk => ?_⟩
      rw [(ih pl hp).2 k hk]
      have := lev_bd h hc pl hk (bagsS_at hs hp hk) i (by omega)
      omega
    have := takeB_at h (i := i) (by omega) (hc i) (by rw [takeTo_len, bagsS_len, hs.len]) hb hp
    rw [takeTo]
    refine ⟨this.1, fun k hk => ?_⟩
    rw [this.2 k hk, (ih pl hp).2 k hk, lev]
def geB (b : List Int) : Bool := allB (fun n => decide (0 ≤ n)) b
/-- The counts fit, as the program reckons. -/
def fitsB (x1 : List Int) (x2 : List Bool) (x3 : List PR) (bags : List (List Int)) (cs : List Int) : Bool := allII geB (takeTo x1 x2 x3 cs bags cs.length)
theorem fitsB_iff {K : Nat} {x1 : List Int} {x2 : List Bool} {x3 : List PR} {y0 : List (List Int)} {y1 : List Int} {cs : List Int} (h : PsOk K x1 x2 x3) (hs : StOk K x1.length y0 y1) (hc : cntBd cs) (hl : cs.length = x3.length) :
    fitsB x1 x2 x3 (bagsS y0 y1) cs = true ↔ allGe x1.length K (lev x1 x2 x3 (bagsS y0 y1) cs x3.length) := by
  have ha := takeTo_at h hs hc x3.length (Nat.le_refl _)
  have hlen : (takeTo x1 x2 x3 cs (bagsS y0 y1) x3.length).length = x1.length + 1 := by rw [takeTo_len, bagsS_len, hs.len]
  unfold fitsB
  rw [hl]
  constructor
  · intro hf pl k hp hk
    have h1 := allII_at hf (k := pl) (by omega)
    have h2 := allB_at h1 (k := k) (by rw [(ha pl hp).1]; exact hk)
    rw [(ha pl hp).2 k hk] at h2
    simpa using h2
  · intro hf
    refine allII_true fun pl hp => allB_true fun k hk => ?_
    have hp' : pl ≤ x1.length := by omega
    rw [(ha pl hp').1] at hk
    rw [(ha pl hp').2 k hk]
    simpa using hf pl k hp' hk

/-! The reference's: all places in one list. -/
/-- One kind, at the places that begin at own and at up. -/
def takeK (own up : Nat) (r : PR) (n : Int) (ins : Bool) (k : Nat) (s : List Int × Bool) : List Int × Bool :=
  let xs1 := s.1.set (own + k) (wrap64 (nth s.1 (own + k) - wrap64 (nth r.out k * n)))
  let ok1 := s.2 && decide (0 ≤ nth xs1 (own + k))
  if ins = true then (xs1.set (up + k) (wrap64 (nth xs1 (up + k) - wrap64 (nth r.inn k * n))), ok1 && decide (0 ≤ nth (xs1.set (up + k) (wrap64 (nth xs1 (up + k) - wrap64 (nth r.inn k * n)))) (up + k))) else (xs1, ok1)
/-- Are kind k's objects in the bag In taken? -/
def insK (x2 : List Bool) (r : PR) (k : Nat) : Bool := decide (0 < r.cell) || !nthB x2 k
def takeF (own up : Nat) (x2 : List Bool) (r : PR) (n : Int) (xs : List Int) : Nat → List Int × Bool
  | 0 => (xs, true)
  | k + 1 => takeK own up r n (insK x2 r k) k (takeF own up x2 r n xs k)
theorem nth_set {xs : List Int} {i j : Nat} {v : Int} (h : i < xs.length) : nth (xs.set i v) j = if j = i then v else nth xs j := by
  by_cases e : j = i
  · subst e; simp [nth, h]
  · simp [nth, Ne.symm e, e]
theorem takeK_len (own up : Nat) (r : PR) (n : Int) (ins : Bool) (k : Nat) (s : List Int × Bool) : (takeK own up r n ins k s).1.length = s.1.length := by
  unfold takeK; dsimp only; split <;> simp
theorem takeF_len (own up : Nat) (x2 : List Bool) (r : PR) (n : Int) (xs : List Int) : ∀ k, (takeF own up x2 r n xs k).1.length = xs.length
  | 0 => rfl
  | k + 1 => by rw [takeF, takeK_len, takeF_len]
theorem idx_lt {pl k n K : Nat} (hp : pl ≤ n) (hk : k < K) : pl * K + k < (n + 1) * K := by
  have := Nat.mul_le_mul_right K hp
  rw [Nat.add_mul]; omega
theorem idx_inj {pl k pl' k' K : Nat} (hk : k < K) (hk' : k' < K) (h : pl * K + k = pl' * K + k') : pl = pl' ∧ k = k' := by
  have h1 : (pl * K + k) / K = pl := by rw [Nat.mul_comm, Nat.mul_add_div (by omega), Nat.div_eq_of_lt hk]; rfl
  have h2 : (pl' * K + k') / K = pl' := by rw [Nat.mul_comm, Nat.mul_add_div (by omega), Nat.div_eq_of_lt hk']; rfl
  have e : pl = pl' := by rw [← h1, ← h2, h]
  subst e
  exact ⟨rfl, by omega⟩
theorem innS_ins {K : Nat} {x1 : List Int} {x2 : List Bool} {x3 : List PR} (h : PsOk K x1 x2 x3) {i : Nat} (hi : i < x3.length) {k : Nat} (hk : k < K) : nth (innS x2 (nthPR x3 i)) k = if insK x2 (nthPR x3 i) k = true then nth (nthPR x3 i).inn k else 0 := by
  have hc := h.cell i hi
  have hq := (h.inn i hi).2
  unfold innS insK
  by_cases e : (nthPR x3 i).cell = 0
  · rw [if_pos e, boundS_at (by omega), e]
    cases nthB x2 k <;> simp
  · rw [if_neg e]
    have : 0 < (nthPR x3 i).cell := by omega
    simp [this]
theorem needs_cell {K : Nat} {x1 : List Int} {x2 : List Bool} {x3 : List PR} (h : PsOk K x1 x2 x3) {i : Nat} (hi : i < x3.length) (k : Nat) : needs x1 x2 (nthPR x3 i) (cellN (nthPR x3 i)) k = nth (nthPR x3 i).out k := by
  obtain ⟨_, _, u3, _⟩ := h.upN hi
  unfold needs
  rw [if_pos rfl, if_neg (Ne.symm u3)]; omega
theorem needs_up {K : Nat} {x1 : List Int} {x2 : List Bool} {x3 : List PR} (h : PsOk K x1 x2 x3) {i : Nat} (hi : i < x3.length) (k : Nat) : needs x1 x2 (nthPR x3 i) (upN x1 (nthPR x3 i)) k = nth (innS x2 (nthPR x3 i)) k := by
  obtain ⟨_, _, u3, _⟩ := h.upN hi
  unfold needs
  rw [if_neg u3, if_pos rfl]; omega
theorem needs_else {x1 : List Int} {x2 : List Bool} {r : PR} {pl : Nat} (h1 : pl ≠ cellN r) (h2 : pl ≠ upN x1 r) (k : Nat) : needs x1 x2 r pl k = 0 := by
  unfold needs
  rw [if_neg h1, if_neg h2]; rfl
theorem wrap_sub {x n y : Int} (h : 0 ≤ n ∧ n ≤ 1001) (hy : 0 ≤ y ∧ y ≤ 1000) (hx : -100000000 ≤ x ∧ x ≤ 100000000) : wrap64 (x - wrap64 (y * n)) = x - n * y := by
  have hm := mul_bd h hy
  rw [Int.mul_comm y n]
  unfold wrap64; omega
/-- The flat list holds f. -/
def Flat (K n : Nat) (xs : List Int) (f : Nat → Nat → Int) : Prop := xs.length = (n + 1) * K ∧ ∀ pl k, pl ≤ n → k < K → nth xs (pl * K + k) = f pl k
/-- What a rule leaves. -/
def less (x1 : List Int) (x2 : List Bool) (r : PR) (n : Int) (f : Nat → Nat → Int) (pl k : Nat) : Int := f pl k - n * needs x1 x2 r pl k
theorem takeF_at {K : Nat} {x1 : List Int} {x2 : List Bool} {x3 : List PR} (h : PsOk K x1 x2 x3) {i : Nat} (hi : i < x3.length) {n : Int} (hn : 0 ≤ n ∧ n ≤ 1001) {f : Nat → Nat → Int} (hf : ∀ pl k, pl ≤ x1.length → k < K → -100000000 ≤ f pl k ∧ f pl k ≤ 1000) {xs : List Int} (hx : Flat K x1.length xs f) :
    ∀ j, j ≤ K → (∀ pl k, pl ≤ x1.length → k < K → nth (takeF (cellN (nthPR x3 i) * K) (upN x1 (nthPR x3 i) * K) x2 (nthPR x3 i) n xs j).1 (pl * K + k) = if k < j then less x1 x2 (nthPR x3 i) n f pl k else f pl k) ∧
      ((takeF (cellN (nthPR x3 i) * K) (upN x1 (nthPR x3 i) * K) x2 (nthPR x3 i) n xs j).2 = true ↔ ∀ k, k < j → 0 ≤ less x1 x2 (nthPR x3 i) n f (cellN (nthPR x3 i)) k ∧ (insK x2 (nthPR x3 i) k = true → 0 ≤ less x1 x2 (nthPR x3 i) n f (upN x1 (nthPR x3 i)) k))
  | 0, _ => ⟨fun pl k hp hk => by rw [takeF, if_neg (by omega)]; exact hx.2 pl k hp hk, by simp [takeF]⟩
  | j + 1, hj => by
    obtain ⟨ih1, ih2⟩ := takeF_at h hi hn hf hx j (by omega)
    obtain ⟨u1, u2, u3, _⟩ := h.upN hi
    have hlen := takeF_len (cellN (nthPR x3 i) * K) (upN x1 (nthPR x3 i) * K) x2 (nthPR x3 i) n xs j
    rw [hx.1] at hlen
    have ha := idx_lt (K := K) (k := j) (show cellN (nthPR x3 i) ≤ x1.length by omega) (by omega)
    have hb := idx_lt (K := K) (k := j) u2 (by omega)
    have hab : cellN (nthPR x3 i) * K + j ≠ upN x1 (nthPR x3 i) * K + j := fun e => u3 (idx_inj (by omega) (by omega) e).1.symm
    have va := ih1 (cellN (nthPR x3 i)) j (by omega) (by omega)
    have vb := ih1 (upN x1 (nthPR x3 i)) j u2 (by omega)
    rw [if_neg (by omega)] at va vb
    have wa : wrap64 (f (cellN (nthPR x3 i)) j - wrap64 (nth (nthPR x3 i).out j * n)) = less x1 x2 (nthPR x3 i) n f (cellN (nthPR x3 i)) j := by
      rw [wrap_sub hn (out_bd h hi (by omega)) (by have := hf (cellN (nthPR x3 i)) j (by omega) (by omega); omega), less, needs_cell h hi]
    have wb : insK x2 (nthPR x3 i) j = true → wrap64 (f (upN x1 (nthPR x3 i)) j - wrap64 (nth (nthPR x3 i).inn j * n)) = less x1 x2 (nthPR x3 i) n f (upN x1 (nthPR x3 i)) j := fun hin => by
      rw [wrap_sub hn (inn_bd h hi (by omega)) (by have := hf (upN x1 (nthPR x3 i)) j u2 (by omega); omega), less, needs_up h hi, innS_ins h hi (by omega), if_pos hin]
    have wc : ¬ insK x2 (nthPR x3 i) j = true → less x1 x2 (nthPR x3 i) n f (upN x1 (nthPR x3 i)) j = f (upN x1 (nthPR x3 i)) j := fun hin => by
      rw [less, needs_up h hi, innS_ins h hi (by omega), if_neg hin]; simp
    rw [takeF]
    generalize hS : takeF (cellN (nthPR x3 i) * K) (upN x1 (nthPR x3 i) * K) x2 (nthPR x3 i) n xs j = S at *
    have hx1 : ∀ q, nth (S.1.set (cellN (nthPR x3 i) * K + j) (wrap64 (nth S.1 (cellN (nthPR x3 i) * K + j) - wrap64 (nth (nthPR x3 i).out j * n)))) q = if q = cellN (nthPR x3 i) * K + j then less x1 x2 (nthPR x3 i) n f (cellN (nthPR x3 i)) j else nth S.1 q := fun q => by
      rw [nth_set (by omega), va, wa]
    have hx2 : insK x2 (nthPR x3 i) j = true → ∀ q, nth ((S.1.set (cellN (nthPR x3 i) * K + j) (wrap64 (nth S.1 (cellN (nthPR x3 i) * K + j) - wrap64 (nth (nthPR x3 i).out j * n)))).set (upN x1 (nthPR x3 i) * K + j) (wrap64 (nth (S.1.set (cellN (nthPR x3 i) * K + j) (wrap64 (nth S.1 (cellN (nthPR x3 i) * K + j) - wrap64 (nth (nthPR x3 i).out j * n)))) (upN x1 (nthPR x3 i) * K + j) - wrap64 (nth (nthPR x3 i).inn j * n)))) q =
        if q = upN x1 (nthPR x3 i) * K + j then less x1 x2 (nthPR x3 i) n f (upN x1 (nthPR x3 i)) j else if q = cellN (nthPR x3 i) * K + j then less x1 x2 (nthPR x3 i) n f (cellN (nthPR x3 i)) j else nth S.1 q := fun hin q => by
      rw [nth_set (by simp; omega), hx1, if_neg (Ne.symm hab), vb, wb hin]
      by_cases e : q = upN x1 (nthPR x3 i) * K + j
      · rw [if_pos e, if_pos e]
      · rw [if_neg e, if_neg e, hx1]
    by_cases hin : insK x2 (nthPR x3 i) j = true
    · simp only [takeK, hin, if_true]
      constructor
      · intro pl k hp hk
        rw [hx2 hin]
        by_cases e1 : pl * K + k = upN x1 (nthPR x3 i) * K + j
        · obtain ⟨rfl, rfl⟩ := idx_inj hk (by omega) e1
          rw [if_pos rfl, if_pos (by omega)]
        · rw [if_neg e1]
          by_cases e2 : pl * K + k = cellN (nthPR x3 i) * K + j
          · obtain ⟨rfl, rfl⟩ := idx_inj hk (by omega) e2
            rw [if_pos rfl, if_pos (by omega)]
          · rw [if_neg e2, ih1 pl k hp hk]
            by_cases e3 : k < j
            · rw [if_pos e3, if_pos (by omega)]
            · rw [if_neg e3]
              by_cases e4 : k = j
              · subst e4
                rw [if_pos (by omega), less, needs_else (fun e => e2 (by rw [e])) (fun e => e1 (by rw [e]))]; simp
              · rw [if_neg (by omega)]
      · rw [hx2 hin, if_pos rfl, hx1, if_pos rfl]
        simp only [Bool.and_eq_true, decide_eq_true_eq, ih2]
        constructor
        · rintro ⟨⟨g1, g2⟩, g3⟩ k hk
          by_cases e : k = j
          · subst e; exact ⟨g2, fun _ => g3⟩
          · exact g1 k (by omega)
        · intro g
          exact ⟨⟨fun k hk => g k (by omega), (g j (by omega)).1⟩, (g j (by omega)).2 hin⟩
    · simp only [takeK, hin, Bool.false_eq_true, if_false]
      constructor
      · intro pl k hp hk
        rw [hx1]
        by_cases e2 : pl * K + k = cellN (nthPR x3 i) * K + j
        · obtain ⟨rfl, rfl⟩ := idx_inj hk (by omega) e2
          rw [if_pos rfl, if_pos (by omega)]
        · rw [if_neg e2, ih1 pl k hp hk]
          by_cases e3 : k < j
          · rw [if_pos e3, if_pos (by omega)]
          · rw [if_neg e3]
            by_cases e4 : k = j
            · subst e4
              rw [if_pos (by omega)]
              by_cases e5 : pl = upN x1 (nthPR x3 i)
              · subst e5; rw [wc hin]
              · rw [less, needs_else (fun e => e2 (by rw [e])) e5]; simp
            · rw [if_neg (by omega)]
      · rw [hx1, if_pos rfl]
        simp only [Bool.and_eq_true, decide_eq_true_eq, ih2]
        constructor
        · rintro ⟨g1, g2⟩ k hk
          by_cases e : k = j
          · subst e; exact ⟨g2, fun h => absurd h hin⟩
          · exact g1 k (by omega)
        · intro g
          exact ⟨fun k hk => g k (by omega), (g j (by omega)).1⟩
theorem takeF_all {K : Nat} {x1 : List Int} {x2 : List Bool} {x3 : List PR} (h : PsOk K x1 x2 x3) {i : Nat} (hi : i < x3.length) {n : Int} (hn : 0 ≤ n ∧ n ≤ 1001) {f : Nat → Nat → Int} (hf : ∀ pl k, pl ≤ x1.length → k < K → -100000000 ≤ f pl k ∧ f pl k ≤ 1000) {xs : List Int} (hx : Flat K x1.length xs f) :
    Flat K x1.length (takeF (cellN (nthPR x3 i) * K) (upN x1 (nthPR x3 i) * K) x2 (nthPR x3 i) n xs K).1 (less x1 x2 (nthPR x3 i) n f) ∧
    (allGe x1.length K f → ((takeF (cellN (nthPR x3 i) * K) (upN x1 (nthPR x3 i) * K) x2 (nthPR x3 i) n xs K).2 = true ↔ allGe x1.length K (less x1 x2 (nthPR x3 i) n f))) := by
  obtain ⟨h1, h2⟩ := takeF_at h hi hn hf hx K (Nat.le_refl _)
  obtain ⟨u1, u2, u3, _⟩ := h.upN hi
  refine ⟨⟨by rw [takeF_len, hx.1], fun pl k hp hk => by rw [h1 pl k hp hk, if_pos hk]⟩, fun h0 => ?_⟩
  rw [h2]
  constructor
  · intro g pl k hp hk
    by_cases e1 : pl = cellN (nthPR x3 i)
    · rw [e1]; exact (g k hk).1
    · by_cases e2 : pl = upN x1 (nthPR x3 i)
      · rw [e2]
        by_cases hin : insK x2 (nthPR x3 i) k = true
        · exact (g k hk).2 hin
        · rw [less, needs_up h hi, innS_ins h hi hk, if_neg hin]
          have := h0 _ k u2 hk
          omega
      · rw [less, needs_else e1 e2]
        have := h0 pl k hp hk
        omega
  · intro g k hk
    exact ⟨g _ k (by omega) hk, fun _ => g _ k u2 hk⟩
/-- What the counts leave, as the reference reckons: it stops where something lacks. -/
def leftF (K : Nat) (x1 : List Int) (x2 : List Bool) (x3 : List PR) (cs : List Int) (flat : List Int) : Nat → List Int × Bool
  | 0 => (flat, true)
  | i + 1 => if (leftF K x1 x2 x3 cs flat i).2 = true then takeF (cellN (nthPR x3 i) * K) (upN x1 (nthPR x3 i) * K) x2 (nthPR x3 i) (nth cs i) (leftF K x1 x2 x3 cs flat i).1 K else leftF K x1 x2 x3 cs flat i
theorem flatten_nth {K : Nat} : ∀ (bags : List (List Int)), (∀ pl, pl < bags.length → (nthR bags pl).length = K) → bags.flatten.length = bags.length * K ∧ ∀ pl k, pl < bags.length → k < K → nth bags.flatten (pl * K + k) = nth (nthR bags pl) k
  | [], _ => ⟨by simp, fun pl k hp => absurd hp (by simp)⟩
  | b :: bags, h => by
    have h0 : b.length = K := by have := h 0 (by simp); simpa [nthR] using this
    obtain ⟨i1, i2⟩ := flatten_nth (K := K) bags (fun pl hp => by have := h (pl + 1) (by simp; omega); simpa [nthR] using this)
    refine ⟨by simp only [List.flatten_cons, List.length_append, List.length_cons, i1, h0, Nat.add_mul]; omega, fun pl k hp hk => ?_⟩
    cases pl with
    | zero =>
      simp only [List.flatten_cons, Nat.zero_mul, Nat.zero_add, nthR, nth, List.getD_cons_zero]
      rw [List.getD_eq_getElem?_getD, List.getElem?_append_left (by omega), ← List.getD_eq_getElem?_getD]
    | succ pl =>
      have := i2 pl k (by simp at hp; omega) hk
      simp only [nthR, List.getD_cons_succ]
      rw [show nthR bags pl = bags.getD pl [] from rfl] at this
      rw [← this]
      simp only [nth, List.flatten_cons]
      rw [List.getD_eq_getElem?_getD, List.getElem?_append_right (by rw [h0, Nat.add_mul]; omega), ← List.getD_eq_getElem?_getD, h0, show (pl + 1) * K + k - K = pl * K + k from by rw [Nat.add_mul]; omega]
theorem flat_start {K : Nat} {n : Nat} {y0 : List (List Int)} {y1 : List Int} (hs : StOk K n y0 y1) : Flat K n (bagsS y0 y1).flatten (fun pl k => nth (nthR (bagsS y0 y1) pl) k) := by
  have hl := hs.len
  obtain ⟨h1, h2⟩ := flatten_nth (K := K) (bagsS y0 y1) (fun pl hp => (bagsS_ok hs (by rw [bagsS_len] at hp; omega)).2)
  exact ⟨by rw [h1, bagsS_len, hl], fun pl k hp hk => h2 pl k (by rw [bagsS_len]; omega) hk⟩
theorem start_ge {K : Nat} {n : Nat} {y0 : List (List Int)} {y1 : List Int} (hs : StOk K n y0 y1) : allGe n K (fun pl k => nth (nthR (bagsS y0 y1) pl) k) := fun _ _ hp hk => (bagsS_at hs hp hk).1
theorem leftF_at {K : Nat} {x1 : List Int} {x2 : List Bool} {x3 : List PR} {y0 : List (List Int)} {y1 : List Int} {cs : List Int} (h : PsOk K x1 x2 x3) (hs : StOk K x1.length y0 y1) (hc : cntBd cs) :
    ∀ i, i ≤ x3.length → ((leftF K x1 x2 x3 cs (bagsS y0 y1).flatten i).2 = true ↔ allGe x1.length K (lev x1 x2 x3 (bagsS y0 y1) cs i)) ∧ ((leftF K x1 x2 x3 cs (bagsS y0 y1).flatten i).2 = true → Flat K x1.length (leftF K x1 x2 x3 cs (bagsS y0 y1).flatten i).1 (lev x1 x2 x3 (bagsS y0 y1) cs i))
  | 0, _ => ⟨by simp only [leftF, true_iff]; exact start_ge hs, fun _ => flat_start hs⟩
  | i + 1, hi => by
    obtain ⟨i1, i2⟩ := leftF_at h hs hc i (by omega)
    have h8 := h.r8
    unfold leftF
    by_cases e : (leftF K x1 x2 x3 cs (bagsS y0 y1).flatten i).2 = true
    · rw [if_pos e]
      obtain ⟨t1, t2⟩ := takeF_all h (i := i) (by omega) (hc i) (fun pl k hp hk => by have := lev_bd h hc pl hk (bagsS_at hs hp hk) i (by omega); omega) (i2 e)
      exact ⟨t2 (i1.1 e), fun _ => t1⟩
    · rw [if_neg e]
      refine ⟨⟨fun h' => absurd h' e, fun hg => ?_⟩, fun h' => absurd h' e⟩
      exfalso
      refine e (i1.2 fun pl k hp hk => ?_)
      have h1 := lev_mono h hc pl hk (bags := bagsS y0 y1) i 1 (by omega)
      have h2 := hg pl k hp hk
      omega
theorem left_fits {K : Nat} {x1 : List Int} {x2 : List Bool} {x3 : List PR} {y0 : List (List Int)} {y1 : List Int} {cs : List Int} (h : PsOk K x1 x2 x3) (hs : StOk K x1.length y0 y1) (hc : cntBd cs) (hl : cs.length = x3.length) :
    (leftF K x1 x2 x3 cs (bagsS y0 y1).flatten x3.length).2 = fitsB x1 x2 x3 (bagsS y0 y1) cs := by
  rw [Bool.eq_iff_iff, (leftF_at h hs hc x3.length (Nat.le_refl _)).1, fitsB_iff h hs hc hl]
/-- One more of a rule. -/
theorem lev_more {x1 : List Int} {x2 : List Bool} {x3 : List PR} {bags : List (List Int)} {cs : List Int} {q : Nat} (hq : q < cs.length) (pl k : Nat) :
    ∀ i, lev x1 x2 x3 bags (cs.set q (nth cs q + 1)) i pl k = lev x1 x2 x3 bags cs i pl k - (if q < i then needs x1 x2 (nthPR x3 q) pl k else 0)
  | 0 => by simp [lev]
  | i + 1 => by
    rw [lev, lev, lev_more hq pl k i, nth_set hq]
    by_cases e : i = q
    · subst e
      rw [if_pos rfl, if_neg (by omega), if_pos (by omega), Int.add_mul]; omega
    · rw [if_neg e]
      by_cases e2 : q < i
      · rw [if_pos e2, if_pos (by omega)]; omega
      · rw [if_neg e2, if_neg (by omega)]; omega
theorem lev_zero {x1 : List Int} {x2 : List Bool} {x3 : List PR} {bags : List (List Int)} {m : Nat} (pl k : Nat) : ∀ i, lev x1 x2 x3 bags (List.replicate m 0) i pl k = nth (nthR bags pl) k
  | 0 => rfl
  | i + 1 => by
    rw [lev, lev_zero pl k i]
    have : nth (List.replicate m (0 : Int)) i = 0 := by
      unfold nth
      rw [List.getD_eq_getElem?_getD, List.getElem?_replicate]
      split <;> rfl
    rw [this]; omega
/-- Whether one more of a rule fits. -/
theorem room_fits {K : Nat} {x1 : List Int} {x2 : List Bool} {x3 : List PR} {y0 : List (List Int)} {y1 : List Int} {cs : List Int} (h : PsOk K x1 x2 x3) (hs : StOk K x1.length y0 y1) (hc : ∀ j, 0 ≤ nth cs j ∧ nth cs j ≤ 1000) (hl : cs.length = x3.length) {q : Nat} (hq : q < x3.length)
    (hf : fitsB x1 x2 x3 (bagsS y0 y1) cs = true) {xs : List Int} (hx : Flat K x1.length xs (lev x1 x2 x3 (bagsS y0 y1) cs x3.length)) :
    (takeF (cellN (nthPR x3 q) * K) (upN x1 (nthPR x3 q) * K) x2 (nthPR x3 q) 1 xs K).2 = fitsB x1 x2 x3 (bagsS y0 y1) (cs.set q (nth cs q + 1)) := by
  have h8 := h.r8
  have hc1 : cntBd cs := fun j => by have := hc j; omega
  have hc2 : cntBd (cs.set q (nth cs q + 1)) := fun j => by
    rw [nth_set (by omega)]
    have := hc j
    have := hc q
    split <;> omega
  have hg := (fitsB_iff h hs hc1 hl).1 hf
  rw [Bool.eq_iff_iff, fitsB_iff h hs hc2 (by simpa using hl), ((takeF_all h hq (n := 1) (by omega) (fun pl k hp hk => by have := lev_bd h hc1 pl hk (bagsS_at hs hp hk) x3.length (by omega); omega) hx).2 hg)]
  have e : ∀ pl k, less x1 x2 (nthPR x3 q) 1 (lev x1 x2 x3 (bagsS y0 y1) cs x3.length) pl k = lev x1 x2 x3 (bagsS y0 y1) (cs.set q (nth cs q + 1)) x3.length pl k := fun pl k => by
    rw [lev_more (by omega), if_pos hq, less]; omega
  unfold allGe
  simp only [e]
theorem zeros_ok (m : Nat) (j : Nat) : 0 ≤ nth (List.replicate m (0 : Int)) j ∧ nth (List.replicate m (0 : Int)) j ≤ 1000 := by
  have : nth (List.replicate m (0 : Int)) j = 0 := by
    unfold nth
    rw [List.getD_eq_getElem?_getD, List.getElem?_replicate]
    split <;> rfl
  omega
theorem zeros_fit {K : Nat} {x1 : List Int} {x2 : List Bool} {x3 : List PR} {y0 : List (List Int)} {y1 : List Int} (h : PsOk K x1 x2 x3) (hs : StOk K x1.length y0 y1) : fitsB x1 x2 x3 (bagsS y0 y1) (List.replicate x3.length 0) = true := by
  rw [fitsB_iff h hs (fun j => by have := zeros_ok x3.length j; omega) (by simp)]
  intro pl k hp hk
  rw [lev_zero]
  exact start_ge hs pl k hp hk
/-- One of a rule alone. -/
theorem can_fits {K : Nat} {x1 : List Int} {x2 : List Bool} {x3 : List PR} {y0 : List (List Int)} {y1 : List Int} (h : PsOk K x1 x2 x3) (hs : StOk K x1.length y0 y1) {q : Nat} (hq : q < x3.length) :
    (takeF (cellN (nthPR x3 q) * K) (upN x1 (nthPR x3 q) * K) x2 (nthPR x3 q) 1 (bagsS y0 y1).flatten K).2 = fitsB x1 x2 x3 (bagsS y0 y1) ((List.replicate x3.length 0).set q 1) := by
  have e0 : nth (List.replicate x3.length (0 : Int)) q + 1 = 1 := by
    have : nth (List.replicate x3.length (0 : Int)) q = 0 := by simp [nth, hq]
    omega
  have := room_fits h hs (cs := List.replicate x3.length 0) (zeros_ok _) (by simp) hq (zeros_fit h hs) (xs := (bagsS y0 y1).flatten) (by
    have hst := flat_start hs
    refine ⟨hst.1, fun pl k hp hk => ?_⟩
    rw [lev_zero]; exact hst.2 pl k hp hk)
  rw [e0] at this
  exact this
end Go.Proofs.YtkbhdpkheincoaaDoor
