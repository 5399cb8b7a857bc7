/- What rules take from the places of a passing system: plain lists and numbers. No program is in sight. -/
import Derived.Test.YtkjmehpehopncaaZ3
import Derived.Test.YtkjmehpehopncaaZ2
namespace Go.Proofs.Ytkjmehpehopncaa
open Go.RowKit

/-- The place of the parent of a cell; behind the cells come the surroundings. -/
def upS (x1 : List Int) (c : Int) : Int := if c = 0 then x1.length else nth x1 c.toNat
/-- The objects of a list that are not free. -/
def boundS (free : List Bool) (xs : List Int) : List Int := (List.range xs.length).map fun k => if nthB free k = true then 0 else nth xs k
theorem boundS_len (free : List Bool) (xs : List Int) : (boundS free xs).length = xs.length := by simp [boundS]
theorem boundS_at {free : List Bool} {xs : List Int} {k : Nat} (h : k < xs.length) : nth (boundS free xs) k = if nthB free k = true then 0 else nth xs k := by
  simp [boundS, nth, h]
def cellN (r : PR) : Nat := r.cell.toNat
def upN (x1 : List Int) (r : PR) : Nat := (upS x1 r.cell).toNat
def innS (x2 : List Bool) (r : PR) : List Int := if r.cell = 0 then boundS x2 r.inn else r.inn
theorem innS_len (x2 : List Bool) (r : PR) : (innS x2 r).length = r.inn.length := by unfold innS; split <;> simp [boundS_len]
/-- A valid passing system, laid open. -/
structure PsOk (K : Nat) (x1 : List Int) (x2 : List Bool) (x3 : List PR) : Prop where
  k1 : 1 ≤ K
  k8 : K ≤ 8
  p1 : 1 ≤ x1.length
  p4 : x1.length ≤ 4
  par0 : nth x1 0 = -1
  free : x2.length = K
  r8 : x3.length ≤ 8
  par : ∀ c, 0 < c → c < x1.length → 0 ≤ nth x1 c ∧ nth x1 c < c
  cell : ∀ i, i < x3.length → 0 ≤ (nthPR x3 i).cell ∧ (nthPR x3 i).cell < x1.length
  out : ∀ i, i < x3.length → isBagS (nthPR x3 i).out = true ∧ (nthPR x3 i).out.length = K
  inn : ∀ i, i < x3.length → isBagS (nthPR x3 i).inn = true ∧ (nthPR x3 i).inn.length = K
  some : ∀ i, i < x3.length → ¬ sumS (nthPR x3 i).out + sumS (nthPR x3 i).inn = 0
  own : ∀ i, i < x3.length → 0 < (nthPR x3 i).cell ∨ 0 < sumS (nthPR x3 i).out ∨ hasBoundS x2 (nthPR x3 i).inn = true
theorem PsOk.of {x0 : Int} {x1 : List Int} {x2 : List Bool} {x3 : List PR} (h : okPass x0 x1 x2 x3 = true) : ∃ K : Nat, x0 = K ∧ PsOk K x1 x2 x3 := by
  simp only [okPass, Bool.and_eq_true] at h
  obtain ⟨⟨h1, h2⟩, h3⟩ := h
  obtain ⟨a1, a2, a3, a4, a5, a6, a7⟩ := passHead_ok h1
  refine ⟨x0.toNat, by omega, by omega, by omega, a3, a4, a5, by omega, a7, fun c c0 c1 => ?_, fun i hi => ?_, fun i hi => ?_, fun i hi => ?_, fun i hi => ?_, fun i hi => ?_⟩
  · have := parsOk_at h2 (k := c - 1) (by omega)
    simp only [parOk, inRg, Bool.and_eq_true, decide_eq_true_eq] at this
    rw [show c - 1 + 1 = c by omega] at this
    omega
  all_goals
    have hr := allPR_at h3 hi
    simp only [ruleOk, Bool.and_eq_true, Bool.or_eq_true, decide_eq_true_eq, inRg, Bool.not_eq_true', beq_eq_false_iff_ne, ne_eq] at hr
    obtain ⟨⟨⟨⟨⟨r1, r2⟩, r3⟩, r4⟩, r5⟩, r6⟩ := hr
  · omega
  · have := validBagS_ok r3; exact ⟨this.1, by omega⟩
  · have := validBagS_ok r4; exact ⟨this.1, by omega⟩
  · exact r5
  · rcases r6 with (r6 | r6) | r6
    · exact .inl r6
    · exact .inr (.inl r6)
    · exact .inr (.inr r6)
/-- A valid stock, laid open. -/
structure StOk (K n : Nat) (y0 : List (List Int)) (y1 : List Int) : Prop where
  len : y0.length = n
  bag : ∀ i, i < n → isBagS (nthR y0 i) = true ∧ (nthR y0 i).length = K
  around : isBagS y1 = true ∧ y1.length = K
theorem StOk.of {K : Nat} {n : Nat} {x2 : List Bool} {y0 : List (List Int)} {y1 : List Int} (h : okStock K n x2 y0 y1 = true) : StOk K n y0 y1 := by
  simp only [okStock, Bool.and_eq_true, decide_eq_true_eq] at h
  obtain ⟨⟨⟨h1, h2⟩, _⟩, h3⟩ := h
  refine ⟨h1, fun i hi => ?_, ?_⟩
  · have := validBagS_ok (allII_at h3 (k := i) (by omega)); exact ⟨this.1, by omega⟩
  · have := validBagS_ok h2; exact ⟨this.1, by omega⟩
theorem stockAll_ok {x0 : Int} {x1 : List Int} {x2 : List Bool} {x3 : List PR} {y0 : List (List Int)} {y1 : List Int} (h : okStockAll x0 x1 x2 x3 y0 y1 = true) : ∃ K : Nat, x0 = K ∧ PsOk K x1 x2 x3 ∧ StOk K x1.length y0 y1 := by
  simp only [okStockAll, Bool.and_eq_true] at h
  obtain ⟨K, rfl, hp⟩ := PsOk.of h.1
  exact ⟨K, rfl, hp, StOk.of h.2⟩
theorem PsOk.upN {K : Nat} {x1 : List Int} {x2 : List Bool} {x3 : List PR} (h : PsOk K x1 x2 x3) {i : Nat} (hi : i < x3.length) :
    cellN (nthPR x3 i) < x1.length ∧ upN x1 (nthPR x3 i) ≤ x1.length ∧ upN x1 (nthPR x3 i) ≠ cellN (nthPR x3 i) ∧ (upS x1 (nthPR x3 i).cell = (upN x1 (nthPR x3 i) : Int)) ∧ ((nthPR x3 i).cell = (cellN (nthPR x3 i) : Int)) ∧ ((nthPR x3 i).cell = 0 ↔ upN x1 (nthPR x3 i) = x1.length) := by
  have hc := h.cell i hi
  have hp := h.par (nthPR x3 i).cell.toNat
  unfold cellN Go.Proofs.Ytkjmehpehopncaa.upN upS
  by_cases e : (nthPR x3 i).cell = 0
  · have := h.p1
    rw [if_pos e, Int.toNat_natCast]
    refine ⟨by omega, Nat.le_refl _, by omega, rfl, by omega, ⟨fun _ => rfl, fun _ => e⟩⟩
  · rw [if_neg e]
    have := hp (by omega) (by omega)
    omega
/-- What a rule takes of kind k at a place. -/
def needs (x1 : List Int) (x2 : List Bool) (r : PR) (pl k : Nat) : Int := (if pl = cellN r then nth r.out k else 0) + (if pl = upN x1 r then nth (innS x2 r) k else 0)
/-- What is left of kind k at a place behind the first i counts. -/
def lev (x1 : List Int) (x2 : List Bool) (x3 : List PR) (bags : List (List Int)) (cs : List Int) : Nat → Nat → Nat → Int
  | 0, pl, k => nth (nthR bags pl) k
  | i + 1, pl, k => lev x1 x2 x3 bags cs i pl k - nth cs i * needs x1 x2 (nthPR x3 i) pl k
theorem innS_bd {K : Nat} {x1 : List Int} {x2 : List Bool} {x3 : List PR} (h : PsOk K x1 x2 x3) {i : Nat} (hi : i < x3.length) {k : Nat} (hk : k < K) : 0 ≤ nth (innS x2 (nthPR x3 i)) k ∧ nth (innS x2 (nthPR x3 i)) k ≤ 1000 := by
  have hn := h.inn i hi
  have hb := isBagS_at hn.1 (k := k) (by omega)
  unfold innS
  split
  · rw [boundS_at (by omega)]
    split <;> omega
  · exact hb
theorem out_bd {K : Nat} {x1 : List Int} {x2 : List Bool} {x3 : List PR} (h : PsOk K x1 x2 x3) {i : Nat} (hi : i < x3.length) {k : Nat} (hk : k < K) : 0 ≤ nth (nthPR x3 i).out k ∧ nth (nthPR x3 i).out k ≤ 1000 :=
  isBagS_at (h.out i hi).1 (by have := (h.out i hi).2; omega)
theorem inn_bd {K : Nat} {x1 : List Int} {x2 : List Bool} {x3 : List PR} (h : PsOk K x1 x2 x3) {i : Nat} (hi : i < x3.length) {k : Nat} (hk : k < K) : 0 ≤ nth (nthPR x3 i).inn k ∧ nth (nthPR x3 i).inn k ≤ 1000 :=
  isBagS_at (h.inn i hi).1 (by have := (h.inn i hi).2; omega)
theorem needs_bd {K : Nat} {x1 : List Int} {x2 : List Bool} {x3 : List PR} (h : PsOk K x1 x2 x3) {i : Nat} (hi : i < x3.length) (pl : Nat) {k : Nat} (hk : k < K) : 0 ≤ needs x1 x2 (nthPR x3 i) pl k ∧ needs x1 x2 (nthPR x3 i) pl k ≤ 2000 := by
  have h1 := out_bd h hi hk
  have h2 := innS_bd h hi hk
  unfold needs
  split <;> split <;> omega
/-- Numbers from 0 to 1001. -/
def cntBd (cs : List Int) : Prop := ∀ j, 0 ≤ nth cs j ∧ nth cs j ≤ 1001
theorem mul_bd {a b A B : Int} (h1 : 0 ≤ a ∧ a ≤ A) (h2 : 0 ≤ b ∧ b ≤ B) : 0 ≤ a * b ∧ a * b ≤ A * B :=
  ⟨Int.mul_nonneg h1.1 h2.1, Int.mul_le_mul h1.2 h2.2 h2.1 (by omega)⟩
theorem lev_mono {K : Nat} {x1 : List Int} {x2 : List Bool} {x3 : List PR} {bags : List (List Int)} {cs : List Int} (h : PsOk K x1 x2 x3) (hc : cntBd cs) (pl : Nat) {k : Nat} (hk : k < K) :
    ∀ (i d : Nat), i + d ≤ x3.length → lev x1 x2 x3 bags cs (i + d) pl k ≤ lev x1 x2 x3 bags cs i pl k
  | i, 0, _ => Int.le_refl _
  | i, d + 1, hd => by
    have ih := lev_mono h hc pl hk (bags := bags) i d (by omega)
    have hm := mul_bd (hc (i + d)) (needs_bd h (i := i + d) (by omega) pl hk)
    rw [← Nat.add_assoc, lev]; omega
theorem lev_bd {K : Nat} {x1 : List Int} {x2 : List Bool} {x3 : List PR} {bags : List (List Int)} {cs : List Int} (h : PsOk K x1 x2 x3) (hc : cntBd cs) (pl : Nat) {k : Nat} (hk : k < K) (h0 : 0 ≤ nth (nthR bags pl) k ∧ nth (nthR bags pl) k ≤ 1000) :
    ∀ i, i ≤ x3.length → -(2002000 * (i : Int)) ≤ lev x1 x2 x3 bags cs i pl k ∧ lev x1 x2 x3 bags cs i pl k ≤ 1000
  | 0, _ => by simp [lev]; omega
  | i + 1, hi => by
    have ih := lev_bd h hc pl hk h0 i (by omega)
    have hm := mul_bd (hc i) (needs_bd h (i := i) (by omega) pl hk)
    rw [lev]; omega
/-- The bags of all places, the surroundings last. -/
def bagsS (y0 : List (List Int)) (y1 : List Int) : List (List Int) := y0 ++ [y1]
theorem bagsS_len (y0 : List (List Int)) (y1 : List Int) : (bagsS y0 y1).length = y0.length + 1 := by simp [bagsS]
theorem bagsS_ok {K n : Nat} {y0 : List (List Int)} {y1 : List Int} (h : StOk K n y0 y1) {pl : Nat} (hp : pl ≤ n) : isBagS (nthR (bagsS y0 y1) pl) = true ∧ (nthR (bagsS y0 y1) pl).length = K := by
  have hl := h.len
  by_cases e : pl < n
  · have := h.bag pl e
    rw [nthR_lt (by omega)] at this
    rw [nthR_lt (by rw [bagsS_len]; omega)]
    simp only [bagsS]
    rw [List.getElem_append_left (by omega)]; exact this
  · have e2 : pl = y0.length := by omega
    subst e2
    have := h.around
    rw [nthR_lt (by rw [bagsS_len]; omega)]
    simpa [bagsS] using this
theorem bagsS_at {K n : Nat} {y0 : List (List Int)} {y1 : List Int} (h : StOk K n y0 y1) {pl k : Nat} (hp : pl ≤ n) (hk : k < K) : 0 ≤ nth (nthR (bagsS y0 y1) pl) k ∧ nth (nthR (bagsS y0 y1) pl) k ≤ 1000 := by
  have := bagsS_ok h hp
  exact isBagS_at this.1 (by omega)
/-- No place lacks anything. -/
def allGe (n K : Nat) (f : Nat → Nat → Int) : Prop := ∀ pl k, pl ≤ n → k < K → 0 ≤ f pl k

/-! The program's: bag by bag. -/
def takeB (x1 : List Int) (x2 : List Bool) (r : PR) (n : Int) (bags : List (List Int)) : List (List Int) :=
  (bags.set (cellN r) (plusS (nthR bags (cellN r)) r.out (-n))).set (upN x1 r) (plusS (nthR (bags.set (cellN r) (plusS (nthR bags (cellN r)) r.out (-n))) (upN x1 r)) (innS x2 r) (-n))
def takeTo (x1 : List Int) (x2 : List Bool) (x3 : List PR) (cs : List Int) (bags : List (List Int)) : Nat → List (List Int)
  | 0 => bags
  | i + 1 => takeB x1 x2 (nthPR x3 i) (nth cs i) (takeTo x1 x2 x3 cs bags i)
theorem nthR_set {xss : List (List Int)} {i j : Nat} {v : List Int} (h : i < xss.length) : nthR (xss.set i v) j = if j = i then v else nthR xss j := by
  by_cases e : j = i
  · subst e; simp [nthR, h]
  · simp [nthR, Ne.symm e, e]
theorem plusS_nth {xs ys : List Int} {f : Int} {k : Nat} (h : k < xs.length) : nth (plusS xs ys f) k = addW f (nth xs k) (nth ys k) := zipF_at h
theorem addW_neg {n x y : Int} (h : 0 ≤ n ∧ n ≤ 1001) (hy : 0 ≤ y ∧ y ≤ 1000) (hx : -100000000 ≤ x ∧ x ≤ 100000000) : addW (-n) x y = x - n * y := by
  have hm := mul_bd h hy
  have e : -n * y = -(n * y) := Int.neg_mul _ _
  unfold addW wrap64
  rw [e]
  omega
theorem takeB_at {K : Nat} {x1 : List Int} {x2 : List Bool} {x3 : List PR} (h : PsOk K x1 x2 x3) {i : Nat} (hi : i < x3.length) {n : Int} (hn : 0 ≤ n ∧ n ≤ 1001) {bags : List (List Int)} (hl : bags.length = x1.length + 1)
    (hb : ∀ pl, pl ≤ x1.length → (nthR bags pl).length = K ∧ ∀ k, k < K → -100000000 ≤ nth (nthR bags pl) k ∧ nth (nthR bags pl) k ≤ 1000) {pl : Nat} (hp : pl ≤ x1.length) :
    (nthR (takeB x1 x2 (nthPR x3 i) n bags) pl).length = K ∧ ∀ k, k < K → nth (nthR (takeB x1 x2 (nthPR x3 i) n bags) pl) k = nth (nthR bags pl) k - n * needs x1 x2 (nthPR x3 i) pl k := by
  obtain ⟨u1, u2, u3, _, _, _⟩ := h.upN hi
  have ho := h.out i hi
  have hq := h.inn i hi
  have hil := innS_len x2 (nthPR x3 i)
  unfold takeB needs
  rw [nthR_set (by simp; omega), nthR_set (by omega), nthR_set (by omega)]
  rw [if_neg u3]
  by_cases e1 : pl = upN x1 (nthPR x3 i)
  · have e2 : ¬ pl = cellN (nthPR x3 i) := by rw [e1]; exact u3
    simp only [if_pos e1, if_neg e2]
    have hbu := hb _ u2
    refine ⟨by rw [plusS_len]; exact hbu.1, fun k hk => ?_⟩
    rw [plusS_nth (by omega), addW_neg hn (innS_bd h hi hk) (by have := hbu.2 k hk; omega), e1]
    simp
  · simp only [if_neg e1]
    by_cases e2 : pl = cellN (nthPR x3 i)
    · simp only [if_pos e2]
      have hbc := hb (cellN (nthPR x3 i)) (by omega)
      refine ⟨by rw [plusS_len]; exact hbc.1, fun k hk => ?_⟩
      rw [plusS_nth (by omega), addW_neg hn (out_bd h hi hk) (by have := hbc.2 k hk; omega), e2]
      simp
    · simp only [if_neg e2]
      exact ⟨(hb pl hp).1, fun k hk => by simp⟩
theorem takeB_len (x1 : List Int) (x2 : List Bool) (r : PR) (n : Int) (bags : List (List Int)) : (takeB x1 x2 r n bags).length = bags.length := by simp [takeB]
theorem takeTo_len (x1 : List Int) (x2 : List Bool) (x3 : List PR) (cs : List Int) (bags : List (List Int)) : ∀ i, (takeTo x1 x2 x3 cs bags i).length = bags.length
  | 0 => rfl
  | i + 1 => by rw [takeTo, takeB_len, takeTo_len]
theorem takeTo_at {K : Nat} {x1 : List Int} {x2 : List Bool} {x3 : List PR} {y0 : List (List Int)} {y1 : List Int} {cs : List Int} (h : PsOk K x1 x2 x3) (hs : StOk K x1.length y0 y1) (hc : cntBd cs) :
    ∀ i, i ≤ x3.length → ∀ pl, pl ≤ x1.length → (nthR (takeTo x1 x2 x3 cs (bagsS y0 y1) i) pl).length = K ∧ ∀ k, k < K → nth (nthR (takeTo x1 x2 x3 cs (bagsS y0 y1) i) pl) k = lev x1 x2 x3 (bagsS y0 y1) cs i pl k
  | 0, _, pl, hp => ⟨(bagsS_ok hs hp).2, fun k _ => rfl⟩
  | i + 1, hi, pl, hp => by
    have ih := takeTo_at h hs hc i (by omega)
    have h8 := h.r8
    have hb : ∀ pl, pl ≤ x1.length → (nthR (takeTo x1 x2 x3 cs (bagsS y0 y1) i) pl).length = K ∧ ∀ k, k < K → -100000000 ≤ nth (nthR (takeTo x1 x2 x3 cs (bagsS y0 y1) i) pl) k ∧ nth (nthR (takeTo x1 x2 x3 cs (bagsS y0 y1) i) pl) k ≤ 1000 := fun pl hp => by
      refine ⟨(ih pl hp).1, fun k hk => ?_⟩
      rw [(ih pl hp).2 k hk]
      have := lev_bd h hc pl hk (bagsS_at hs hp hk) i (by omega)
      omega
    have := takeB_at h (i := i) (by omega) (hc i) (by rw [takeTo_len, bagsS_len, hs.len]) hb hp
    rw [takeTo]
    refine ⟨this.1, fun k hk => ?_⟩
    rw [this.2 k hk, (ih pl hp).2 k hk, lev]
def geB (b : List Int) : Bool := allB (fun n => decide (0 ≤ n)) b
/-- The counts fit, as the program reckons. -/
def fitsB (x1 : List Int) (x2 : List Bool) (x3 : List PR) (bags : List (List Int)) (cs : List Int) : Bool := allII geB (takeTo x1 x2 x3 cs bags cs.length)
theorem fitsB_iff {K : Nat} {x1 : List Int} {x2 : List Bool} {x3 : List PR} {y0 : List (List Int)} {y1 : List Int} {cs : List Int} (h : PsOk K x1 x2 x3) (hs : StOk K x1.length y0 y1) (hc : cntBd cs) (hl : cs.length = x3.length) :
    fitsB x1 x2 x3 (bagsS y0 y1) cs = true ↔ allGe x1.length K (lev x1 x2 x3 (bagsS y0 y1) cs x3.length) := by
  have ha := takeTo_at h hs hc x3.length (Nat.le_refl _)
  have hlen : (takeTo x1 x2 x3 cs (bagsS y0 y1) x3.length).length = x1.length + 1 := by rw [takeTo_len, bagsS_len, hs.len]
  unfold fitsB
  rw [hl]
  constructor
  · intro hf pl k hp hk
    have h1 := allII_at hf (k := pl) (by omega)
    have h2 := allB_at h1 (k := k) (by rw [(ha pl hp).1]; exact hk)
    rw [(ha pl hp).2 k hk] at h2
    simpa using h2
  · intro hf
    refine allII_true fun pl hp => allB_true fun k hk => ?_
    have hp' : pl ≤ x1.length := by omega
    rw [(ha pl hp').1] at hk
    rw [(ha pl hp').2 k hk]
    simpa using hf pl k hp' hk

/-! The reference's: all places in one list. -/
/-- One kind, at the places that begin at own and at up. -/
def takeK (own up : Nat) (r : PR) (n : Int) (ins : Bool) (k : Nat) (s : List Int × Bool) : List Int × Bool :=
  let xs1 := s.1.set (own + k) (wrap64 (nth s.1 (own + k) - wrap64 (nth r.out k * n)))
  let ok1 := s.2 && decide (0 ≤ nth xs1 (own + k))
  if ins = true then (xs1.set (up + k) (wrap64 (nth xs1 (up + k) - wrap64 (nth r.inn k * n))), ok1 && decide (0 ≤ nth (xs1.set (up + k) (wrap64 (nth xs1 (up + k) - wrap64 (nth r.inn k * n)))) (up + k))) else (xs1, ok1)
/-- Are kind k's objects in the bag In taken? -/
def insK (x2 : List Bool) (r : PR) (k : Nat) : Bool := decide (0 < r.cell) || !nthB x2 k
def takeF (own up : Nat) (x2 : List Bool) (r : PR) (n : Int) (xs : List Int) : Nat → List Int × Bool
  | 0 => (xs, true)
  | k + 1 => takeK own up r n (insK x2 r k) k (takeF own up x2 r n xs k)
theorem nth_set {xs : List Int} {i j : Nat} {v : Int} (h : i < xs.length) : nth (xs.set i v) j = if j = i then v else nth xs j := by
  by_cases e : j = i
  · subst e; simp [nth, h]
  · simp [nth, Ne.symm e, e]
theorem takeK_len (own up : Nat) (r : PR) (n : Int) (ins : Bool) (k : Nat) (s : List Int × Bool) : (takeK own up r n ins k s).1.length = s.1.length := by
  unfold takeK; dsimp only; split <;> simp
theorem takeF_len (own up : Nat) (x2 : List Bool) (r : PR) (n : Int) (xs : List Int) : ∀ k, (takeF own up x2 r n xs k).1.length = xs.length
  | 0 => rfl
  | k + 1 => by rw [takeF, takeK_len, takeF_len]
theorem idx_lt {pl k n K : Nat} (hp : pl ≤ n) (hk : k < K) : pl * K + k < (n + 1) * K := by
  have := Nat.mul_le_mul_right K hp
  rw [Nat.add_mul]; omega
theorem idx_inj {pl k pl' k' K : Nat} (hk : k < K) (hk' : k' < K) (h : pl * K + k = pl' * K + k') : pl = pl' ∧ k = k' := by
  have h1 : (pl * K + k) / K = pl := by rw [Nat.mul_comm, Nat.mul_add_div (by omega), Nat.div_eq_of_lt hk]; rfl
  have h2 : (pl' * K + k') / K = pl' := by rw [Nat.mul_comm, Nat.mul_add_div (by omega), Nat.div_eq_of_lt hk']; rfl
  have e : pl = pl' := by rw [← h1, ← h2, h]
  subst e
  exact ⟨rfl, by omega⟩
theorem innS_ins {K : Nat} {x1 : List Int} {x2 : List Bool} {x3 : List PR} (h : PsOk K x1 x2 x3) {i : Nat} (hi : i < x3.length) {k : Nat} (hk : k < K) : nth (innS x2 (nthPR x3 i)) k = if insK x2 (nthPR x3 i) k = true then nth (nthPR x3 i).inn k else 0 := by
  have hc := h.cell i hi
  have hq := (h.inn i hi).2
  unfold innS insK
  by_cases e : (nthPR x3 i).cell = 0
  · rw [if_pos e, boundS_at (by omega), e]
    cases nthB x2 k <;> simp
  · rw [if_neg e]
    have : 0 < (nthPR x3 i).cell := by omega
    simp [this]
theorem needs_cell {K : Nat} {x1 : List Int} {x2 : List Bool} {x3 : List PR} (h : PsOk K x1 x2 x3) {i : Nat} (hi : i < x3.length) (k : Nat) : needs x1 x2 (nthPR x3 i) (cellN (nthPR x3 i)) k = nth (nthPR x3 i).out k := by
  obtain ⟨_, _, u3, _⟩ := h.upN hi
  unfold needs
  rw [if_pos rfl, if_neg (Ne.symm u3)]; omega
theorem needs_up {K : Nat} {x1 : List Int} {x2 : List Bool} {x3 : List PR} (h : PsOk K x1 x2 x3) {i : Nat} (hi : i < x3.length) (k : Nat) : needs x1 x2 (nthPR x3 i) (upN x1 (nthPR x3 i)) k = nth (innS x2 (nthPR x3 i)) k := by
  obtain ⟨_, _, u3, _⟩ := h.upN hi
  unfold needs
  rw [if_neg u3, if_pos rfl]; omega
theorem needs_else {x1 : List Int} {x2 : List Bool} {r : PR} {pl : Nat} (h1 : pl ≠ cellN r) (h2 : pl ≠ upN x1 r) (k : Nat) : needs x1 x2 r pl k = 0 := by
  unfold needs
  rw [if_neg h1, if_neg h2]; rfl
theorem wrap_sub {x n y : Int} (h : 0 ≤ n ∧ n ≤ 1001) (hy : 0 ≤ y ∧ y ≤ 1000) (hx : -100000000 ≤ x ∧ x ≤ 100000000) : wrap64 (x - wrap64 (y * n)) = x - n * y := by
  have hm := mul_bd h hy
  rw [Int.mul_comm y n]
  unfold wrap64; omega
/-- The flat list holds f. -/
def Flat (K n : Nat) (xs : List Int) (f : Nat → Nat → Int) : Prop := xs.length = (n + 1) * K ∧ ∀ pl k, pl ≤ n → k < K → nth xs (pl * K + k) = f pl k
/-- What a rule leaves. -/
def less (x1 : List Int) (x2 : List Bool) (r : PR) (n : Int) (f : Nat → Nat → Int) (pl k : Nat) : Int := f pl k - n * needs x1 x2 r pl k
theorem takeF_at {K : Nat} {x1 : List Int} {x2 : List Bool} {x3 : List PR} (h : PsOk K x1 x2 x3) {i : Nat} (hi : i < x3.length) {n : Int} (hn : 0 ≤ n ∧ n ≤ 1001) {f : Nat → Nat → Int} (hf : ∀ pl k, pl ≤ x1.length → k < K → -100000000 ≤ f pl k ∧ f pl k ≤ 1000) {xs : List Int} (hx : Flat K x1.length xs f) :
    ∀ j, j ≤ K → (∀ pl k, pl ≤ x1.length → k < K → nth (takeF (cellN (nthPR x3 i) * K) (upN x1 (nthPR x3 i) * K) x2 (nthPR x3 i) n xs j).1 (pl * K + k) = if k < j then less x1 x2 (nthPR x3 i) n f pl k else f pl k) ∧
      ((takeF (cellN (nthPR x3 i) * K) (upN x1 (nthPR x3 i) * K) x2 (nthPR x3 i) n xs j).2 = true ↔ ∀ k, k < j → 0 ≤ less x1 x2 (nthPR x3 i) n f (cellN (nthPR x3 i)) k ∧ (insK x2 (nthPR x3 i) k = true → 0 ≤ less x1 x2 (nthPR x3 i) n f (upN x1 (nthPR x3 i)) k))
  | 0, _ => ⟨fun pl k hp hk => by rw [takeF, if_neg (by omega)]; exact hx.2 pl k hp hk, by simp [takeF]⟩
  | j + 1, hj => by
    obtain ⟨ih1, ih2⟩ := takeF_at h hi hn hf hx j (by omega)
    obtain ⟨u1, u2, u3, _⟩ := h.upN hi
    have hlen := takeF_len (cellN (nthPR x3 i) * K) (upN x1 (nthPR x3 i) * K) x2 (nthPR x3 i) n xs j
    rw [hx.1] at hlen
    have ha := idx_lt (K := K) (k := j) (show cellN (nthPR x3 i) ≤ x1.length by omega) (by omega)
    have hb := idx_lt (K := K) (k := j) u2 (by omega)
    have hab : cellN (nthPR x3 i) * K + j ≠ upN x1 (nthPR x3 i) * K + j := fun e => u3 (idx_inj (by omega) (by omega) e).1.symm
    have va := ih1 (cellN (nthPR x3 i)) j (by omega) (by omega)
    have vb := ih1 (upN x1 (nthPR x3 i)) j u2 (by omega)
    rw [if_neg (by omega)] at va vb
    have wa : wrap64 (f (cellN (nthPR x3 i)) j - wrap64 (nth (nthPR x3 i).out j * n)) = less x1 x2 (nthPR x3 i) n f (cellN (nthPR x3 i)) j := by
      rw [wrap_sub hn (out_bd h hi (by omega)) (by have := hf (cellN (nthPR x3 i)) j (by omega) (by omega); omega), less, needs_cell h hi]
    have wb : insK x2 (nthPR x3 i) j = true → wrap64 (f (upN x1 (nthPR x3 i)) j - wrap64 (nth (nthPR x3 i).inn j * n)) = less x1 x2 (nthPR x3 i) n f (upN x1 (nthPR x3 i)) j := fun hin => by
      rw [wrap_sub hn (inn_bd h hi (by omega)) (by have := hf (upN x1 (nthPR x3 i)) j u2 (by omega); omega), less, needs_up h hi, innS_ins h hi (by omega), if_pos hin]
    have wc : ¬ insK x2 (nthPR x3 i) j = true → less x1 x2 (nthPR x3 i) n f (upN x1 (nthPR x3 i)) j = f (upN x1 (nthPR x3 i)) j := fun hin => by
      rw [less, needs_up h hi, innS_ins h hi (by omega), if_neg hin]; simp
    rw [takeF]
    generalize hS : takeF (cellN (nthPR x3 i) * K) (upN x1 (nthPR x3 i) * K) x2 (nthPR x3 i) n xs j = S at *
    have hx1 : ∀ q, nth (S.1.set (cellN (nthPR x3 i) * K + j) (wrap64 (nth S.1 (cellN (nthPR x3 i) * K + j) - wrap64 (nth (nthPR x3 i).out j * n)))) q = if q = cellN (nthPR x3 i) * K + j then less x1 x2 (nthPR x3 i) n f (cellN (nthPR x3 i)) j else nth S.1 q := fun q => by
      rw [nth_set (by omega), va, wa]
    have hx2 : insK x2 (nthPR x3 i) j = true → ∀ q, nth ((S.1.set (cellN (nthPR x3 i) * K + j) (wrap64 (nth S.1 (cellN (nthPR x3 i) * K + j) - wrap64 (nth (nthPR x3 i).out j * n)))).set (upN x1 (nthPR x3 i) * K + j) (wrap64 (nth (S.1.set (cellN (nthPR x3 i) * K + j) (wrap64 (nth S.1 (cellN (nthPR x3 i) * K + j) - wrap64 (nth (nthPR x3 i).out j * n)))) (upN x1 (nthPR x3 i) * K + j) - wrap64 (nth (nthPR x3 i).inn j * n)))) q =
        if q = upN x1 (nthPR x3 i) * K + j then less x1 x2 (nthPR x3 i) n f (upN x1 (nthPR x3 i)) j else if q = cellN (nthPR x3 i) * K + j then less x1 x2 (nthPR x3 i) n f (cellN (nthPR x3 i)) j else nth S.1 q := fun hin q => by
      rw [nth_set (by simp; omega), hx1, if_neg (Ne.symm hab), vb, wb hin]
      by_cases e : q = upN x1 (nthPR x3 i) * K + j
      · rw [if_pos e, if_pos e]
      · rw [if_neg e, if_neg e, hx1]
    by_cases hin : insK x2 (nthPR x3 i) j = true
    · simp only [takeK, hin, if_true]
      constructor
      · intro pl k hp hk
        rw [hx2 hin]
        by_cases e1 : pl * K + k = upN x1 (nthPR x3 i) * K + j
        · obtain ⟨rfl, rfl⟩ := idx_inj hk (by omega) e1
          rw [if_pos rfl, if_pos (by omega)]
        · rw [if_neg e1]
          by_cases e2 : pl * K + k = cellN (nthPR x3 i) * K + j
          · obtain ⟨rfl, rfl⟩ := idx_inj hk (by omega) e2
            rw [if_pos rfl, if_pos (by omega)]
          · rw [if_neg e2, ih1 pl k hp hk]
            by_cases e3 : k < j
            · rw [if_pos e3, if_pos (by omega)]
            · rw [if_neg e3]
              by_cases e4 : k = j
              · subst e4
                rw [if_pos (by omega), less, needs_else (fun e => e2 (by rw [e])) (fun e => e1 (by rw [e]))]; simp
              · rw [if_neg (by omega)]
      · rw [hx2 hin, if_pos rfl, hx1, if_pos rfl]
        simp only [Bool.and_eq_true, decide_eq_true_eq, ih2]
        constructor
        · rintro ⟨⟨g1, g2⟩, g3⟩ k hk
          by_cases e : k = j
          · subst e; exact ⟨g2, fun _ => g3⟩
          · exact g1 k (by omega)
        · intro g
          exact ⟨⟨fun k hk => g k (by omega), (g j (by omega)).1⟩, (g j (by omega)).2 hin⟩
    · simp only [takeK, hin, Bool.false_eq_true, if_false]
      constructor
      · intro pl k hp hk
        rw [hx1]
        by_cases e2 : pl * K + k = cellN (nthPR x3 i) * K + j
        · obtain ⟨rfl, rfl⟩ := idx_inj hk (by omega) e2
          rw [if_pos rfl, if_pos (by omega)]
        · rw [if_neg e2, ih1 pl k hp hk]
          by_cases e3 : k < j
          · rw [if_pos e3, if_pos (by omega)]
          · rw [if_neg e3]
            by_cases e4 : k = j
            · subst e4
              rw [if_pos (by omega)]
              by_cases e5 : pl = upN x1 (nthPR x3 i)
              · subst e5; rw [wc hin]
              · rw [less, needs_else (fun e => e2 (by rw [e])) e5]; simp
            · rw [if_neg (by omega)]
      · rw [hx1, if_pos rfl]
        simp only [Bool.and_eq_true, decide_eq_true_eq, ih2]
        constructor
        · rintro ⟨g1, g2⟩ k hk
          by_cases e : k = j
          · subst e; exact ⟨g2, fun h => absurd h hin⟩
          · exact g1 k (by omega)
        · intro g
          exact ⟨fun k hk => g k (by omega), (g j (by omega)).1⟩
theorem takeF_all {K : Nat} {x1 : List Int} {x2 : List Bool} {x3 : List PR} (h : PsOk K x1 x2 x3) {i : Nat} (hi : i < x3.length) {n : Int} (hn : 0 ≤ n ∧ n ≤ 1001) {f : Nat → Nat → Int} (hf : ∀ pl k, pl ≤ x1.length → k < K → -100000000 ≤ f pl k ∧ f pl k ≤ 1000) {xs : List Int} (hx : Flat K x1.length xs f) :
    Flat K x1.length (takeF (cellN (nthPR x3 i) * K) (upN x1 (nthPR x3 i) * K) x2 (nthPR x3 i) n xs K).1 (less x1 x2 (nthPR x3 i) n f) ∧
    (allGe x1.length K f → ((takeF (cellN (nthPR x3 i) * K) (upN x1 (nthPR x3 i) * K) x2 (nthPR x3 i) n xs K).2 = true ↔ allGe x1.length K (less x1 x2 (nthPR x3 i) n f))) := by
  obtain ⟨h1, h2⟩ := takeF_at h hi hn hf hx K (Nat.le_refl _)
  obtain ⟨u1, u2, u3, _⟩ := h.upN hi
  refine ⟨⟨by rw [takeF_len, hx.1], fun pl k hp hk => by rw [h1 pl k hp hk, if_pos hk]⟩, fun h0 => ?_⟩
  rw [h2]
  constructor
  · intro g pl k hp hk
    by_cases e1 : pl = cellN (nthPR x3 i)
    · rw [e1]; exact (g k hk).1
    · by_cases e2 : pl = upN x1 (nthPR x3 i)
      · rw [e2]
        by_cases hin : insK x2 (nthPR x3 i) k = true
        · exact (g k hk).2 hin
        · rw [less, needs_up h hi, innS_ins h hi hk, if_neg hin]
          have := h0 _ k u2 hk
          omega
      · rw [less, needs_else e1 e2]
        have := h0 pl k hp hk
        omega
  · intro g k hk
    exact ⟨g _ k (by omega) hk, fun _ => g _ k u2 hk⟩
/-- What the counts leave, as the reference reckons: it stops where something lacks. -/
def leftF (K : Nat) (x1 : List Int) (x2 : List Bool) (x3 : List PR) (cs : List Int) (flat : List Int) : Nat → List Int × Bool
  | 0 => (flat, true)
  | i + 1 => if (leftF K x1 x2 x3 cs flat i).2 = true then takeF (cellN (nthPR x3 i) * K) (upN x1 (nthPR x3 i) * K) x2 (nthPR x3 i) (nth cs i) (leftF K x1 x2 x3 cs flat i).1 K else leftF K x1 x2 x3 cs flat i
theorem flatten_nth {K : Nat} : ∀ (bags : List (List Int)), (∀ pl, pl < bags.length → (nthR bags pl).length = K) → bags.flatten.length = bags.length * K ∧ ∀ pl k, pl < bags.length → k < K → nth bags.flatten (pl * K + k) = nth (nthR bags pl) k
  | [], _ => ⟨by simp, fun pl k hp => absurd hp (by simp)⟩
  | b :: bags, h => by
    have h0 : b.length = K := by have := h 0 (by simp); simpa [nthR] using this
    obtain ⟨i1, i2⟩ := flatten_nth (K := K) bags (fun pl hp => by have := h (pl + 1) (by simp; omega); simpa [nthR] using this)
    refine ⟨by simp only [List.flatten_cons, List.length_append, List.length_cons, i1, h0, Nat.add_mul]; omega, fun pl k hp hk => ?_⟩
    cases pl with
    | zero =>
      simp only [List.flatten_cons, Nat.zero_mul, Nat.zero_add, nthR, nth, List.getD_cons_zero]
      rw [List.getD_eq_getElem?_getD, List.getElem?_append_left (by omega), ← List.getD_eq_getElem?_getD]
    | succ pl =>
      have := i2 pl k (by simp at hp; omega) hk
      simp only [nthR, List.getD_cons_succ]
      rw [show nthR bags pl = bags.getD pl [] from rfl] at this
      rw [← this]
      simp only [nth, List.flatten_cons]
      rw [List.getD_eq_getElem?_getD, List.getElem?_append_right (by rw [h0, Nat.add_mul]; omega), ← List.getD_eq_getElem?_getD, h0, show (pl + 1) * K + k - K = pl * K + k from by rw [Nat.add_mul]; omega]
theorem flat_start {K : Nat} {n : Nat} {y0 : List (List Int)} {y1 : List Int} (hs : StOk K n y0 y1) : Flat K n (bagsS y0 y1).flatten (fun pl k => nth (nthR (bagsS y0 y1) pl) k) := by
  have hl := hs.len
  obtain ⟨h1, h2⟩ := flatten_nth (K := K) (bagsS y0 y1) (fun pl hp => (bagsS_ok hs (by rw [bagsS_len] at hp; omega)).2)
  exact ⟨by rw [h1, bagsS_len, hl], fun pl k hp hk => h2 pl k (by rw [bagsS_len]; omega) hk⟩
theorem start_ge {K : Nat} {n : Nat} {y0 : List (List Int)} {y1 : List Int} (hs : StOk K n y0 y1) : allGe n K (fun pl k => nth (nthR (bagsS y0 y1) pl) k) := fun _ _ hp hk => (bagsS_at hs hp hk).1
theorem leftF_at {K : Nat} {x1 : List Int} {x2 : List Bool} {x3 : List PR} {y0 : List (List Int)} {y1 : List Int} {cs : List Int} (h : PsOk K x1 x2 x3) (hs : StOk K x1.length y0 y1) (hc : cntBd cs) :
    ∀ i, i ≤ x3.length → ((leftF K x1 x2 x3 cs (bagsS y0 y1).flatten i).2 = true ↔ allGe x1.length K (lev x1 x2 x3 (bagsS y0 y1) cs i)) ∧ ((leftF K x1 x2 x3 cs (bagsS y0 y1).flatten i).2 = true → Flat K x1.length (leftF K x1 x2 x3 cs (bagsS y0 y1).flatten i).1 (lev x1 x2 x3 (bagsS y0 y1) cs i))
  | 0, _ => ⟨by simp only [leftF, true_iff]; exact start_ge hs, fun _ => flat_start hs⟩
  | i + 1, hi => by
    obtain ⟨i1, i2⟩ := leftF_at h hs hc i (by omega)
    have h8 := h.r8
    unfold leftF
    by_cases e : (leftF K x1 x2 x3 cs (bagsS y0 y1).flatten i).2 = true
    · rw [if_pos e]
      obtain ⟨t1, t2⟩ := takeF_all h (i := i) (by omega) (hc i) (fun pl k hp hk => by have := lev_bd h hc pl hk (bagsS_at hs hp hk) i (by omega); omega) (i2 e)
      exact ⟨t2 (i1.1 e), fun _ => t1⟩
    · rw [if_neg e]
      refine ⟨⟨fun h' => absurd h' e, fun hg => ?_⟩, fun h' => absurd h' e⟩
      exfalso
      refine e (i1.2 fun pl k hp hk => ?_)
      have h1 := lev_mono h hc pl hk (bags := bagsS y0 y1) i 1 (by omega)
      have h2 := hg pl k hp hk
      omega
theorem left_fits {K : Nat} {x1 : List Int} {x2 : List Bool} {x3 : List PR} {y0 : List (List Int)} {y1 : List Int} {cs : List Int} (h : PsOk K x1 x2 x3) (hs : StOk K x1.length y0 y1) (hc : cntBd cs) (hl : cs.length = x3.length) :
    (leftF K x1 x2 x3 cs (bagsS y0 y1).flatten x3.length).2 = fitsB x1 x2 x3 (bagsS y0 y1) cs := by
  rw [Bool.eq_iff_iff, (leftF_at h hs hc x3.length (Nat.le_refl _)).1, fitsB_iff h hs hc hl]
/-- One more of a rule. -/
theorem lev_more {x1 : List Int} {x2 : List Bool} {x3 : List PR} {bags : List (List Int)} {cs : List Int} {q : Nat} (hq : q < cs.length) (pl k : Nat) :
    ∀ i, lev x1 x2 x3 bags (cs.set q (nth cs q + 1)) i pl k = lev x1 x2 x3 bags cs i pl k - (if q < i then needs x1 x2 (nthPR x3 q) pl k else 0)
  | 0 => by simp [lev]
  | i + 1 => by
    rw [lev, lev, lev_more hq pl k i, nth_set hq]
    by_cases e : i = q
    · subst e
      rw [if_pos rfl, if_neg (by omega), if_pos (by omega), Int.add_mul]; omega
    · rw [if_neg e]
      by_cases e2 : q < i
      · rw [if_pos e2, if_pos (by omega)]; omega
      · rw [if_neg e2, if_neg (by omega)]; omega
theorem lev_zero {x1 : List Int} {x2 : List Bool} {x3 : List PR} {bags : List (List Int)} {m : Nat} (pl k : Nat) : ∀ i, lev x1 x2 x3 bags (List.replicate m 0) i pl k = nth (nthR bags pl) k
  | 0 => rfl
  | i + 1 => by
    rw [lev, lev_zero pl k i]
    have : nth (List.replicate m (0 : Int)) i = 0 := by
      unfold nth
      rw [List.getD_eq_getElem?_getD, List.getElem?_replicate]
      split <;> rfl
    rw [this]; omega
/-- Whether one more of a rule fits. -/
theorem room_fits {K : Nat} {x1 : List Int} {x2 : List Bool} {x3 : List PR} {y0 : List (List Int)} {y1 : List Int} {cs : List Int} (h : PsOk K x1 x2 x3) (hs : StOk K x1.length y0 y1) (hc : ∀ j, 0 ≤ nth cs j ∧ nth cs j ≤ 1000) (hl : cs.length = x3.length) {q : Nat} (hq : q < x3.length)
    (hf : fitsB x1 x2 x3 (bagsS y0 y1) cs = true) {xs : List Int} (hx : Flat K x1.length xs (lev x1 x2 x3 (bagsS y0 y1) cs x3.length)) :
    (takeF (cellN (nthPR x3 q) * K) (upN x1 (nthPR x3 q) * K) x2 (nthPR x3 q) 1 xs K).2 = fitsB x1 x2 x3 (bagsS y0 y1) (cs.set q (nth cs q + 1)) := by
  have h8 := h.r8
  have hc1 : cntBd cs := fun j => by have := hc j; omega
  have hc2 : cntBd (cs.set q (nth cs q + 1)) := fun j => by
    rw [nth_set (by omega)]
    have := hc j
    have := hc q
    split <;> omega
  have hg := (fitsB_iff h hs hc1 hl).1 hf
  rw [Bool.eq_iff_iff, fitsB_iff h hs hc2 (by simpa using hl), ((takeF_all h hq (n := 1) (by omega) (fun pl k hp hk => by have := lev_bd h hc1 pl hk (bagsS_at hs hp hk) x3.length (by omega); omega) hx).2 hg)]
  have e : ∀ pl k, less x1 x2 (nthPR x3 q) 1 (lev x1 x2 x3 (bagsS y0 y1) cs x3.length) pl k = lev x1 x2 x3 (bagsS y0 y1) (cs.set q (nth cs q + 1)) x3.length pl k := fun pl k => by
    rw [lev_more (by omega), if_pos hq, less]; omega
  unfold allGe
  simp only [e]
theorem zeros_ok (m : Nat) (j : Nat) : 0 ≤ nth (List.replicate m (0 : Int)) j ∧ nth (List.replicate m (0 : Int)) j ≤ 1000 := by
  have : nth (List.replicate m (0 : Int)) j = 0 := by
    unfold nth
    rw [List.getD_eq_getElem?_getD, List.getElem?_replicate]
    split <;> rfl
  omega
theorem zeros_fit {K : Nat} {x1 : List Int} {x2 : List Bool} {x3 : List PR} {y0 : List (List Int)} {y1 : List Int} (h : PsOk K x1 x2 x3) (hs : StOk K x1.length y0 y1) : fitsB x1 x2 x3 (bagsS y0 y1) (List.replicate x3.length 0) = true := by
  rw [fitsB_iff h hs (fun j => by have := zeros_ok x3.length j; omega) (by simp)]
  intro pl k hp hk
  rw [lev_zero]
  exact start_ge hs pl k hp hk
/-- One of a rule alone. -/
theorem can_fits {K : Nat} {x1 : List Int} {x2 : List Bool} {x3 : List PR} {y0 : List (List Int)} {y1 : List Int} (h : PsOk K x1 x2 x3) (hs : StOk K x1.length y0 y1) {q : Nat} (hq : q < x3.length) :
    (takeF (cellN (nthPR x3 q) * K) (upN x1 (nthPR x3 q) * K) x2 (nthPR x3 q) 1 (bagsS y0 y1).flatten K).2 = fitsB x1 x2 x3 (bagsS y0 y1) ((List.replicate x3.length 0).set q 1) := by
  have e0 : nth (List.replicate x3.length (0 : Int)) q + 1 = 1 := by
    have : nth (List.replicate x3.length (0 : Int)) q = 0 := by simp [nth, hq]
    omega
  have := room_fits h hs (cs := List.replicate x3.length 0) (zeros_ok _) (by simp) hq (zeros_fit h hs) (xs := (bagsS y0 y1).flatten) (by
    have hst := flat_start hs
    refine ⟨hst.1, fun pl k hp hk => ?_⟩
    rw [lev_zero]; exact hst.2 pl k hp hk)
  rw [e0] at this
  exact this
end Go.Proofs.Ytkjmehpehopncaa

/- Weights of places: plain sums. No program is in sight. -/
namespace Go.Proofs.Ytkjmehpehopncaa
open Go.RowKit

def sumN (f : Nat → Int) : Nat → Int
  | 0 => 0
  | n + 1 => sumN f n + f n
theorem sumN_congr {f g : Nat → Int} : ∀ n, (∀ i, i < n → f i = g i) → sumN f n = sumN g n
  | 0, _ => rfl
  | n + 1, h => by rw [sumN, sumN, sumN_congr n (fun i hi => h i (by omega)), h n (by omega)]
theorem sumN_add (f g : Nat → Int) : ∀ n, sumN (fun i => f i + g i) n = sumN f n + sumN g n
  | 0 => rfl
  | n + 1 => by simp only [sumN, sumN_add f g n]; omega
theorem sumN_neg (f : Nat → Int) : ∀ n, sumN (fun i => - f i) n = - sumN f n
  | 0 => rfl
  | n + 1 => by simp only [sumN, sumN_neg f n]; omega
theorem sumN_zero {f : Nat → Int} : ∀ n, (∀ i, i < n → f i = 0) → sumN f n = 0
  | 0, _ => rfl
  | n + 1, h => by rw [sumN, sumN_zero n (fun i hi => h i (by omega)), h n (by omega)]; rfl
theorem sumN_split (f : Nat → Int) (m : Nat) : ∀ n, sumN f (m + n) = sumN f m + sumN (fun i => f (m + i)) n
  | 0 => by simp [sumN]
  | n + 1 => by rw [← Nat.add_assoc, sumN, sumN_split f m n, sumN]; omega
theorem sumN_block (f : Nat → Int) (K : Nat) : ∀ n, sumN f (n * K) = sumN (fun pl => sumN (fun k => f (pl * K + k)) K) n
  | 0 => by simp [sumN]
  | n + 1 => by rw [Nat.add_mul, Nat.one_mul, sumN_split, sumN_block f K n, sumN]
theorem sumN_one {f : Nat → Int} {a : Nat} : ∀ n, a < n → (∀ i, i < n → i ≠ a → f i = 0) → sumN f n = f a
  | 0, h, _ => absurd h (by omega)
  | n + 1, h, hz => by
    rw [sumN]
    by_cases e : a = n
    · subst e
      rw [sumN_zero a (fun i hi => hz i (by omega) (by omega))]; omega
    · rw [sumN_one n (by omega) (fun i hi h => hz i (by omega) h), hz n (by omega) (Ne.symm e)]; omega
theorem sumN_two {f : Nat → Int} {a b : Nat} {n : Nat} (ha : a < n) (hb : b < n) (hab : a ≠ b) (hz : ∀ i, i < n → i ≠ a → i ≠ b → f i = 0) : sumN f n = f a + f b := by
  have h1 : sumN f n = sumN (fun i => (if i = a then f a else 0) + (if i = b then f b else 0)) n := sumN_congr n fun i hi => by
    by_cases e1 : i = a
    · subst e1; rw [if_pos rfl, if_neg hab]; omega
    · by_cases e2 : i = b
      · subst e2; rw [if_neg e1, if_pos rfl]; omega
      · rw [if_neg e1, if_neg e2, hz i hi e1 e2]; rfl
  rw [h1, sumN_add, sumN_one n ha (fun i _ h => if_neg h), sumN_one n hb (fun i _ h => if_neg h), if_pos rfl, if_pos rfl]
theorem sumN_bd {f : Nat → Int} {B : Int} : ∀ n, (∀ i, i < n → -B ≤ f i ∧ f i ≤ B) → -(B * n) ≤ sumN f n ∧ sumN f n ≤ B * n
  | 0, _ => by simp [sumN]
  | n + 1, h => by
    have ih := sumN_bd n (fun i hi => h i (by omega))
    have h1 := h n (by omega)
    rw [sumN]
    have e : B * ((n + 1 : Nat) : Int) = B * n + B := by rw [show ((n + 1 : Nat) : Int) = (n : Int) + 1 by omega, Int.mul_add]; omega
    rw [e]; omega
/-- A sum of products. -/
def dotN (xs ys : List Int) (n : Nat) : Int := sumN (fun k => nth xs k * nth ys k) n
/-- As the machine reckons it. -/
def dotTo (xs ys : List Int) : Nat → Int
  | 0 => 0
  | k + 1 => wrap64 (dotTo xs ys k + wrap64 (nth xs k * nth ys k))
theorem prod_bd {a b A : Int} (h1 : -A ≤ a ∧ a ≤ A) (h2 : -1000 ≤ b ∧ b ≤ 1000) : -(A * 1000) ≤ a * b ∧ a * b ≤ A * 1000 := by
  have hA : 0 ≤ A := by omega
  rcases Int.le_total 0 a with ha | ha <;> rcases Int.le_total 0 b with hb | hb
  · have := Int.mul_le_mul h1.2 h2.2 hb hA
    have := Int.mul_nonneg ha hb
    omega
  · have := Int.mul_le_mul h1.2 (show -b ≤ 1000 by omega) (by omega) hA
    have := Int.mul_nonneg ha (show 0 ≤ -b by omega)
    rw [Int.mul_neg] at *
    omega
  · have := Int.mul_le_mul (show -a ≤ A by omega) h2.2 hb hA
    have := Int.mul_nonneg (show 0 ≤ -a by omega) hb
    rw [Int.neg_mul] at *
    omega
  · have := Int.mul_le_mul (show -a ≤ A by omega) (show -b ≤ 1000 by omega) (by omega) hA
    have := Int.mul_nonneg (show 0 ≤ -a by omega) (show 0 ≤ -b by omega)
    rw [Int.neg_mul_neg] at *
    omega
theorem dotTo_eq {xs ys : List Int} {n : Nat} (hn : n ≤ 100) (hx : ∀ k, k < n → -5000 ≤ nth xs k ∧ nth xs k ≤ 5000) (hy : ∀ k, k < n → -1000 ≤ nth ys k ∧ nth ys k ≤ 1000) : ∀ k, k ≤ n → dotTo xs ys k = dotN xs ys k
  | 0, _ => rfl
  | k + 1, hk => by
    have ih := dotTo_eq hn hx hy k (by omega)
    have hb := sumN_bd (f := fun k => nth xs k * nth ys k) (B := 5000000) k (fun i hi => by have := prod_bd (hx i (by omega)) (hy i (by omega)); omega)
    have h1 := prod_bd (hx k (by omega)) (hy k (by omega))
    rw [dotTo, ih, dotN, dotN, sumN]
    have hk2 : (k : Int) ≤ 100 := by omega
    unfold wrap64
    generalize sumN (fun k => nth xs k * nth ys k) k = A at *
    generalize nth xs k * nth ys k = B at *
    omega
theorem weigh_eq {xs ws : List Int} (hn : xs.length ≤ 100) (hx : ∀ k, k < xs.length → -5000 ≤ nth xs k ∧ nth xs k ≤ 5000) (hy : ∀ k, k < xs.length → -1000 ≤ nth ws k ∧ nth ws k ≤ 1000) : weighS xs ws = dotN xs ws xs.length := by
  have key : ∀ k, k ≤ xs.length → sumTo (zipF mulW xs ws xs.length) k = dotTo xs ws k := by
    intro k
    induction k with
    | zero => intro _; rfl
    | succ k ih => intro hk; rw [sumTo, ih (by omega), zipF_at (by omega), dotTo, mulW]
  unfold weighS sumS
  rw [zipF_len, key _ (Nat.le_refl _), dotTo_eq hn hx hy _ (Nat.le_refl _)]
/-- The lists are weights. -/
def wOk (x0 : Int) (l : List Int) : Bool := ((l.length : Int) == x0) && allB (fun w => inRg w (-1000) 1000) l
def areW (x0 : Int) (n : Nat) (ws : List (List Int)) : Bool := decide (ws.length = n + 1) && allII (wOk x0) ws
theorem areW_ok {K : Nat} {n : Nat} {ws : List (List Int)} (h : areW K n ws = true) : ws.length = n + 1 ∧ ∀ pl, pl ≤ n → (nthR ws pl).length = K ∧ ∀ k, k < K → -1000 ≤ nth (nthR ws pl) k ∧ nth (nthR ws pl) k ≤ 1000 := by
  simp only [areW, Bool.and_eq_true, decide_eq_true_eq] at h
  refine ⟨h.1, fun pl hp => ?_⟩
  have h2 := allII_at h.2 (k := pl) (by omega)
  simp only [wOk, Bool.and_eq_true, beq_iff_eq] at h2
  refine ⟨by omega, fun k hk => ?_⟩
  have := allB_at h2.2 (k := k) (by omega)
  simpa [inRg] using this
/-- The weight of all places. -/
def invS (K n : Nat) (ws : List (List Int)) (y0 : List (List Int)) (y1 : List Int) : Int := dotN y1 (nthR ws n) K + sumN (fun c => dotN (nthR y0 c) (nthR ws c) K) n
/-- The program's sum. -/
def invTo (ws : List (List Int)) (y0 : List (List Int)) (y1 : List Int) (n : Nat) : Nat → Int
  | 0 => weighS y1 (nthR ws n)
  | c + 1 => wrap64 (invTo ws y0 y1 n c + weighS (nthR y0 c) (nthR ws c))
theorem bag_bd {b : List Int} {K : Nat} (h : isBagS b = true ∧ b.length = K) : ∀ k, k < b.length → -5000 ≤ nth b k ∧ nth b k ≤ 5000 := fun k hk => by
  have := isBagS_at h.1 hk; omega
theorem invTo_eq {K : Nat} {n : Nat} {ws y0 : List (List Int)} {y1 : List Int} (hK : K ≤ 8) (hn : n ≤ 4) (hs : StOk K n y0 y1) (hw : areW K n ws = true) : ∀ c, c ≤ n → invTo ws y0 y1 n c = dotN y1 (nthR ws n) K + sumN (fun c => dotN (nthR y0 c) (nthR ws c) K) c
  | 0, _ => by
    have w := (areW_ok hw).2 n (Nat.le_refl _)
    have ha := hs.around
    rw [invTo, weigh_eq (by omega) (bag_bd ha) (fun k hk => w.2 k (by omega)), ha.2, sumN]; omega
  | c + 1, hc => by
    have ih := invTo_eq hK hn hs hw c (by omega)
    have w := (areW_ok hw).2 c (by omega)
    have hb := hs.bag c (by omega)
    have bd : ∀ (x y : List Int), (∀ k, k < K → -5000 ≤ nth x k ∧ nth x k ≤ 5000) → (∀ k, k < K → -1000 ≤ nth y k ∧ nth y k ≤ 1000) → -40000000 ≤ dotN x y K ∧ dotN x y K ≤ 40000000 := fun x y hx hy => by
      have := sumN_bd (f := fun k => nth x k * nth y k) (B := 5000000) K (fun i hi => by have := prod_bd (hx i hi) (hy i hi); omega)
      have : (K : Int) ≤ 8 := by omega
      unfold dotN; omega
    have b1 := bd y1 (nthR ws n) (fun k hk => bag_bd hs.around k (by rw [hs.around.2]; exact hk)) ((areW_ok hw).2 n (Nat.le_refl _)).2
    have b2 := sumN_bd (f := fun c => dotN (nthR y0 c) (nthR ws c) K) (B := 40000000) c (fun i hi => bd _ _ (fun k hk => bag_bd (hs.bag i (by omega)) k (by rw [(hs.bag i (by omega)).2]; exact hk)) ((areW_ok hw).2 i (by omega)).2)
    have b3 := bd (nthR y0 c) (nthR ws c) (fun k hk => bag_bd hb k (by rw [hb.2]; exact hk)) w.2
    have : (c : Int) ≤ 4 := by omega
    rw [invTo, ih, weigh_eq (by omega) (bag_bd hb) (fun k hk => w.2 k (by omega)), hb.2, sumN]
    unfold wrap64; omega
theorem flat_sum {K n : Nat} {xs ys : List Int} {f g : Nat → Nat → Int} (hx : Flat K n xs f) (hy : Flat K n ys g) : dotN xs ys ((n + 1) * K) = sumN (fun pl => sumN (fun k => f pl k * g pl k) K) (n + 1) := by
  unfold dotN
  rw [sumN_block]
  exact sumN_congr _ fun pl hp => sumN_congr _ fun k hk => by rw [hx.2 pl k (by omega) hk, hy.2 pl k (by omega) hk]
theorem flat_weights {K n : Nat} {ws : List (List Int)} (h : areW K n ws = true) : Flat K n ws.flatten (fun pl k => nth (nthR ws pl) k) := by
  obtain ⟨hl, hw⟩ := areW_ok h
  obtain ⟨h1, h2⟩ := flatten_nth (K := K) ws (fun pl hp => (hw pl (by omega)).1)
  exact ⟨by rw [h1, hl], fun pl k hp hk => h2 pl k (by omega) hk⟩
theorem dot_inv {K n : Nat} {ws y0 : List (List Int)} {y1 : List Int} (hK : K ≤ 8) (hn : n ≤ 4) (hs : StOk K n y0 y1) (hw : areW K n ws = true) : dotTo (bagsS y0 y1).flatten ws.flatten (bagsS y0 y1).flatten.length = invTo ws y0 y1 n n := by
  have hx := flat_start hs
  have hy := flat_weights hw
  have hl := hs.len
  have hlen : (n + 1) * K ≤ 40 := by have := Nat.mul_le_mul (show n + 1 ≤ 5 by omega) hK; omega
  have hat : ∀ q, q < (n + 1) * K → ∃ pl k, pl ≤ n ∧ k < K ∧ q = pl * K + k := fun q hq => by
    have hK0 : 0 < K := by rcases Nat.eq_zero_or_pos K with e | e; (subst e; simp at hq); exact e
    have hqd : q / K < n + 1 := by rw [Nat.div_lt_iff_lt_mul hK0]; exact hq
    exact ⟨q / K, q % K, by omega, Nat.mod_lt _ hK0, by have := Nat.div_add_mod q K; rw [Nat.mul_comm K] at this; omega⟩
  rw [hx.1, dotTo_eq (n := (n + 1) * K) (by omega) (fun q hq => ?_) (fun q hq => ?_) _ (Nat.le_refl _), flat_sum hx hy, invTo_eq hK hn hs hw n (Nat.le_refl _), sumN]
  · rw [Int.add_comm]
    have e1 : nthR (bagsS y0 y1) n = y1 := by
      rw [nthR_lt (by rw [bagsS_len]; omega)]
      simp [bagsS, hl]
    congr 1
    · show dotN (nthR (bagsS y0 y1) n) _ K = _
      rw [e1]
    · refine sumN_congr _ fun c hc => ?_
      have e2 : nthR (bagsS y0 y1) c = nthR y0 c := by
        rw [nthR_lt (by rw [bagsS_len]; omega), nthR_lt (by omega)]
        simp only [bagsS]
        rw [List.getElem_append_left (by omega)]
      show dotN (nthR (bagsS y0 y1) c) _ K = _
      rw [e2]
  · obtain ⟨pl, k, hp, hk, rfl⟩ := hat q hq
    rw [hx.2 pl k hp hk]
    have := bagsS_at hs hp hk
    dsimp only
    omega
  · obtain ⟨pl, k, hp, hk, rfl⟩ := hat q hq
    rw [hy.2 pl k hp hk]
    exact ((areW_ok hw).2 pl hp).2 k hk
end Go.Proofs.Ytkjmehpehopncaa

/- Invariants of a passing system: plain sums. No program is in sight. -/
namespace Go.Proofs.Ytkjmehpehopncaa
open Go.RowKit

def giveK (own up : Nat) (r : PR) (n : Int) (ins : Bool) (k : Nat) (xs : List Int) : List Int :=
  let xs1 := xs.set (own + k) (wrap64 (nth xs (own + k) + wrap64 (nth r.inn k * n)))
  if ins = true then xs1.set (up + k) (wrap64 (nth xs1 (up + k) + wrap64 (nth r.out k * n))) else xs1
def giveF (own up : Nat) (x2 : List Bool) (r : PR) (n : Int) (xs : List Int) : Nat → List Int
  | 0 => xs
  | k + 1 => giveK own up r n (insK x2 r k) k (giveF own up x2 r n xs k)
theorem giveK_len (own up : Nat) (r : PR) (n : Int) (ins : Bool) (k : Nat) (s : List Int) : (giveK own up r n ins k s).length = s.length := by
  unfold giveK; dsimp only; split <;> simp
theorem giveF_len (own up : Nat) (x2 : List Bool) (r : PR) (n : Int) (xs : List Int) : ∀ k, (giveF own up x2 r n xs k).length = xs.length
  | 0 => rfl
  | k + 1 => by rw [giveF, giveK_len, giveF_len]
/-- What a rule gives of kind k to a place. -/
def gives (x1 : List Int) (x2 : List Bool) (r : PR) (pl k : Nat) : Int := (if pl = cellN r then nth r.inn k else 0) + (if pl = upN x1 r ∧ insK x2 r k = true then nth r.out k else 0)
theorem wrap_add {x y : Int} (hy : 0 ≤ y ∧ y ≤ 1000) (hx : -100000000 ≤ x ∧ x ≤ 100000000) : wrap64 (x + wrap64 (y * 1)) = x + y := by
  rw [Int.mul_one]; unfold wrap64; omega
theorem giveF_at {K : Nat} {x1 : List Int} {x2 : List Bool} {x3 : List PR} (h : PsOk K x1 x2 x3) {i : Nat} (hi : i < x3.length) {f : Nat → Nat → Int} (hf : ∀ pl k, pl ≤ x1.length → k < K → -100000000 ≤ f pl k ∧ f pl k ≤ 1000) {xs : List Int} (hx : Flat K x1.length xs f) :
    ∀ j, j ≤ K → ∀ pl k, pl ≤ x1.length → k < K → nth (giveF (cellN (nthPR x3 i) * K) (upN x1 (nthPR x3 i) * K) x2 (nthPR x3 i) 1 xs j) (pl * K + k) = if k < j then f pl k + gives x1 x2 (nthPR x3 i) pl k else f pl k
  | 0, _, pl, k, hp, hk => by rw [giveF, if_neg (by omega)]; exact hx.2 pl k hp hk
  | j + 1, hj, pl, k, hp, hk => by
    have ih1 := giveF_at h hi hf hx j (by omega)
    obtain ⟨u1, u2, u3, _⟩ := h.upN hi
    have hlen := giveF_len (cellN (nthPR x3 i) * K) (upN x1 (nthPR x3 i) * K) x2 (nthPR x3 i) 1 xs j
    rw [hx.1] at hlen
    have ha := idx_lt (K := K) (k := j) (show cellN (nthPR x3 i) ≤ x1.length by omega) (by omega)
    have hb := idx_lt (K := K) (k := j) u2 (by omega)
    have hab : cellN (nthPR x3 i) * K + j ≠ upN x1 (nthPR x3 i) * K + j := fun e => u3 (idx_inj (by omega) (by omega) e).1.symm
    have va := ih1 (cellN (nthPR x3 i)) j (by omega) (by omega)
    have vb := ih1 (upN x1 (nthPR x3 i)) j u2 (by omega)
    rw [if_neg (by omega)] at va vb
    have wa : wrap64 (f (cellN (nthPR x3 i)) j + wrap64 (nth (nthPR x3 i).inn j * 1)) = f (cellN (nthPR x3 i)) j + gives x1 x2 (nthPR x3 i) (cellN (nthPR x3 i)) j := by
      rw [wrap_add (inn_bd h hi (by omega)) (by have := hf (cellN (nthPR x3 i)) j (by omega) (by omega); omega), gives, if_pos rfl, if_neg (fun e => u3 e.1.symm)]; omega
    have wb : insK x2 (nthPR x3 i) j = true → wrap64 (f (upN x1 (nthPR x3 i)) j + wrap64 (nth (nthPR x3 i).out j * 1)) = f (upN x1 (nthPR x3 i)) j + gives x1 x2 (nthPR x3 i) (upN x1 (nthPR x3 i)) j := fun hin => by
      rw [wrap_add (out_bd h hi (by omega)) (by have := hf (upN x1 (nthPR x3 i)) j u2 (by omega); omega), gives, if_neg u3, if_pos ⟨rfl, hin⟩]; omega
    have wc : ¬ insK x2 (nthPR x3 i) j = true → gives x1 x2 (nthPR x3 i) (upN x1 (nthPR x3 i)) j = 0 := fun hin => by
      rw [gives, if_neg u3, if_neg (fun e => hin e.2)]; rfl
    have wd : ∀ pl, pl ≠ cellN (nthPR x3 i) → pl ≠ upN x1 (nthPR x3 i) → gives x1 x2 (nthPR x3 i) pl j = 0 := fun pl e1 e2 => by
      rw [gives, if_neg e1, if_neg (fun e => e2 e.1)]; rfl
    rw [giveF]
    generalize giveF (cellN (nthPR x3 i) * K) (upN x1 (nthPR x3 i) * K) x2 (nthPR x3 i) 1 xs j = S at *
    have hx1 : ∀ q, nth (S.set (cellN (nthPR x3 i) * K + j) (wrap64 (nth S (cellN (nthPR x3 i) * K + j) + wrap64 (nth (nthPR x3 i).inn j * 1)))) q = if q = cellN (nthPR x3 i) * K + j then f (cellN (nthPR x3 i)) j + gives x1 x2 (nthPR x3 i) (cellN (nthPR x3 i)) j else nth S q := fun q => by
      rw [nth_set (by omega), va, wa]
    by_cases hin : insK x2 (nthPR x3 i) j = true
    · simp only [giveK, hin, if_true]
      rw [nth_set (by simp; omega), hx1 (upN x1 (nthPR x3 i) * K + j), if_neg (Ne.symm hab), vb, wb hin]
      by_cases e1 : pl * K + k = upN x1 (nthPR x3 i) * K + j
      · obtain ⟨rfl, rfl⟩ := idx_inj hk (by omega) e1
        rw [if_pos rfl, if_pos (by omega)]
      · rw [if_neg e1, hx1]
        by_cases e2 : pl * K + k = cellN (nthPR x3 i) * K + j
        · obtain ⟨rfl, rfl⟩ := idx_inj hk (by omega) e2
          rw [if_pos rfl, if_pos (by omega)]
        · rw [if_neg e2, ih1 pl k hp hk]
          by_cases e3 : k < j
          · rw [if_pos e3, if_pos (by omega)]
          · rw [if_neg e3]
            by_cases e4 : k = j
            · subst e4
              rw [if_pos (by omega), wd pl (fun e => e2 (by rw [e])) (fun e => e1 (by rw [e]))]; simp
            · rw [if_neg (by omega)]
    · simp only [giveK, hin, Bool.false_eq_true, if_false]
      rw [hx1]
      by_cases e2 : pl * K + k = cellN (nthPR x3 i) * K + j
      · obtain ⟨rfl, rfl⟩ := idx_inj hk (by omega) e2
        rw [if_pos rfl, if_pos (by omega)]
      · rw [if_neg e2, ih1 pl k hp hk]
        by_cases e3 : k < j
        · rw [if_pos e3, if_pos (by omega)]
        · rw [if_neg e3]
          by_cases e4 : k = j
          · subst e4
            rw [if_pos (by omega)]
            by_cases e5 : pl = upN x1 (nthPR x3 i)
            · subst e5; rw [wc hin]; simp
            · rw [wd pl (fun e => e2 (by rw [e])) e5]; simp
          · rw [if_neg (by omega)]
/-- What a rule changes in all, as the reference reckons. -/
def changeF (K : Nat) (x1 : List Int) (x2 : List Bool) (r : PR) : List Int :=
  giveF (cellN r * K) (upN x1 r * K) x2 r 1 (takeF (cellN r * K) (upN x1 r * K) x2 r 1 (List.replicate ((x1.length + 1) * K) 0) K).1 K
theorem flat_zero (K n : Nat) : Flat K n (List.replicate ((n + 1) * K) 0) (fun _ _ => 0) := by
  refine ⟨by simp, fun pl k hp hk => ?_⟩
  have := idx_lt hp hk
  simp [nth, this]
theorem changeF_flat {K : Nat} {x1 : List Int} {x2 : List Bool} {x3 : List PR} (h : PsOk K x1 x2 x3) {i : Nat} (hi : i < x3.length) :
    Flat K x1.length (changeF K x1 x2 (nthPR x3 i)) (fun pl k => gives x1 x2 (nthPR x3 i) pl k - needs x1 x2 (nthPR x3 i) pl k) := by
  have t1 := (takeF_all h hi (n := 1) (by omega) (f := fun _ _ => 0) (fun _ _ _ _ => by omega) (flat_zero K x1.length)).1
  have e : ∀ pl k, less x1 x2 (nthPR x3 i) 1 (fun _ _ => 0) pl k = - needs x1 x2 (nthPR x3 i) pl k := fun pl k => by rw [less]; omega
  refine ⟨by unfold changeF; rw [giveF_len, t1.1], fun pl k hp hk => ?_⟩
  unfold changeF
  rw [giveF_at h hi (f := less x1 x2 (nthPR x3 i) 1 (fun _ _ => 0)) (fun pl k hp hk => by rw [e]; have := needs_bd h hi pl hk; omega) t1 K (Nat.le_refl _) pl k hp hk, if_pos hk, e]
  dsimp only
  omega
def goesS (r : PR) : List Int := plusS r.out r.inn (-1)
def invRule (x1 : List Int) (ws : List (List Int)) (r : PR) : Bool := weighS (goesS r) (nthR ws (cellN r)) == weighS (goesS r) (nthR ws (upN x1 r))
/-- The weights of free objects in the surroundings are none. -/
def freeZero (x2 : List Bool) (l : List Int) : Bool := (List.range x2.length).all fun k => !(nthB x2 k && nth l k != 0)
theorem freeZero_true {x2 : List Bool} {l : List Int} (h : ∀ k, k < x2.length → (nthB x2 k && nth l k != 0) = false) : freeZero x2 l = true := by
  rw [freeZero, List.all_eq_true]; intro k hk; rw [h k (by simpa using hk)]; rfl
theorem freeZero_false {x2 : List Bool} {l : List Int} {k : Nat} (hk : k < x2.length) (h : (nthB x2 k && nth l k != 0) = true) : freeZero x2 l = false := by
  rw [freeZero, List.all_eq_false]; exact ⟨k, by simpa using hk, by rw [h]; simp⟩
theorem freeZero_at {x2 : List Bool} {l : List Int} (h : freeZero x2 l = true) {k : Nat} (hk : k < x2.length) (hf : nthB x2 k = true) : nth l k = 0 := by
  rw [freeZero, List.all_eq_true] at h
  have := h k (by simpa using hk)
  simpa [hf] using this
theorem change_dot {K : Nat} {x1 : List Int} {x2 : List Bool} {x3 : List PR} {ws : List (List Int)} (h : PsOk K x1 x2 x3) (hw : areW K x1.length ws = true) (hz : freeZero x2 (nthR ws x1.length) = true) {i : Nat} (hi : i < x3.length) :
    (dotTo (changeF K x1 x2 (nthPR x3 i)) ws.flatten (changeF K x1 x2 (nthPR x3 i)).length == 0) = invRule x1 ws (nthPR x3 i) := by
  obtain ⟨u1, u2, u3, _, _, u6⟩ := h.upN hi
  have hx := changeF_flat h hi
  have hy := flat_weights hw
  have h8 := h.k8
  have h4 := h.p4
  have hlen : (x1.length + 1) * K ≤ 40 := by have := Nat.mul_le_mul (show x1.length + 1 ≤ 5 by omega) h8; omega
  have hat : ∀ q, q < (x1.length + 1) * K → ∃ pl k, pl ≤ x1.length ∧ k < K ∧ q = pl * K + k := fun q hq => by
    have hK0 : 0 < K := by rcases Nat.eq_zero_or_pos K with e | e; (subst e; simp at hq); exact e
    have hqd : q / K < x1.length + 1 := by rw [Nat.div_lt_iff_lt_mul hK0]; exact hq
    exact ⟨q / K, q % K, by omega, Nat.mod_lt _ hK0, by have := Nat.div_add_mod q K; rw [Nat.mul_comm K] at this; omega⟩
  have hgb : ∀ pl k, k < K → 0 ≤ gives x1 x2 (nthPR x3 i) pl k ∧ gives x1 x2 (nthPR x3 i) pl k ≤ 2000 := fun pl k hk => by
    have h1 := inn_bd h hi hk
    have h2 := out_bd h hi hk
    unfold gives
    split <;> split <;> omega
  have hW := (areW_ok hw).2
  have hol := (h.out i hi).2
  have hil := (h.inn i hi).2
  have hgl : (goesS (nthPR x3 i)).length = K := by rw [goesS, plusS_len, hol]
  have hgn : ∀ k, k < K → nth (goesS (nthPR x3 i)) k = nth (nthPR x3 i).out k - nth (nthPR x3 i).inn k := fun k hk => by
    have := addW_neg (n := 1) (by omega) (inn_bd h hi hk) (show -100000000 ≤ nth (nthPR x3 i).out k ∧ nth (nthPR x3 i).out k ≤ 100000000 by have := out_bd h hi hk; omega)
    rw [goesS, plusS_nth (by omega), this]; omega
  have hwg : ∀ pl, pl ≤ x1.length → weighS (goesS (nthPR x3 i)) (nthR ws pl) = dotN (goesS (nthPR x3 i)) (nthR ws pl) K := fun pl hp => by
    rw [weigh_eq (by omega) (fun k hk => by rw [hgn k (by omega)]; have := out_bd h hi (k := k) (by omega); have := inn_bd h hi (k := k) (by omega); omega) (fun k hk => (hW pl hp).2 k (by omega)), hgl]
  have key : dotTo (changeF K x1 x2 (nthPR x3 i)) ws.flatten (changeF K x1 x2 (nthPR x3 i)).length = dotN (goesS (nthPR x3 i)) (nthR ws (upN x1 (nthPR x3 i))) K - dotN (goesS (nthPR x3 i)) (nthR ws (cellN (nthPR x3 i))) K := by
    rw [hx.1, dotTo_eq (n := (x1.length + 1) * K) (by omega) (fun q hq => ?_) (fun q hq => ?_) _ (Nat.le_refl _), flat_sum hx hy, sumN_two (a := upN x1 (nthPR x3 i)) (b := cellN (nthPR x3 i)) (by omega) (by omega) u3]
    · have e1 : sumN (fun k => (gives x1 x2 (nthPR x3 i) (upN x1 (nthPR x3 i)) k - needs x1 x2 (nthPR x3 i) (upN x1 (nthPR x3 i)) k) * nth (nthR ws (upN x1 (nthPR x3 i))) k) K = dotN (goesS (nthPR x3 i)) (nthR ws (upN x1 (nthPR x3 i))) K := sumN_congr _ fun k hk => by
        rw [hgn k hk, needs_up h hi, innS_ins h hi hk]
        by_cases hin : insK x2 (nthPR x3 i) k = true
        · rw [if_pos hin, gives, if_neg u3, if_pos ⟨rfl, hin⟩]; congr 1; omega
        · rw [if_neg hin, gives, if_neg u3, if_neg (fun e => hin e.2)]
          have hc : (nthPR x3 i).cell = 0 ∧ nthB x2 k = true := by
            have hc0 := h.cell i hi
            simp only [insK, Bool.or_eq_true, decide_eq_true_eq, Bool.not_eq_true', not_or, Bool.not_eq_false] at hin
            exact ⟨by omega, hin.2⟩
          rw [u6.1 hc.1, freeZero_at hz (by have := h.free; omega) hc.2]; simp
      have e2 : sumN (fun k => (gives x1 x2 (nthPR x3 i) (cellN (nthPR x3 i)) k - needs x1 x2 (nthPR x3 i) (cellN (nthPR x3 i)) k) * nth (nthR ws (cellN (nthPR x3 i))) k) K = - dotN (goesS (nthPR x3 i)) (nthR ws (cellN (nthPR x3 i))) K := by
        rw [dotN, ← sumN_neg]
        refine sumN_congr _ fun k hk => ?_
        rw [hgn k hk, needs_cell h hi, gives, if_pos rfl, if_neg (fun e => u3 e.1.symm), ← Int.neg_mul]
        congr 1; omega
      show sumN _ K + sumN _ K = _
      rw [e1, e2]; omega
    · intro pl hp n1 n2
      refine sumN_zero _ fun k hk => ?_
      rw [needs_else n2 n1, gives, if_neg n2, if_neg (fun e => n1 e.1)]; simp
    · obtain ⟨pl, k, hp, hk, rfl⟩ := hat q hq
      rw [hx.2 pl k hp hk]
      have := hgb pl k hk
      have := needs_bd h hi pl hk
      dsimp only
      omega
    · obtain ⟨pl, k, hp, hk, rfl⟩ := hat q hq
      rw [hy.2 pl k hp hk]
      exact (hW pl hp).2 k hk
  rw [key, invRule, hwg _ (by omega), hwg _ u2, Bool.eq_iff_iff]
  simp only [beq_iff_eq]
  omega
end Go.Proofs.Ytkjmehpehopncaa

/- Choices of passing systems: plain law. No program is in sight. -/
namespace Go.Proofs.Ytkjmehpehopncaa
open Go.RowKit

theorem sumTo_zero {xs : List Int} : ∀ k, (∀ j, j < k → nth xs j = 0) → sumTo xs k = 0
  | 0, _ => rfl
  | k + 1, h => by rw [sumTo, sumTo_zero k (fun j hj => h j (by omega)), h k (by omega)]; unfold wrap64; omega
theorem sum_some {xs : List Int} (h : sumS xs ≠ 0) : ∃ k, k < xs.length ∧ nth xs k ≠ 0 := by
  refine Classical.byContradiction fun hn => h (sumTo_zero _ fun j hj => ?_)
  refine Classical.byContradiction fun h0 => hn ⟨j, hj, h0⟩
/-- A rule takes something somewhere. -/
theorem needs_some {K : Nat} {x1 : List Int} {x2 : List Bool} {x3 : List PR} (h : PsOk K x1 x2 x3) {q : Nat} (hq : q < x3.length) : ∃ pl k, pl ≤ x1.length ∧ k < K ∧ 1 ≤ needs x1 x2 (nthPR x3 q) pl k := by
  obtain ⟨u1, u2, u3, u4, u5, u6⟩ := h.upN hq
  have ho := h.out q hq
  have hi := h.inn q hq
  have hout : sumS (nthPR x3 q).out ≠ 0 → ∃ pl k, pl ≤ x1.length ∧ k < K ∧ 1 ≤ needs x1 x2 (nthPR x3 q) pl k := fun hs => by
    obtain ⟨k, hk, hz⟩ := sum_some hs
    have b := out_bd h hq (k := k) (by omega)
    refine ⟨cellN (nthPR x3 q), k, by omega, by omega, ?_⟩
    unfold needs
    rw [if_pos rfl, if_neg (fun e => u3 e.symm)]
    omega
  have hinn : ∀ k, k < K → nth (innS x2 (nthPR x3 q)) k ≠ 0 → ∃ pl k, pl ≤ x1.length ∧ k < K ∧ 1 ≤ needs x1 x2 (nthPR x3 q) pl k := fun k hk hz => by
    have b := innS_bd (x2 := x2) h hq hk
    refine ⟨upN x1 (nthPR x3 q), k, u2, hk, ?_⟩
    unfold needs
    rw [if_neg u3, if_pos rfl]
    omega
  by_cases hso : sumS (nthPR x3 q).out = 0
  · rcases h.own q hq with hc | hc | hc
    · have hsi : sumS (nthPR x3 q).inn ≠ 0 := fun e => h.some q hq (by rw [hso, e]; rfl)
      obtain ⟨k, hk, hz⟩ := sum_some hsi
      refine hinn k (by omega) ?_
      rw [innS, if_neg (by omega)]
      exact hz
    · omega
    · rw [hasBoundS, List.any_eq_true] at hc
      obtain ⟨k, hk, hb⟩ := hc
      have hk2 : k < (nthPR x3 q).inn.length := by simpa using hk
      have b := inn_bd h hq (k := k) (by omega)
      refine hinn k (by omega) ?_
      unfold innS
      simp only [bound1, Bool.and_eq_true, Bool.not_eq_true', decide_eq_true_eq] at hb
      split
      · rw [boundS_at hk2, if_neg (by simp [hb])]
        omega
      · omega
  · exact hout hso
/-- A count beyond 1000 never fits. -/
theorem over_fits {K : Nat} {x1 : List Int} {x2 : List Bool} {x3 : List PR} {y0 : List (List Int)} {y1 : List Int} {cs : List Int} (h : PsOk K x1 x2 x3) (hs : StOk K x1.length y0 y1) (hc : ∀ j, 0 ≤ nth cs j ∧ nth cs j ≤ 1000) (hl : cs.length = x3.length) {q : Nat} (hq : q < x3.length) (he : nth cs q = 1000) :
    fitsB x1 x2 x3 (bagsS y0 y1) (cs.set q (nth cs q + 1)) = false := by
  have hc2 : cntBd (cs.set q (nth cs q + 1)) := fun j => by
    rw [nth_set (by omega)]
    have := hc j
    have := hc q
    split <;> omega
  cases hf : fitsB x1 x2 x3 (bagsS y0 y1) (cs.set q (nth cs q + 1))
  · rfl
  · exfalso
    have hg := (fitsB_iff h hs hc2 (by simpa using hl)).1 hf
    obtain ⟨pl, k, hp, hk, hn⟩ := needs_some h hq
    have g := hg pl k hp hk
    have m := lev_mono (bags := bagsS y0 y1) h hc2 pl hk (q + 1) (x3.length - (q + 1)) (by omega)
    rw [show q + 1 + (x3.length - (q + 1)) = x3.length by omega] at m
    have b := (lev_bd h hc2 pl hk (bagsS_at hs hp hk) q (by omega)).2
    rw [lev, nth_set (by omega), if_pos rfl] at m
    have hm : (1001 : Int) ≤ 1001 * needs x1 x2 (nthPR x3 q) pl k := by omega
    have e : (nth cs q + 1) * needs x1 x2 (nthPR x3 q) pl k = 1001 * needs x1 x2 (nthPR x3 q) pl k := by rw [he]; rfl
    rw [e] at m
    omega
/-- One more of rule q fits. -/
def roomS (x1 : List Int) (x2 : List Bool) (x3 : List PR) (bags : List (List Int)) (cs : List Int) (q : Nat) : Bool := fitsB x1 x2 x3 bags (cs.set q (nth cs q + 1))
/-- One of the first n rules is at work in the cell c, if cells may not be shared. -/
def busyTo (x3 : List PR) (cs : List Int) (mode c : Int) : Nat → Bool
  | 0 => false
  | j + 1 => busyTo x3 cs mode c j || ((nthPR x3 j).cell == c && decide (0 < nth cs j) && mode == 2)
/-- Whether the counts are a choice. -/
def chosenTo (x1 : List Int) (x2 : List Bool) (x3 : List PR) (bags : List (List Int)) (cs : List Int) (mode : Int) : Nat → Bool
  | 0 => true
  | k + 1 => chosenTo x1 x2 x3 bags cs mode k && (busyTo x3 cs mode (nthPR x3 k).cell cs.length || !roomS x1 x2 x3 bags cs k)
def chosenS (x1 : List Int) (x2 : List Bool) (x3 : List PR) (bags : List (List Int)) (cs : List Int) (mode : Int) : Bool :=
  if (sumS cs == 0 || mode == 3) = true then sumS cs == 1 else chosenTo x1 x2 x3 bags cs mode x3.length
theorem chosen_stop {x1 : List Int} {x2 : List Bool} {x3 : List PR} {bags : List (List Int)} {cs : List Int} {mode : Int} {k : Nat} (h1 : busyTo x3 cs mode (nthPR x3 k).cell cs.length = false) (h2 : roomS x1 x2 x3 bags cs k = true) : ∀ n, k < n → chosenTo x1 x2 x3 bags cs mode n = false
  | n + 1, hn => by
    rw [chosenTo]
    by_cases e : k = n
    · subst e; rw [h1, h2]; simp
    · rw [chosen_stop h1 h2 n (by omega)]; rfl
end Go.Proofs.Ytkjmehpehopncaa

/- All choices of a passing system: plain law. No program is in sight. -/
namespace Go.Proofs.Ytkjmehpehopncaa
open Go.RowKit

theorem nthS {xs : List Int} {i j : Nat} {v : Int} (h : i < xs.length) : nth (xs.set i v) j = if j = i then v else nth xs j := nth_set h
theorem nth_app {xs ys : List Int} {j : Nat} : nth (xs ++ ys) j = if j < xs.length then nth xs j else nth ys (j - xs.length) := by
  unfold nth
  rw [List.getD_eq_getElem?_getD, List.getD_eq_getElem?_getD, List.getD_eq_getElem?_getD]
  by_cases h : j < xs.length
  · rw [if_pos h, List.getElem?_append_left h]
  · rw [if_neg h, List.getElem?_append_right (by omega)]
theorem nth_rep (n j : Nat) : nth (List.replicate n (0 : Int)) j = 0 := by
  unfold nth
  rw [List.getD_eq_getElem?_getD, List.getElem?_replicate]
  split <;> rfl
theorem nth_past {xs : List Int} {j : Nat} (h : xs.length ≤ j) : nth xs j = 0 := by
  unfold nth
  rw [List.getD_eq_getElem?_getD, List.getElem?_eq_none h]; rfl
theorem list_eqN {xs ys : List Int} (hl : xs.length = ys.length) (h : ∀ j, j < xs.length → nth xs j = nth ys j) : xs = ys := by
  refine List.ext_getElem hl fun i h1 h2 => ?_
  have := h i h1
  rwa [nth_lt h1, nth_lt h2] at this

/-- Which counts of m rules fit. -/
structure FitOk (m : Nat) (fit : List Int → Bool) : Prop where
  zero : fit (List.replicate m 0) = true
  down : ∀ c d : List Int, c.length = m → d.length = m → (∀ j, 0 ≤ nth c j ∧ nth c j ≤ nth d j) → (∀ j, nth d j ≤ 1001) → fit d = true → fit c = true
  bound : ∀ c : List Int, c.length = m → (∀ j, 0 ≤ nth c j ∧ nth c j ≤ 1001) → fit c = true → ∀ j, nth c j ≤ 1000
theorem lev_less {K : Nat} {x1 : List Int} {x2 : List Bool} {x3 : List PR} {bags : List (List Int)} {c d : List Int} (h : PsOk K x1 x2 x3) (hcd : ∀ j, nth c j ≤ nth d j) (pl : Nat) {k : Nat} (hk : k < K) :
    ∀ i, i ≤ x3.length → lev x1 x2 x3 bags d i pl k ≤ lev x1 x2 x3 bags c i pl k
  | 0, _ => Int.le_refl _
  | i + 1, hi => by
    have ih := lev_less h hcd pl hk (bags := bags) i (by omega)
    have hn := (needs_bd h (i := i) (by omega) pl hk).1
    have := Int.mul_le_mul_of_nonneg_right (hcd i) hn
    rw [lev, lev]; omega
theorem fit_ok {K : Nat} {x1 : List Int} {x2 : List Bool} {x3 : List PR} {y0 : List (List Int)} {y1 : List Int} (h : PsOk K x1 x2 x3) (hs : StOk K x1.length y0 y1) : FitOk x3.length (fitsB x1 x2 x3 (bagsS y0 y1)) := by
  have down : ∀ c d : List Int, c.length = x3.length → d.length = x3.length → (∀ j, 0 ≤ nth c j ∧ nth c j ≤ nth d j) → (∀ j, nth d j ≤ 1001) → fitsB x1 x2 x3 (bagsS y0 y1) d = true → fitsB x1 x2 x3 (bagsS y0 y1) c = true := fun c d hc hd hcd hb hf => by
    rw [fitsB_iff h hs (fun j => by have := hcd j; have := hb j; omega) hc]
    have hf2 := (fitsB_iff h hs (fun j => by have := hcd j; have := hb j; omega) hd).1 hf
    intro pl k hp hk
    exact Int.le_trans (hf2 pl k hp hk) (lev_less h (fun j => (hcd j).2) pl hk x3.length (Nat.le_refl _))
  refine ⟨zeros_fit h hs, down, fun c hc hb hf j => ?_⟩
  by_cases hj : j < x3.length
  · by_cases e : nth c j ≤ 1000
    · exact e
    · exfalso
      have hj1 : nth c j = 1001 := by have := hb j; omega
      have h1 : ∀ i, nth ((List.replicate x3.length (0 : Int)).set j 1000) i = if i = j then 1000 else 0 := fun i => by
        rw [nthS (by simpa using hj), nth_rep]
      have h2 := over_fits h hs (cs := (List.replicate x3.length 0).set j 1000) (fun i => by rw [h1]; split <;> omega) (by simp) hj (by rw [h1, if_pos rfl])
      rw [h1, if_pos rfl] at h2
      have h3 : ∀ i, nth (((List.replicate x3.length (0 : Int)).set j 1000).set j (1000 + 1)) i = if i = j then 1001 else 0 := fun i => by
        rw [nthS (by simpa using hj), h1]
        by_cases e : i = j
        · rw [if_pos e, if_pos e]; rfl
        · rw [if_neg e, if_neg e, if_neg e]
      have h4 := down (((List.replicate x3.length (0 : Int)).set j 1000).set j (1000 + 1)) c (by simp) hc (fun i => by
        rw [h3]
        by_cases e : i = j
        · rw [if_pos e, e, hj1]; omega
        · rw [if_neg e]; have := hb i; omega) (fun i => (hb i).2) hf
      rw [h2] at h4; cases h4
  · rw [nth_past (by omega)]; omega

section
variable {m : Nat} {fit : List Int → Bool}
/-- Counts of the first rules, the others' are nothing. -/
def padL (m : Nat) (p : List Int) : List Int := p ++ List.replicate (m - p.length) 0
theorem padL_len {p : List Int} (h : p.length ≤ m) : (padL m p).length = m := by
  unfold padL
  rw [List.length_append, List.length_replicate]; omega
theorem padL_nth (p : List Int) (j : Nat) : nth (padL m p) j = nth p j := by
  unfold padL
  rw [nth_app]
  by_cases h : j < p.length
  · rw [if_pos h]
  · rw [if_neg h, nth_rep, nth_past (by omega)]
/-- How often the next rule can be taken, counted from n on. -/
def extN (fit : List Int → Bool) (m : Nat) (p : List Int) : Nat → Nat → Nat
  | 0, n => n
  | f + 1, n => if fit (padL m (p ++ [(n : Int)])) = true then extN fit m p f (n + 1) else n
def ext (fit : List Int → Bool) (m : Nat) (p : List Int) : Nat := extN fit m p 1001 0
theorem extN_le (p : List Int) : ∀ f n, n ≤ extN fit m p f n ∧ extN fit m p f n ≤ n + f
  | 0, n => ⟨Nat.le_refl _, Nat.le_refl _⟩
  | f + 1, n => by
    have ih := extN_le p f (n + 1)
    unfold extN
    split <;> omega
theorem extN_fit (p : List Int) : ∀ f n i, n ≤ i → i < extN fit m p f n → fit (padL m (p ++ [(i : Int)])) = true
  | 0, n, i, h1, h2 => by simp [extN] at h2; omega
  | f + 1, n, i, h1, h2 => by
    unfold extN at h2
    split at h2
    · rename_i h
      by_cases e : n = i
      · subst e; exact h
      · exact extN_fit p f (n + 1) i (by omega) h2
    · omega
theorem extN_stop (p : List Int) : ∀ f n, extN fit m p f n < n + f → fit (padL m (p ++ [((extN fit m p f n : Nat) : Int)])) = false
  | 0, n, h => by simp [extN] at h
  | f + 1, n, h => by
    unfold extN at h ⊢
    split at h
    · rename_i hf
      rw [if_pos hf]
      exact extN_stop p f (n + 1) (by omega)
    · rename_i hf
      rw [if_neg hf]
      simpa using hf
/-- Numbers that may be counts. -/
def okL (p : List Int) : Prop := ∀ j, 0 ≤ nth p j ∧ nth p j ≤ 1000
theorem okL.snoc {p : List Int} (h : okL p) {n : Nat} (hn : n ≤ 1000) : okL (p ++ [(n : Int)]) := fun j => by
  rw [nth_app]
  split
  · exact h j
  · have : nth [(n : Int)] (j - p.length) = n ∨ nth [(n : Int)] (j - p.length) = 0 := by
      cases hh : j - p.length with
      | zero => exact .inl rfl
      | succ i => exact .inr rfl
    omega
theorem snoc_nth {p : List Int} {n : Int} (j : Nat) : nth (p ++ [n]) j = if j = p.length then n else nth p j := by
  rw [nth_app]
  by_cases h1 : j < p.length
  · rw [if_pos h1, if_neg (by omega)]
  · rw [if_neg h1]
    by_cases h2 : j = p.length
    · rw [if_pos h2, h2, Nat.sub_self]; rfl
    · rw [if_neg h2, nth_past (by simp; omega), nth_past (by omega)]
theorem ext_le (p : List Int) : ext fit m p ≤ 1001 := by have := (extN_le (fit := fit) (m := m) p 1001 0).2; unfold ext; omega
theorem ext_fit {p : List Int} {i : Nat} (h : i < ext fit m p) : fit (padL m (p ++ [(i : Int)])) = true := extN_fit p 1001 0 i (Nat.zero_le _) h
theorem ext_stop (hF : FitOk m fit) {p : List Int} (hp : p.length < m) (hok : okL p) : fit (padL m (p ++ [((ext fit m p : Nat) : Int)])) = false := by
  by_cases h : ext fit m p < 0 + 1001
  · exact extN_stop p 1001 0 h
  · have e : ext fit m p = 1001 := by have := ext_le (fit := fit) (m := m) p; omega
    cases hf : fit (padL m (p ++ [((ext fit m p : Nat) : Int)])) with
    | false => rfl
    | true =>
      have h1 := hF.bound _ (padL_len (by simp; omega)) (fun j => by
        rw [padL_nth, snoc_nth]
        have := hok j
        split <;> omega) hf p.length
      rw [padL_nth, snoc_nth, if_pos rfl] at h1
      omega
theorem ext_iff (hF : FitOk m fit) {p : List Int} (hp : p.length < m) (hok : okL p) {n : Nat} (hn : n ≤ 1001) : fit (padL m (p ++ [(n : Int)])) = true ↔ n < ext fit m p := by
  constructor
  · intro h
    cases Nat.lt_or_ge n (ext fit m p) with
    | inl h2 => exact h2
    | inr h2 =>
      exfalso
      have h3 := ext_stop hF hp hok
      have h4 := hF.down (padL m (p ++ [((ext fit m p : Nat) : Int)])) (padL m (p ++ [(n : Int)])) (padL_len (by simp; omega)) (padL_len (by simp; omega)) (fun j => by
        rw [padL_nth, padL_nth, snoc_nth, snoc_nth]
        have := hok j
        split <;> omega) (fun j => by
        rw [padL_nth, snoc_nth]
        have := hok j
        split <;> omega) h
      rw [h3] at h4; cases h4
  · exact ext_fit
theorem ext_1000 {p : List Int} {n : Nat} (hn : n < ext fit m p) : n ≤ 1000 := by
  have h0 := ext_le (fit := fit) (m := m) p
  omega
/-- All counts that begin so and fit, d rules being left. -/
def enumF (fit : List Int → Bool) (m : Nat) : Nat → List Int → List (List Int)
  | 0, p => [p]
  | d + 1, p => (List.range (ext fit m p)).flatMap fun (n : Nat) => enumF fit m d (p ++ [(n : Int)])
/-- Those whose next count is below q. -/
def enumP (fit : List Int → Bool) (m d : Nat) (p : List Int) (q : Nat) : List (List Int) := (List.range q).flatMap fun (n : Nat) => enumF fit m d (p ++ [(n : Int)])
theorem enumP_succ (d : Nat) (p : List Int) (q : Nat) : enumP fit m d p (q + 1) = enumP fit m d p q ++ enumF fit m d (p ++ [(q : Int)]) := by
  unfold enumP
  rw [List.range_succ, List.flatMap_append]
  simp
theorem enumP_ext (d : Nat) (p : List Int) : enumP fit m d p (ext fit m p) = enumF fit m (d + 1) p := rfl
theorem enumP_mono (d : Nat) (p : List Int) : ∀ {q r : Nat}, q ≤ r → (enumP fit m d p q).length ≤ (enumP fit m d p r).length
  | q, 0, h => by rw [show q = 0 by omega]; exact Nat.le_refl _
  | q, r + 1, h => by
    by_cases e : q = r + 1
    · rw [e]; exact Nat.le_refl _
    · have ih := enumP_mono d p (q := q) (r := r) (by omega)
      rw [enumP_succ, List.length_append]; omega
theorem enumF_pre : ∀ (d : Nat) (p : List Int) (c : List Int), c ∈ enumF fit m d p → ∃ s, c = p ++ s ∧ s.length = d
  | 0, p, c, h => by simp [enumF] at h; exact ⟨[], by simp [h], rfl⟩
  | d + 1, p, c, h => by
    simp only [enumF, List.mem_flatMap] at h
    obtain ⟨n, _, hc⟩ := h
    obtain ⟨s, rfl, hs⟩ := enumF_pre d _ c hc
    exact ⟨(n : Int) :: s, by simp, by simp [hs]⟩
theorem enumF_mem (hF : FitOk m fit) : ∀ (d : Nat) (p : List Int), p.length + d = m → okL p → fit (padL m p) = true → ∀ c : List Int, c ∈ enumF fit m d p ↔ (∃ s, c = p ++ s ∧ s.length = d) ∧ okL c ∧ fit c = true
  | 0, p, hl, hp, hf, c => by
    have e : padL m p = p := by simp [padL, show m - p.length = 0 by omega]
    rw [e] at hf
    simp only [enumF, List.mem_singleton]
    constructor
    · rintro rfl; exact ⟨⟨[], by simp, rfl⟩, hp, hf⟩
    · rintro ⟨⟨s, rfl, hs⟩, _, _⟩
      have : s = [] := List.length_eq_zero_iff.1 hs
      simp [this]
  | d + 1, p, hl, hp, hf, c => by
    simp only [enumF, List.mem_flatMap, List.mem_range]
    constructor
    · rintro ⟨n, hn, hc⟩
      have hn1 := ext_1000 hn
      obtain ⟨⟨s, rfl, hs⟩, h2, h3⟩ := (enumF_mem hF d (p ++ [(n : Int)]) (by simp; omega) (hp.snoc hn1) (ext_fit hn) c).1 hc
      exact ⟨⟨(n : Int) :: s, by simp, by simp [hs]⟩, h2, h3⟩
    · rintro ⟨⟨s, rfl, hs⟩, h2, h3⟩
      obtain ⟨x, s', rfl⟩ : ∃ x s', s = x :: s' := by cases s with | nil => simp at hs | cons x s' => exact ⟨x, s', rfl⟩
      have hx : 0 ≤ x ∧ x ≤ 1000 := by
        have := h2 p.length
        rw [nth_app, if_neg (by omega), Nat.sub_self] at this
        exact this
      obtain ⟨n, rfl⟩ : ∃ n : Nat, x = n := ⟨x.toNat, by omega⟩
      have hle : ∀ j, 0 ≤ nth (padL m (p ++ [(n : Int)])) j ∧ nth (padL m (p ++ [(n : Int)])) j ≤ nth (p ++ (n : Int) :: s') j := fun j => by
        have h5 := h2 j
        rw [padL_nth, snoc_nth]
        by_cases e : j = p.length
        · rw [if_pos e, e, nth_app, if_neg (by omega), Nat.sub_self]
          show 0 ≤ (n : Int) ∧ (n : Int) ≤ n
          omega
        · rw [if_neg e]
          have h6 := hp j
          by_cases e2 : j < p.length
          · rw [nth_app, if_pos e2]; omega
          · rw [nth_past (by omega)]; omega
      have hlen : (p ++ (n : Int) :: s').length = m := by simp at hs ⊢; omega
      have h4 := hF.down (padL m (p ++ [(n : Int)])) (p ++ (n : Int) :: s') (padL_len (by simp; omega)) hlen hle (fun j => by have := h2 j; omega) h3
      refine ⟨n, (ext_iff hF (by omega) hp (by omega)).1 h4, ?_⟩
      exact (enumF_mem hF d (p ++ [(n : Int)]) (by simp; omega) (hp.snoc (by omega)) h4 _).2 ⟨⟨s', by simp, by simpa using hs⟩, h2, h3⟩
/-- All counts that fit. -/
def allF (fit : List Int → Bool) (m : Nat) : List (List Int) := enumF fit m m []
theorem allF_mem (hF : FitOk m fit) (c : List Int) : c ∈ allF fit m ↔ c.length = m ∧ okL c ∧ fit c = true := by
  have h := enumF_mem hF m [] (by simp) (fun j => by simp [nth]) (by simpa [padL] using hF.zero) c
  unfold allF
  rw [h]
  constructor
  · rintro ⟨⟨s, rfl, hs⟩, h2, h3⟩; exact ⟨by simpa using hs, h2, h3⟩
  · rintro ⟨h1, h2, h3⟩; exact ⟨⟨c, by simp, h1⟩, h2, h3⟩
/-- A plain sum. -/
def sX (xs : List Int) : Nat → Int
  | 0 => 0
  | k + 1 => sX xs k + nth xs k
theorem sX_eq {xs : List Int} (hb : ∀ j, 0 ≤ nth xs j ∧ nth xs j ≤ 1001) : ∀ n, n ≤ 100 → sumTo xs n = sX xs n ∧ 0 ≤ sX xs n ∧ sX xs n ≤ 1001 * n
  | 0, _ => by simp [sumTo, sX]
  | n + 1, hn => by
    obtain ⟨h1, h2, h3⟩ := sX_eq hb n (by omega)
    have := hb n
    have e : wrap64 (sX xs n + nth xs n) = sX xs n + nth xs n := by unfold wrap64; omega
    rw [sumTo, h1, e, sX]; omega
theorem sX_bd {xs : List Int} (hb : okL xs) : ∀ n, 0 ≤ sX xs n ∧ sX xs n ≤ 1000 * n
  | 0 => by simp [sX]
  | n + 1 => by
    have ih := sX_bd hb n
    have := hb n
    rw [sX]; omega
theorem sX_set {xs : List Int} {i : Nat} {v : Int} (h : i < xs.length) : ∀ n, sX (xs.set i v) n = sX xs n + (if i < n then v - nth xs i else 0)
  | 0 => by simp [sX]
  | n + 1 => by
    rw [sX, sX, sX_set h n, nthS h]
    by_cases e1 : n = i
    · subst e1
      rw [if_pos rfl, if_neg (by omega), if_pos (by omega)]; omega
    · rw [if_neg e1]
      by_cases e2 : i < n
      · rw [if_pos e2, if_pos (by omega)]; omega
      · rw [if_neg e2, if_neg (by omega)]; omega
theorem sX_zero (n : Nat) : ∀ k, sX (List.replicate n 0) k = 0
  | 0 => rfl
  | k + 1 => by rw [sX, sX_zero n k, nth_rep]; rfl
theorem sumS_sX {xs : List Int} (hb : okL xs) (h : xs.length ≤ 100) : sumS xs = sX xs xs.length := (sX_eq (fun j => by have := hb j; omega) xs.length h).1
/-- More and more: counts to which nothing can be added. -/
theorem grow (hF : FitOk m fit) (hm : m ≤ 8) : ∀ (d : Nat) (c : List Int), c.length = m → okL c → fit c = true → 8000 - sX c m ≤ d →
    ∃ c' : List Int, c'.length = m ∧ okL c' ∧ fit c' = true ∧ sX c m ≤ sX c' m ∧ ∀ q, q < m → fit (c'.set q (nth c' q + 1)) = false := by
  intro d
  induction d with
  | zero =>
    intro c hl hok hf hd
    refine ⟨c, hl, hok, hf, Int.le_refl _, fun q hq => ?_⟩
    cases h : fit (c.set q (nth c q + 1)) with
    | false => rfl
    | true =>
      exfalso
      have hok1 : okL (c.set q (nth c q + 1)) := fun j => by
        have h1 := hF.bound _ (by simpa using hl) (fun j => by rw [nthS (by omega)]; have := hok j; have := hok q; split <;> omega) h j
        refine ⟨?_, h1⟩
        rw [nthS (by omega)]; have := hok j; have := hok q; split <;> omega
      have h2 := (sX_bd hok1 m).2
      rw [sX_set (by omega), if_pos hq] at h2
      omega
  | succ d ih =>
    intro c hl hok hf hd
    by_cases hex : ∃ q, q < m ∧ fit (c.set q (nth c q + 1)) = true
    · obtain ⟨q, hq, h⟩ := hex
      have hok1 : okL (c.set q (nth c q + 1)) := fun j => by
        have h1 := hF.bound _ (by simpa using hl) (fun j => by rw [nthS (by omega)]; have := hok j; have := hok q; split <;> omega) h j
        refine ⟨?_, h1⟩
        rw [nthS (by omega)]; have := hok j; have := hok q; split <;> omega
      have h3 : sX (c.set q (nth c q + 1)) m = sX c m + 1 := by rw [sX_set (by omega), if_pos hq]; omega
      obtain ⟨c', h4, h5, h6, h7, h8⟩ := ih _ (by simpa using hl) hok1 h (by omega)
      exact ⟨c', h4, h5, h6, by omega, h8⟩
    · refine ⟨c, hl, hok, hf, Int.le_refl _, fun q hq => ?_⟩
      cases h : fit (c.set q (nth c q + 1)) with
      | false => rfl
      | true => exact absurd ⟨q, hq, h⟩ hex
/-- One of a rule alone. -/
def unitL (m q : Nat) : List Int := (List.replicate m 0).set q 1
theorem unitL_nth {q : Nat} (hq : q < m) (j : Nat) : nth (unitL m q) j = if j = q then 1 else 0 := by
  unfold unitL; rw [nthS (by simpa using hq), nth_rep]
theorem unit_ok {q : Nat} (hq : q < m) : okL (unitL m q) := fun j => by rw [unitL_nth hq]; split <;> omega
theorem unit_fit (hF : FitOk m fit) {c : List Int} (hl : c.length = m) (hok : okL c) (hf : fit c = true) (h0 : sX c m ≠ 0) : ∃ q, q < m ∧ fit (unitL m q) = true := by
  have key : ∀ n, sX c n ≠ 0 → ∃ q, q < n ∧ nth c q ≠ 0 := by
    intro n
    induction n with
    | zero => intro h; exact absurd rfl h
    | succ n ih =>
      intro h
      by_cases e : nth c n = 0
      · obtain ⟨q, hq, h2⟩ := ih (by rw [sX, e] at h; omega)
        exact ⟨q, by omega, h2⟩
      · exact ⟨n, by omega, e⟩
  obtain ⟨q, hq, h1⟩ := key m h0
  refine ⟨q, hq, hF.down _ c (by simp [unitL]) hl (fun j => ?_) (fun j => by have := hok j; omega) hf⟩
  rw [unitL_nth hq]
  have := hok j
  have := hok q
  by_cases e : j = q
  · subst e; rw [if_pos rfl]; omega
  · rw [if_neg e]; omega
end
/-! The modes. -/
theorem busy_offU (x3 : List PR) (cs : List Int) (mode c : Int) (h : (mode == 2) = false) : ∀ n, busyTo x3 cs mode c n = false
  | 0 => rfl
  | n + 1 => by rw [busyTo, busy_offU x3 cs mode c h n, h]; simp
section
variable {K : Nat} {x1 : List Int} {x2 : List Bool} {x3 : List PR} {y0 : List (List Int)} {y1 : List Int}
abbrev fitP (x1 : List Int) (x2 : List Bool) (x3 : List PR) (y0 : List (List Int)) (y1 : List Int) : List Int → Bool := fitsB x1 x2 x3 (bagsS y0 y1)
/-- The choices of a mode, of all that fits. -/
def chL (x1 : List Int) (x2 : List Bool) (x3 : List PR) (y0 : List (List Int)) (y1 : List Int) (mode : Int) : List (List Int) :=
  (allF (fitP x1 x2 x3 y0 y1) x3.length).filter fun c => chosenS x1 x2 x3 (bagsS y0 y1) c mode
/-- What PassChoices tells of right arguments, and a code. -/
def choicesS (x1 : List Int) (x2 : List Bool) (x3 : List PR) (y0 : List (List Int)) (y1 : List Int) (mode : Int) : List (List Int) × Int :=
  if (allF (fitP x1 x2 x3 y0 y1) x3.length).length ≤ 1500 then (chL x1 x2 x3 y0 y1 mode, 0) else ([], 3)
theorem chL_mem (h : PsOk K x1 x2 x3) (hs : StOk K x1.length y0 y1) (mode : Int) (c : List Int) : c ∈ chL x1 x2 x3 y0 y1 mode ↔ (c.length = x3.length ∧ okL c ∧ fitP x1 x2 x3 y0 y1 c = true) ∧ chosenS x1 x2 x3 (bagsS y0 y1) c mode = true := by
  unfold chL
  rw [List.mem_filter, allF_mem (fit_ok h hs)]
theorem chosen_12 {c : List Int} (hc : chosenS x1 x2 x3 (bagsS y0 y1) c 1 = true) : chosenS x1 x2 x3 (bagsS y0 y1) c 2 = true := by
  unfold chosenS at hc ⊢
  by_cases e : sumS c = 0
  · rw [if_pos (by simp [e])] at hc
    rw [e] at hc; cases hc
  · rw [if_neg (by simp [e])] at hc ⊢
    have key : ∀ n, chosenTo x1 x2 x3 (bagsS y0 y1) c 1 n = true → chosenTo x1 x2 x3 (bagsS y0 y1) c 2 n = true := by
      intro n
      induction n with
      | zero => intro _; rfl
      | succ n ih =>
        intro hn
        rw [chosenTo, Bool.and_eq_true] at hn
        rw [chosenTo, ih hn.1, busy_offU x3 c 1 _ rfl, Bool.false_or] at *
        rw [hn.2]; simp
    exact key _ hc
/-- There is a choice just if a rule can pass. -/
theorem some_can (h : PsOk K x1 x2 x3) (hs : StOk K x1.length y0 y1) (mode : Int) (hm : mode = 1 ∨ mode = 2 ∨ mode = 3) : chL x1 x2 x3 y0 y1 mode ≠ [] ↔ ∃ q, q < x3.length ∧ fitP x1 x2 x3 y0 y1 (unitL x3.length q) = true := by
  have hF := fit_ok h hs
  have h8 := h.r8
  constructor
  · intro hne
    obtain ⟨c, hc⟩ := List.exists_mem_of_ne_nil _ hne
    obtain ⟨⟨h1, h2, h3⟩, h4⟩ := (chL_mem h hs mode c).1 hc
    refine unit_fit hF h1 h2 h3 ?_
    have e := sumS_sX h2 (by omega)
    rw [h1] at e
    intro h0
    rw [h0] at e
    unfold chosenS at h4
    rw [if_pos (by simp [e]), e] at h4
    cases h4
  · rintro ⟨q, hq, hf⟩
    have hu := unit_ok (m := x3.length) hq
    have hul : (unitL x3.length q).length = x3.length := by simp [unitL]
    have hs1 : sX (unitL x3.length q) x3.length = 1 := by
      unfold unitL
      rw [sX_set (by simpa using hq), sX_zero, if_pos hq, nth_rep]; rfl
    have m3 : unitL x3.length q ∈ chL x1 x2 x3 y0 y1 3 := by
      refine (chL_mem h hs 3 _).2 ⟨⟨hul, hu, hf⟩, ?_⟩
      have e := sumS_sX hu (by omega)
      rw [hul, hs1] at e
      unfold chosenS
      rw [if_pos (by simp), e]; rfl
    have m1 : ∃ c, c ∈ chL x1 x2 x3 y0 y1 1 := by
      obtain ⟨c, h1, h2, h3, h4, h5⟩ := grow hF h8 8000 _ hul hu hf (by omega)
      refine ⟨c, (chL_mem h hs 1 c).2 ⟨⟨h1, h2, h3⟩, ?_⟩⟩
      have e := sumS_sX h2 (by omega)
      rw [h1] at e
      unfold chosenS
      rw [if_neg (by rw [e]; simp; omega)]
      have key : ∀ n, n ≤ x3.length → chosenTo x1 x2 x3 (bagsS y0 y1) c 1 n = true := by
        intro n
        induction n with
        | zero => intro _; rfl
        | succ n ih =>
          intro hn
          rw [chosenTo, ih (by omega)]
          have : roomS x1 x2 x3 (bagsS y0 y1) c n = false := h5 n (by omega)
          rw [this]; simp
      exact key _ (Nat.le_refl _)
    intro e
    rcases hm with rfl | rfl | rfl
    · obtain ⟨c, hc⟩ := m1
      rw [e] at hc; cases hc
    · obtain ⟨c, hc⟩ := m1
      have h9 := (chL_mem h hs 1 c).1 hc
      have : c ∈ chL x1 x2 x3 y0 y1 2 := (chL_mem h hs 2 c).2 ⟨h9.1, chosen_12 h9.2⟩
      rw [e] at this; cases this
    · rw [e] at m3; cases m3
end
end Go.Proofs.Ytkjmehpehopncaa

/- The code of a passing system and a stock; the total of a stock. -/
namespace Go.Proofs.Ytkjmehpehopncaa
open Go.RowKit

def stCode (x0 : Int) (x1 : List Int) (x2 : List Bool) (x3 : List PR) (y0 : List (List Int)) (y1 : List Int) : Int := if okPass x0 x1 x2 x3 = true then (if okStockAll x0 x1 x2 x3 y0 y1 = true then 0 else 2) else 1
theorem stCode_ok {x0 : Int} {x1 : List Int} {x2 : List Bool} {x3 : List PR} {y0 : List (List Int)} {y1 : List Int} (h : stCode x0 x1 x2 x3 y0 y1 = 0) : okStockAll x0 x1 x2 x3 y0 y1 = true := by
  unfold stCode at h
  split at h
  · split at h
    · assumption
    · exact absurd h (by decide)
  · exact absurd h (by decide)
theorem stCode_bad {x0 : Int} {x1 : List Int} {x2 : List Bool} {x3 : List PR} {y0 : List (List Int)} {y1 : List Int} (h : okPass x0 x1 x2 x3 = false) : stCode x0 x1 x2 x3 y0 y1 = 1 := by simp [stCode, h]
theorem stCode_two {x0 : Int} {x1 : List Int} {x2 : List Bool} {x3 : List PR} {y0 : List (List Int)} {y1 : List Int} (h : okPass x0 x1 x2 x3 = true) (h2 : okStockAll x0 x1 x2 x3 y0 y1 = false) : stCode x0 x1 x2 x3 y0 y1 = 2 := by simp [stCode, h, h2]
theorem stCode_zero {x0 : Int} {x1 : List Int} {x2 : List Bool} {x3 : List PR} {y0 : List (List Int)} {y1 : List Int} (h : okPass x0 x1 x2 x3 = true) (h2 : okStockAll x0 x1 x2 x3 y0 y1 = true) : stCode x0 x1 x2 x3 y0 y1 = 0 := by simp [stCode, h, h2]
/-- The sum of the first bags. -/
def totTo (y1 : List Int) (y0 : List (List Int)) : Nat → List Int
  | 0 => y1
  | k + 1 => plusS (totTo y1 y0 k) (nthR y0 k) 1
theorem totTo_len (y1 : List Int) (y0 : List (List Int)) : ∀ k, (totTo y1 y0 k).length = y1.length
  | 0 => rfl
  | k + 1 => by rw [totTo, plusS_len, totTo_len]
def stockTotalS (x0 : Int) (x1 : List Int) (x2 : List Bool) (x3 : List PR) (y0 : List (List Int)) (y1 : List Int) : List Int × Int := if stCode x0 x1 x2 x3 y0 y1 = 0 then (totTo y1 y0 y0.length, 0) else ([], stCode x0 x1 x2 x3 y0 y1)
theorem stockTotal_cnt (x0 : Int) (x1 : List Int) (x2 : List Bool) (x3 : List PR) (y0 : List (List Int)) (y1 : List Int) : cnt (dI (stockTotalS x0 x1 x2 x3 y0 y1).1) ≤ 16777216 := by
  rw [cnt_dI]
  unfold stockTotalS
  split
  · rename_i h
    obtain ⟨K, _, hp, hs⟩ := stockAll_ok (stCode_ok h)
    have := hs.around.2
    have := hp.k8
    rw [totTo_len]; omega
  · simp
/-- One place of a sum. -/
theorem nth_ext {xs ys : List Int} (hl : xs.length = ys.length) (h : ∀ j, j < ys.length → nth xs j = nth ys j) : xs = ys := eq_of_nth hl (fun j hj => h j (by omega))
theorem addW_one {x y : Int} (hy : 0 ≤ y ∧ y ≤ 1000) : addW 1 x y = wrap64 (x + y) := by
  have : wrap64 (1 * y) = y := by unfold wrap64; omega
  rw [addW, this]
set_option maxHeartbeats 2000000 in
theorem stockCode_c (x0 : Int) (x1 : List Int) (x2 : List Bool) (x3 : List PR) (y0 : List (List Int)) (y1 : List Int) (a1 a2 a3 b0 b1 : Option Addr) (c1 c2 c3 d0 d1 : Nat) (w : World) (h1 : SlI Any w a1 x1) (hc1 : x1.length ≤ c1) (h2 : SlB Any w a2 x2) (h3 : Rd Any w (dPR x3) (.slice a3 x3.length c3)) (k0 : SlII Any w b0 y0) (k1 : SlI Any w b1 y1) :
    Calls Try.prog 32 #[.agg #[.int .i64 x0, .slice a1 x1.length c1, .slice a2 x2.length c2, .slice a3 x3.length c3], .agg #[.slice b0 y0.length d0, .slice b1 y1.length d1]] w (RetV w (.int .i64 (stCode x0 x1 x2 x3 y0 y1))) := by
  have hb0 : Below w.heap.size w ((w.alloc (.cells #[.int .i64 x0, .slice a1 x1.length c1, .slice a2 x2.length c2, .slice a3 x3.length c3] 28)).alloc (.cells #[.slice b0 y0.length d0, .slice b1 y1.length d1] 31)) := ((Below.refl _ _).alloc (Nat.le_refl _) _).alloc (by simp) _
  have HP := Lib.hid (validPassing_c x0 x1 x2 x3 a1 a2 a3 c1 c2 c3 ((w.alloc (.cells #[.int .i64 x0, .slice a1 x1.length c1, .slice a2 x2.length c2, .slice a3 x3.length c3] 28)).alloc (.cells #[.slice b0 y0.length d0, .slice b1 y1.length d1] 31)) (h1.below hb0) hc1 (h2.below hb0) (h3.below hb0))
  have HS := Lib.hid (fun wx (h : Below w.heap.size w wx) => validStock_c x0 x1 x2 x3 y0 y1 a1 a2 a3 b0 b1 c1 c2 c3 d0 d1 wx (h1.below h) hc1 (h2.below h) (h3.below h) (k0.below h) (k1.below h))
  have HB0 := Lib.hid hb0
  clear h1 h2 h3 k0 k1 hb0
  cases hP : okPass x0 x1 x2 x3
  · rw [stCode_bad hP]
    rw [hP] at HP
    clear hP
    go_enter Try.func32, Try.ntmps32
    go_wp2_with fail
    refine HP.out.mono ?_
    rintro e w1 ⟨rfl, hb1⟩
    have HB1 := Lib.hid (HB0.out.trans (hb1.mono (by simp <;> omega)))
    clear hb1
    go_wp2
    go_ret
    exact ⟨rfl, HB1.out⟩
  · have HPP := Lib.hid hP
    rw [hP] at HP
    clear hP
    cases hS : okStockAll x0 x1 x2 x3 y0 y1
    · have HR : Hid (stCode x0 x1 x2 x3 y0 y1 = 2) := Lib.hid (stCode_two HPP.out hS)
      rw [HR.out]
      rw [hS] at HS
      clear hS
      go_enter Try.func32, Try.ntmps32
      go_wp2_with fail
      refine HP.out.mono ?_
      rintro e w1 ⟨rfl, hb1⟩
      have f0 : w1.cell? ⟨w.heap.size, 0, none⟩ = some (.int .i64 x0) := by rw [bcell1 hb1 (by simp <;> omega)]; simp [go_sem]
      have f1 : w1.cell? ⟨w.heap.size, 1, none⟩ = some (.slice a1 x1.length c1) := by rw [bcell1 hb1 (by simp <;> omega)]; simp [go_sem]
      have f2 : w1.cell? ⟨w.heap.size, 2, none⟩ = some (.slice a2 x2.length c2) := by rw [bcell1 hb1 (by simp <;> omega)]; simp [go_sem]
      have f3 : w1.cell? ⟨w.heap.size, 3, none⟩ = some (.slice a3 x3.length c3) := by rw [bcell1 hb1 (by simp <;> omega)]; simp [go_sem]
      have e0 : w1.cell? ⟨w.heap.size + 1, 0, none⟩ = some (.slice b0 y0.length d0) := by rw [bcell1 hb1 (by simp <;> omega)]; simp [go_sem]
      have e1 : w1.cell? ⟨w.heap.size + 1, 1, none⟩ = some (.slice b1 y1.length d1) := by rw [bcell1 hb1 (by simp <;> omega)]; simp [go_sem]
      have HB1 := Lib.hid (HB0.out.trans (hb1.mono (by simp <;> omega)))
      clear hb1
      go_wp2_with fail
      refine (HS.out w1 HB1.out).mono ?_
      rintro e w2 ⟨rfl, hb2⟩
      have HB2 := Lib.hid (bnext HB1.out hb2 (Nat.le_refl _))
      clear hb2 f0 f1 f2 f3 e0 e1
      go_wp2
      go_ret
      exact ⟨rfl, HB2.out⟩
    · have HR : Hid (stCode x0 x1 x2 x3 y0 y1 = 0) := Lib.hid (stCode_zero HPP.out hS)
      rw [HR.out]
      rw [hS] at HS
      clear hS
      go_enter Try.func32, Try.ntmps32
      go_wp2_with fail
      refine HP.out.mono ?_
      rintro e w1 ⟨rfl, hb1⟩
      have f0 : w1.cell? ⟨w.heap.size, 0, none⟩ = some (.int .i64 x0) := by rw [bcell1 hb1 (by simp <;> omega)]; simp [go_sem]
      have f1 : w1.cell? ⟨w.heap.size, 1, none⟩ = some (.slice a1 x1.length c1) := by rw [bcell1 hb1 (by simp <;> omega)]; simp [go_sem]
      have f2 : w1.cell? ⟨w.heap.size, 2, none⟩ = some (.slice a2 x2.length c2) := by rw [bcell1 hb1 (by simp <;> omega)]; simp [go_sem]
      have f3 : w1.cell? ⟨w.heap.size, 3, none⟩ = some (.slice a3 x3.length c3) := by rw [bcell1 hb1 (by simp <;> omega)]; simp [go_sem]
      have e0 : w1.cell? ⟨w.heap.size + 1, 0, none⟩ = some (.slice b0 y0.length d0) := by rw [bcell1 hb1 (by simp <;> omega)]; simp [go_sem]
      have e1 : w1.cell? ⟨w.heap.size + 1, 1, none⟩ = some (.slice b1 y1.length d1) := by rw [bcell1 hb1 (by simp <;> omega)]; simp [go_sem]
      have HB1 := Lib.hid (HB0.out.trans (hb1.mono (by simp <;> omega)))
      clear hb1
      go_wp2_with fail
      refine (HS.out w1 HB1.out).mono ?_
      rintro e w2 ⟨rfl, hb2⟩
      have HB2 := Lib.hid (bnext HB1.out hb2 (Nat.le_refl _))
      clear hb2 f0 f1 f2 f3 e0 e1
      go_wp2
      go_ret
      exact ⟨rfl, HB2.out⟩
set_option maxHeartbeats 2000000 in
theorem l06Code_c (x0 : Int) (x1 : List Int) (x2 : List Bool) (x3 : List PR) (y0 : List (List Int)) (y1 : List Int) (a1 a2 a3 b0 b1 : Option Addr) (c1 c2 c3 d0 d1 : Nat) (w : World) (h1 : SlI Any w a1 x1) (h2 : SlB Any w a2 x2) (h3 : Rd Any w (dPR x3) (.slice a3 x3.length c3)) (k0 : SlII Any w b0 y0) (k1 : SlI Any w b1 y1)
    (p q : Nat) (hp0 : w.cell? ⟨p, 0, none⟩ = some (.int .i64 x0)) (hp1 : w.cell? ⟨p, 1, none⟩ = some (.slice a1 x1.length c1)) (hp2 : w.cell? ⟨p, 2, none⟩ = some (.slice a2 x2.length c2)) (hp3 : w.cell? ⟨p, 3, none⟩ = some (.slice a3 x3.length c3)) (hq0 : w.cell? ⟨q, 0, none⟩ = some (.slice b0 y0.length d0)) (hq1 : w.cell? ⟨q, 1, none⟩ = some (.slice b1 y1.length d1)) :
    Calls Try.prog 23 #[.pointer (some ⟨p, 0, none⟩), .pointer (some ⟨q, 0, none⟩)] w (RetV w (.int .i64 (stCode x0 x1 x2 x3 y0 y1))) := by
  have HP := Lib.hid (l06Ok_c x0 x1 x2 x3 a1 a2 a3 c1 c2 c3 p w h1 h2 h3 hp0 hp1 hp2 hp3)
  have zp := World.block_lt_of_cell? w _ hp0
  have zq := World.block_lt_of_cell? w _ hq0
  have HS : okPass x0 x1 x2 x3 = true → Hid (∀ wx, Below w.heap.size w wx → Calls Try.prog 46 #[.pointer (some ⟨p, 0, none⟩), .pointer (some ⟨q, 0, none⟩)] wx (RetV wx (.bool (okStock x0 x1.length x2 y0 y1)))) := fun hP => by
    have hok := okPass_ok hP
    exact Lib.hid fun wx hx => l06Stock_c x0 x1.length x3.length x2 y0 y1 a1 a2 a3 b0 b1 c1 c2 c3 d0 d1 p q wx (h2.below hx) (k0.below hx) (k1.below hx) ((bcell1 hx zp).trans hp0) ((bcell1 hx zp).trans hp1) ((bcell1 hx zp).trans hp2) ((bcell1 hx zp).trans hp3) ((bcell1 hx zq).trans hq0) ((bcell1 hx zq).trans hq1) ⟨hok.1, hok.2.1⟩ hok.2.2.2.1 hok.2.2.2.2.2.1
  clear h1 h2 h3 k0 k1 hp0 hp1 hp2 hp3 hq0 hq1 zp zq
  cases hP : okPass x0 x1 x2 x3
  · rw [stCode_bad hP]
    rw [hP] at HP
    clear hP HS
    go_enter Try.func23, Try.ntmps23
    go_wp2_with fail
    refine HP.out.mono ?_
    rintro e w1 ⟨rfl, hb1⟩
    have HB1 := Lib.hid hb1
    clear hb1
    go_wp2
    go_ret
    exact ⟨rfl, HB1.out⟩
  · have HS2 := HS hP
    have HE : Hid (okStockAll x0 x1 x2 x3 y0 y1 = okStock x0 x1.length x2 y0 y1) := Lib.hid (by simp [okStockAll, hP])
    have HPP := Lib.hid hP
    rw [hP] at HP
    clear hP HS
    cases hS : okStock x0 x1.length x2 y0 y1
    · have HR : Hid (stCode x0 x1 x2 x3 y0 y1 = 2) := Lib.hid (stCode_two HPP.out (by rw [HE.out, hS]))
      rw [HR.out]
      rw [hS] at HS2
      clear hS
      go_enter Try.func23, Try.ntmps23
      go_wp2_with fail
      refine HP.out.mono ?_
      rintro e w1 ⟨rfl, hb1⟩
      have HB1 := Lib.hid hb1
      clear hb1
      go_wp2_with fail
      refine (HS2.out w1 HB1.out).mono ?_
      rintro e w2 ⟨rfl, hb2⟩
      have HB2 := Lib.hid (bnext HB1.out hb2 (Nat.le_refl _))
      clear hb2
      go_wp2
      go_ret
      exact ⟨rfl, HB2.out⟩
    · have HR : Hid (stCode x0 x1 x2 x3 y0 y1 = 0) := Lib.hid (stCode_zero HPP.out (by rw [HE.out, hS]))
      rw [HR.out]
      rw [hS] at HS2
      clear hS
      go_enter Try.func23, Try.ntmps23
      go_wp2_with fail
      refine HP.out.mono ?_
      rintro e w1 ⟨rfl, hb1⟩
      have HB1 := Lib.hid hb1
      clear hb1
      go_wp2_with fail
      refine (HS2.out w1 HB1.out).mono ?_
      rintro e w2 ⟨rfl, hb2⟩
      have HB2 := Lib.hid (bnext HB1.out hb2 (Nat.le_refl _))
      clear hb2
      go_wp2
      go_ret
      exact ⟨rfl, HB2.out⟩
theorem Bld.ptr {E : Nat} {w : World} {B : Nat} {v : Value} {vs : List Value} (h : Bld E w B v vs) (h0 : 0 < vs.length) : ∃ g c, v = .slice (some ⟨g, 0, none⟩) vs.length c := by
  obtain ⟨_, h2⟩ := h
  rcases h2 with ⟨_, h3⟩ | ⟨g, cap, cur, h1, _⟩
  · omega
  · exact ⟨g, cap, h1⟩
/-- The first q from the new list, the others from the old. -/
def mixS (new old : List Int) (q : Nat) : List Int := (List.range old.length).map fun j => if j < q then nth new j else nth old j
theorem mix_len (new old : List Int) (q : Nat) : (mixS new old q).length = old.length := by simp [mixS]
theorem mix_at {new old : List Int} {q j : Nat} (h : j < old.length) : nth (mixS new old q) j = if j < q then nth new j else nth old j := by simp [mixS, nth, h]
theorem mix_zero (new old : List Int) : mixS new old 0 = old := nth_ext (mix_len _ _ _) fun j hj => by rw [mix_at hj, if_neg (by omega)]
theorem mix_full {new old : List Int} (h : new.length = old.length) : mixS new old old.length = new := nth_ext (by rw [mix_len, h]) fun j hj => by rw [mix_at (by omega), if_pos (by omega)]
theorem mix_set {new old : List Int} {q : Nat} (h : q < old.length) : (mixS new old q).set q (nth new q) = mixS new old (q + 1) := nth_ext (by simp [mix_len]) fun j hj => by
  rw [mix_len] at hj
  rw [nth_set (by rw [mix_len]; exact h), mix_at hj, mix_at hj]
  by_cases e : j = q
  · subst e; rw [if_pos rfl, if_pos (by omega)]
  · rw [if_neg e]
    by_cases e2 : j < q
    · rw [if_pos e2, if_pos (by omega)]
    · rw [if_neg e2, if_neg (by omega)]
end Go.Proofs.Ytkjmehpehopncaa

/- Contracts of the exported functions on bags (second part): weigh, join, meet, scale, add, take. -/
namespace Go.Proofs.Ytkjmehpehopncaa
open Go.RowKit
end Go.Proofs.Ytkjmehpehopncaa

/- Weights of places; the invariant's value: contracts. -/
namespace Go.Proofs.Ytkjmehpehopncaa
open Go.RowKit

def passInvS (x0 : Int) (x1 : List Int) (x2 : List Bool) (x3 : List PR) (y0 : List (List Int)) (y1 : List Int) (ws : List (List Int)) : Int × Int :=
  if stCode x0 x1 x2 x3 y0 y1 = 0 then (if areW x0 x1.length ws = true then (invTo ws y0 y1 x1.length x1.length, 0) else (0, 2)) else (0, stCode x0 x1 x2 x3 y0 y1)
theorem take_flat {xss : List (List Int)} {k : Nat} (h : k < xss.length) : (xss.take (k + 1)).flatten = (xss.take k).flatten ++ nthR xss k := by
  rw [List.take_succ_eq_append_getElem h, List.flatten_append, nthR_lt h]; simp
theorem takeflat_len {xss : List (List Int)} {K : Nat} (h : ∀ i, i < xss.length → (nthR xss i).length = K) : ∀ k, k ≤ xss.length → (xss.take k).flatten.length = k * K
  | 0, _ => by simp
  | k + 1, hk => by rw [take_flat (by omega), List.length_append, takeflat_len h k (by omega), h k (by omega), Nat.add_mul, Nat.one_mul]
theorem bags_flat (y0 : List (List Int)) (y1 : List Int) : (bagsS y0 y1).flatten = (y0.take y0.length).flatten ++ y1 := by simp [bagsS]
theorem small_mul {k K n : Nat} (h1 : k ≤ n) (h2 : K ≤ 8) : k * K ≤ 8 * n := by
  have := Nat.mul_le_mul h1 h2; rw [Nat.mul_comm n 8] at this; exact this
theorem SlI.addr0 {S : Nat → Prop} {w : World} {a : Option Addr} {xs : List Int} (h : SlI S w a xs) (h0 : 1 ≤ xs.length) : ∃ ad, a = some ad := h.addr h0
set_option maxHeartbeats 400000 in
theorem indexFuncII_v (f : FuncId) (caps : Array Value) (p : List Int → Bool) (hcall : ∀ args w, (callFunc f args).run Try.prog w = .ok (.enter f args) w)
   (S : Nat → Prop) (a : Option Addr) (c : Nat) (xs : List (List Int)) (w : World) (hx : SlII S w a xs)
   (hf : Hid (∀ j, j < xs.length → ∀ a' c' w', Below w.heap.size w w' → SlI S w' a' (nthR xs j) → Calls Try.prog f (#[.slice a' (nthR xs j).length c'] ++ caps) w' (RetV w' (.bool (p (nthR xs j)))))) :
    Calls Try.prog 60 #[.slice a xs.length c, .func (.func f) #[] caps] w (RetV w (.int .i64 (idxII p xs))) := by
  have l1 := hx.len
  unfold maxLen at l1
  have i1 := hx.ix tabII.under tabII.size c
  go_enter Try.func60, Try.ntmps60
  go_wp2
  go_loopw [5, 8] (fun _ i wr => ∃ k : Nat, k ≤ xs.length ∧ i = .int .i64 k ∧ Below w.heap.size w wr ∧ (∀ j, j < k → p (nthR xs j) = false)) (fun _ i _ => xs.length - (intOf i).toNat)
  case atStart => exact ⟨0, Nat.zero_le _, rfl, Below.refl _ _, by omega⟩
  case round =>
      obtain ⟨k, hk, rfl, hb, hj⟩ := hrel
      have HJ := Lib.hid hj
      have HB := Lib.hid hb
      clear hj hb
      by_cases hlt : k < xs.length
      · obtain ⟨a', c', g1, hs⟩ := (hx.below HB.out).cell k hlt
        have HC := Lib.hid (hf.out k hlt a' c' wr HB.out hs)
        clear hs
        go_wp2_with fail
        refine HC.out.mono ?_
        rintro e w' ⟨rfl, hb2⟩
        have HB2 := Lib.hid (bnext HB.out hb2 (Nat.le_refl _))
        clear hb2
        cases hp : p (nthR xs k)
        · have hp' := Lib.hid hp
          clear hp
          go_wp2
          go_roundw
          case rel => exact ⟨k + 1, by omega, by go_num, HB2.out, upto HJ.out hp'.out⟩
          case measure => simp [intOf]; omega
        · have HP := Lib.hid hp
          clear hp
          go_wp2
          go_ret
          exact ⟨ret_int (idxII_at hlt HJ.out HP.out).symm, HB2.out⟩
      · go_wp2
        go_ret
        have e : k = xs.length := by omega
        exact ⟨ret_int (idxII_none (e ▸ HJ.out)).symm, HB.out⟩
theorem containsFuncII_v (f : FuncId) (caps : Array Value) (p : List Int → Bool) (hcall : ∀ args w, (callFunc f args).run Try.prog w = .ok (.enter f args) w)
   (S : Nat → Prop) (a : Option Addr) (c : Nat) (xs : List (List Int)) (w : World) (hx : SlII S w a xs)
   (hf : Hid (∀ j, j < xs.length → ∀ a' c' w', Below w.heap.size w w' → SlI S w' a' (nthR xs j) → Calls Try.prog f (#[.slice a' (nthR xs j).length c'] ++ caps) w' (RetV w' (.bool (p (nthR xs j)))))) :
    Calls Try.prog 41 #[.slice a xs.length c, .func (.func f) #[] caps] w (RetV w (.bool (anyII p xs))) := by
  go_enter Try.func41, Try.ntmps41
  go_wp2_with fail
  refine (indexFuncII_v f caps p hcall S a c xs w hx hf).mono ?_
  rintro e w' ⟨rfl, hb⟩
  go_wp2
  go_ret
  exact ⟨ret_bool (idxII_any p xs), hb⟩
theorem outside_c (x0 : Int) (n c1 : Nat) (a1 : Option Addr) (v2 v3 : Value) (w : World) (hn : n ≤ maxLen) :
    Calls Try.prog 63 #[.agg #[.int .i64 x0, .slice a1 n c1, v2, v3]] w (RetV w (.int .i64 n)) := by
  have hb0 := below_alloc w (.cells #[.int .i64 x0, .slice a1 n c1, v2, v3] 28)
  go_enter Try.func63, Try.ntmps63
  go_wp2_with fail
  refine (size_int_c _ _ _ _ hn).mono ?_
  rintro e w' ⟨rfl, rfl⟩
  go_wp2
  go_ret
  exact ⟨rfl, hb0⟩
set_option maxHeartbeats 2000000 in
set_option maxRecDepth 100000 in
theorem l06Flat_c (K : Nat) (y0 : List (List Int)) (y1 : List Int) (b0 b1 : Option Addr) (d0 d1 : Nat) (p q : Addr) (qb : Nat) (w : World) (k0 : SlII Any w b0 y0) (k1 : SlI Any w b1 y1) (hq : q = ⟨qb, 0, none⟩)
    (hq0 : w.cell? ⟨qb, 0, none⟩ = some (.slice b0 y0.length d0)) (hq1 : w.cell? ⟨qb, 1, none⟩ = some (.slice b1 y1.length d1)) (hr : Hid (∀ i, i < y0.length → (nthR y0 i).length = K)) (h1 : y1.length = K) (hK : 1 ≤ K) (hK8 : K ≤ 8) (hn : y0.length ≤ 4) :
    Calls Try.prog 37 #[.pointer (some p), .pointer (some q)] w (RetB 2 w (bagsS y0 y1).flatten) := by
  subst hq
  have i1 := k0.ix tabII.under tabII.size d0
  have zq : qb < w.heap.size := World.block_lt_of_cell? w _ hq0
  have hbl := Bld.empty 2 w w.heap.size (Nat.le_refl _)
  have K0 := Lib.hid k0
  have K1 := Lib.hid k1
  have H1 := Lib.hid h1
  have HL := Lib.hid (fun k (h : k ≤ y0.length) => takeflat_len hr.out k h)
  have HBL := Lib.hid hbl
  have HB0 := Lib.hid (below_alloc w (.cells #[] 2))
  clear k0 k1 h1 hbl
  go_enter Try.func37, Try.ntmps37
  go_wp2
  go_loopw [5, 6] (fun v i wr => ∃ k : Nat, k ≤ y0.length ∧ i = .int .i64 k ∧ Below w.heap.size w wr ∧ Bld 2 wr w.heap.size v ((y0.take k).flatten.map (.int .i64))) (fun _ i _ => y0.length - (intOf i).toNat)
  case atStart => exact ⟨0, Nat.zero_le _, rfl, HB0.out, HBL.out⟩
  case round =>
    obtain ⟨k, hk, rfl, hb, hbl⟩ := hrel
    have f0 := (bcell1 hb zq).trans hq0
    have f1 := (bcell1 hb zq).trans hq1
    have hz := hb.size
    have HB := Lib.hid hb
    have HL2 := Lib.hid hbl
    clear hb hbl
    by_cases hlt : k < y0.length
    · obtain ⟨ay, cy, gy, hsy⟩ := (K0.out.below HB.out).cell k hlt
      have hrk := hr.out k hlt
      have had := hsy.addr (by omega)
      have hln := HL.out k hk
      have hm := small_mul (k := k) (K := K) (n := 4) (by omega) hK8
      have HS := Lib.hid hsy.any
      have HAD := Lib.hid had
      have HLT : Hid (((y0.take k).flatten.map (Value.int .i64)).length + (nthR y0 k).length < 4294967296) := Lib.hid (by rw [List.length_map, hln, hrk]; omega)
      clear hsy had hln hm hrk
      go_wp2_with (at_builtin; refine app_many rfl _ _ 24 rfl tabI rfl (by decide) w.heap.size _ _ rfl HL2.out Any ay cy (nthR y0 k) rfl HS.out HAD.out HLT.out hz ?_)
      intro v' w1 hbl1 hb1
      have HB1 := Lib.hid (HB.out.trans hb1)
      have HBL1 : Hid (Bld 2 w1 w.heap.size v' ((y0.take (k + 1)).flatten.map (.int .i64))) := Lib.hid (by rw [take_flat hlt]; simpa [List.map_flatten, List.map_take] using hbl1)
      clear hbl1 hb1 gy f0 f1
      go_wp2
      go_roundw
      case rel => exact ⟨k + 1, by omega, by go_num, HB1.out, HBL1.out⟩
      case measure => simp [intOf]; omega
    · have e : k = y0.length := by omega
      subst e
      have had := (K1.out.below HB.out).addr (by have := H1.out; omega)
      have hln := HL.out _ hk
      have hm := small_mul (k := y0.length) (K := K) (n := 4) (by omega) hK8
      have HS := Lib.hid (K1.out.below HB.out)
      have HAD := Lib.hid had
      have HLT : Hid (((y0.take y0.length).flatten.map (Value.int .i64)).length + y1.length < 4294967296) := Lib.hid (by rw [List.length_map, hln, H1.out]; omega)
      clear had hln hm
      go_wp2_with (at_builtin; refine app_many rfl _ _ 24 rfl tabI rfl (by decide) w.heap.size _ _ rfl HL2.out Any b1 d1 y1 rfl HS.out HAD.out HLT.out hz ?_)
      intro v' w1 hbl1 hb1
      have HB1 := Lib.hid (HB.out.trans hb1)
      have HBL1 : Hid (Bld 2 w1 w.heap.size v' ((bagsS y0 y1).flatten.map (.int .i64))) := Lib.hid (by rw [bags_flat]; simpa [List.map_flatten, List.map_take] using hbl1)
      clear hbl1 hb1 f0 f1
      go_wp2
      go_ret
      exact ⟨_, rfl, HB1.out, HBL1.out⟩
theorem wOk_len {x0 : Int} {l : List Int} (h : ¬ (l.length : Int) = x0) : wOk x0 l = false := by simp [wOk, h]
theorem wOk_eq {x0 : Int} {l : List Int} (h : (l.length : Int) = x0) : wOk x0 l = allB (fun w => inRg w (-1000) 1000) l := by simp [wOk, h]
end Go.Proofs.Ytkjmehpehopncaa
