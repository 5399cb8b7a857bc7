/- Packings of small bags: what the law of packings asks, in plain lists. No program is in sight. -/
import Derived.Test.YthlbogmnnenkoaaPG
import Derived.Test.YthlbogmnnenkoaaBY
namespace Go.Proofs.Ythlbogmnnenkoaa
open Go.RowKit

/-- How much the first k parts take, each as often as its count says. -/
def usedTo (ps : List (List Int)) (c : List Int) (j : Nat) : Nat → Int
  | 0 => 0
  | k + 1 => usedTo ps c j k + nth c k * nth (nthR ps k) j
theorem usedTo_cons (p : List Int) (ps : List (List Int)) (n : Int) (c : List Int) (j : Nat) : ∀ k, usedTo (p :: ps) (n :: c) j (k + 1) = n * nth p j + usedTo ps c j k
  | 0 => by simp [usedTo, nth, nthR]
  | k + 1 => by
    rw [usedTo, usedTo_cons p ps n c j k, usedTo, show nth (n :: c) (k + 1) = nth c k by simp [nth], show nthR (p :: ps) (k + 1) = nthR ps k by simp [nthR]]
    omega
/-- What is left behind all parts. -/
def restL : List (List Int) → List Int → List Int → List Int
  | [], rest, _ => rest
  | p :: ps, rest, c => restL ps (plusS rest p (-(nth c 0))) c.tail
theorem restL_len : ∀ (ps : List (List Int)) (rest c : List Int), (restL ps rest c).length = rest.length
  | [], _, _ => rfl
  | p :: ps, rest, c => by rw [restL, restL_len ps, plusS_len]
/-- All packings, full or not, of which those with a property are taken. -/
theorem packs_filter (P : List Int → Bool) : ∀ (ps : List (List Int)) (rest : List Int), packs P ps rest = (packs (fun _ => true) ps rest).filter fun c => P (restL ps rest c)
  | [], rest => by simp only [packs, restL, if_true]; cases P rest <;> simp [List.filter]
  | p :: ps, rest => by
    rw [packs, packs, List.filter_flatMap]
    congr 1
    funext n
    rw [packs_filter P ps, List.filter_map]
    rfl
theorem packs_rises (P : List Int → Bool) : ∀ (ps : List (List Int)) (rest : List Int), Rises ps.length (packs P ps rest)
  | [], rest => by unfold packs; split <;> exact ⟨fun x hx => by simp at hx; try (subst hx; rfl), by simp⟩
  | p :: ps, rest => rises_flat fun n _ => packs_rises P ps (plusS rest p (-(n : Int)))
/-- Parts of a bag: no part is empty. -/
structure Parts (K : Nat) (ps : List (List Int)) : Prop where
  len : ∀ p, p ∈ ps → p.length = K
  sm : ∀ p, p ∈ ps → small p
  ne : ∀ p, p ∈ ps → ∃ j, j < K ∧ 1 ≤ nth p j
theorem Parts.tail {K : Nat} {p : List Int} {ps : List (List Int)} (h : Parts K (p :: ps)) : Parts K ps :=
  ⟨fun q hq => h.len q (by simp [hq]), fun q hq => h.sm q (by simp [hq]), fun q hq => h.ne q (by simp [hq])⟩
theorem le_times {K : Nat} {p rest : List Int} (hl : p.length = K) (_hr : rest.length = K) (hs : small rest) (_hp : small p) (hne : ∃ j, j < K ∧ 1 ≤ nth p j) {n : Int} (h0 : 0 ≤ n) (h : ∀ j, j < K → n * nth p j ≤ nth rest j) : n ≤ timesS p rest := by
  have n1000 : n ≤ 1000 := by
    obtain ⟨j, hj, h1⟩ := hne
    have h2 := h j hj
    have h3 := hs j (by omega)
    have h4 : n * 1 ≤ n * nth p j := Int.mul_le_mul_of_nonneg_left h1 h0
    omega
  have key : ∀ k, k ≤ K → n ≤ timesTo p rest k := by
    intro k
    induction k with
    | zero => intro _; simpa [timesTo] using n1000
    | succ k ih =>
      intro hk
      have := ih (by omega)
      rw [timesTo]
      split
      · rename_i hpos
        have h5 : n ≤ nth rest k / nth p k := Int.le_ediv_of_mul_le hpos (h k (by omega))
        unfold minI; split <;> omega
      · exact this
  rw [timesS, hl]; exact key K (Nat.le_refl _)
theorem nonneg_mul {a b : Int} (h : 0 ≤ a) (h2 : 0 ≤ b) : 0 ≤ a * b := Int.mul_nonneg h h2
theorem usedTo_nonneg {K : Nat} {ps : List (List Int)} (hP : Parts K ps) {c : List Int} (hc : ∀ i, 0 ≤ nth c i) {j : Nat} (hj : j < K) : ∀ k, k ≤ ps.length → 0 ≤ usedTo ps c j k
  | 0, _ => Int.le_refl _
  | k + 1, hk => by
    have h1 := usedTo_nonneg hP hc hj k (by omega)
    have hm : nthR ps k ∈ ps := by rw [nthR_lt (by omega)]; exact List.getElem_mem _
    have h2 := nonneg_mul (hc k) (hP.sm _ hm j (by rw [hP.len _ hm]; exact hj)).1
    rw [usedTo]; omega
theorem nth_tail (c : List Int) (i : Nat) : nth c.tail i = nth c (i + 1) := by cases c <;> simp [nth]
/-- Which counts are listed: those that fit, and for whose rest it is so. -/
theorem mem_packs {K : Nat} (P : List Int → Bool) : ∀ (ps : List (List Int)) (rest c : List Int), Parts K ps → rest.length = K → small rest →
    (c ∈ packs P ps rest ↔ c.length = ps.length ∧ (∀ i, 0 ≤ nth c i) ∧ (∀ j, j < K → usedTo ps c j ps.length ≤ nth rest j) ∧ P (restL ps rest c) = true) ∧
    (c.length = ps.length → (∀ i, 0 ≤ nth c i) → (∀ j, j < K → usedTo ps c j ps.length ≤ nth rest j) → (∀ j, j < K → nth (restL ps rest c) j = nth rest j - usedTo ps c j ps.length) ∧ small (restL ps rest c))
  | [], rest, c, _, hl, hs => by
    constructor
    · rw [packs]
      constructor
      · intro h
        split at h
        · rename_i hp
          simp at h
          subst h
          exact ⟨rfl, fun i => by simp [nth], fun j hj => by simp [usedTo]; exact (hs j (by omega)).1, hp⟩
        · cases h
      · rintro ⟨h1, _, _, h4⟩
        rw [restL] at h4
        rw [if_pos h4]
        have : c = [] := by simpa using h1
        simp [this]
    · intro _ _ _
      exact ⟨fun j _ => by simp [restL, usedTo], hs⟩
  | p :: ps, rest, c, hP, hl, hs => by
    have hpl := hP.len p (by simp)
    have hps := hP.sm p (by simp)
    have hpn := hP.ne p (by simp)
    have step : ∀ (n : Int), 0 ≤ n → n ≤ timesS p rest → small (plusS rest p (-n)) ∧ ∀ j, j < K → nth (plusS rest p (-n)) j = nth rest j - n * nth p j := fun n h0 h1 =>
      ⟨take_small (by omega) hs hps h0 h1, fun j hj => (take_bd (by omega) hs hps h0 h1 j (by omega)).1⟩
    have core : ∀ (n : Int) (c' : List Int), 0 ≤ n → (∀ j, j < K → usedTo (p :: ps) (n :: c') j (ps.length + 1) ≤ nth rest j) → (∀ i, 0 ≤ nth c' i) → n ≤ timesS p rest := fun n c' h0 hu hc' =>
      le_times hpl hl hs hps hpn h0 fun j hj => by
        have h1 := hu j hj
        rw [usedTo_cons] at h1
        have h2 := usedTo_nonneg hP.tail hc' hj ps.length (Nat.le_refl _)
        omega
    cases c with
    | nil =>
      constructor
      · constructor
        · intro h; have := packs_len P (p :: ps) rest [] h; simp at this
        · rintro ⟨h, _⟩; simp at h
      · intro h; simp at h
    | cons n c' =>
      have htl : ∀ i, nth c' i = nth (n :: c') (i + 1) := fun i => by simp [nth]
      have h0n : nth (n :: c') 0 = n := by simp [nth]
      have hrl : restL (p :: ps) rest (n :: c') = restL ps (plusS rest p (-n)) c' := by rw [restL, h0n]; rfl
      constructor
      · constructor
        · intro h
          simp only [packs, List.mem_flatMap, List.mem_map, List.mem_range] at h
          obtain ⟨m, hm, y, hy, e⟩ := h
          injection e with e1 e2
          subst e1
          subst e2
          have ht := timesS_bd (p := p) (r := rest) (by omega) hs
          obtain ⟨s1, s2⟩ := step (m : Int) (by omega) (by omega)
          obtain ⟨k1, k2⟩ := mem_packs P ps (plusS rest p (-(m : Int))) y hP.tail (by rw [plusS_len]; exact hl) s1
          obtain ⟨g1, g2, g3, g4⟩ := k1.1 hy
          refine ⟨by simp [g1], fun i => ?_, fun j hj => ?_, by rw [hrl]; exact g4⟩
          · cases i with
            | zero => simp [nth]
            | succ i => rw [← htl]; exact g2 i
          · show usedTo (p :: ps) ((m : Int) :: y) j (ps.length + 1) ≤ nth rest j
            rw [usedTo_cons]
            have := g3 j hj
            rw [s2 j hj] at this
            omega
        · rintro ⟨h1, h2, h3, h4⟩
          have hn0 : 0 ≤ n := by have := h2 0; rwa [h0n] at this
          have hc0 : ∀ i, 0 ≤ nth c' i := fun i => by rw [htl]; exact h2 (i + 1)
          have hnt := core n c' hn0 h3 hc0
          obtain ⟨s1, s2⟩ := step n hn0 hnt
          obtain ⟨k1, k2⟩ := mem_packs P ps (plusS rest p (-n)) c' hP.tail (by rw [plusS_len]; exact hl) s1
          simp only [packs, List.mem_flatMap, List.mem_map, List.mem_range]
          refine ⟨n.toNat, by omega, c', ?_, by rw [show ((n.toNat : Nat) : Int) = n by omega]⟩
          rw [show ((n.toNat : Nat) : Int) = n by omega]
          refine k1.2 ⟨by simpa using h1, hc0, fun j hj => ?_, by rw [← hrl]; exact h4⟩
          have h5 := h3 j hj
          have h6 : usedTo (p :: ps) (n :: c') j (ps.length + 1) ≤ nth rest j := h5
          rw [usedTo_cons] at h6
          rw [s2 j hj]; omega
      · intro h1 h2 h3
        have hn0 : 0 ≤ n := by have := h2 0; rwa [h0n] at this
        have hc0 : ∀ i, 0 ≤ nth c' i := fun i => by rw [htl]; exact h2 (i + 1)
        have hnt := core n c' hn0 h3 hc0
        obtain ⟨s1, s2⟩ := step n hn0 hnt
        obtain ⟨k1, k2⟩ := mem_packs P ps (plusS rest p (-n)) c' hP.tail (by rw [plusS_len]; exact hl) s1
        have h7 : ∀ j, j < K → usedTo ps c' j ps.length ≤ nth (plusS rest p (-n)) j := fun j hj => by
          have h6 : usedTo (p :: ps) (n :: c') j (ps.length + 1) ≤ nth rest j := h3 j hj
          rw [usedTo_cons] at h6
          rw [s2 j hj]; omega
        obtain ⟨r1, r2⟩ := k2 (by simpa using h1) hc0 h7
        rw [hrl]
        refine ⟨fun j hj => ?_, r2⟩
        rw [r1 j hj, s2 j hj]
        show _ = nth rest j - usedTo (p :: ps) (n :: c') j (ps.length + 1)
        rw [usedTo_cons]; omega
theorem Parts.of {K : Nat} {ps : List (List Int)} (h : askS K ps = 0) : Parts K ps ∧ ps.length ≤ 8 := by
  obtain ⟨_, h8, _⟩ := askS_ok h
  have at_ : ∀ p, p ∈ ps → isBagS p = true ∧ (p.length : Int) = K ∧ ¬ sumS p = 0 := fun p hp => by
    obtain ⟨i, hi, rfl⟩ := List.getElem_of_mem hp
    have := askS_at h hi
    rwa [nthR_lt hi] at this
  refine ⟨⟨fun p hp => by have := (at_ p hp).2.1; omega, fun p hp => isBagS_small (at_ p hp).1, fun p hp => ?_⟩, h8⟩
  obtain ⟨h1, h2, h3⟩ := at_ p hp
  have hs := someTo_sum h1
  rw [show (sumS p == 0) = false from by simpa using h3] at hs
  have hs2 : someTo p p.length = true := by simpa using hs.symm
  rw [someTo, List.any_eq_true] at hs2
  obtain ⟨j, hj, hp2⟩ := hs2
  have : 0 < nth p j := by simpa using hp2
  exact ⟨j, by have : j < p.length := by simpa using hj
               omega, by omega⟩
theorem nth_out {c : List Int} {i : Nat} (h : c.length ≤ i) : nth c i = 0 := by simp [nth, h]
theorem nth_all {c : List Int} {p : Int → Prop} (h0 : p 0) (h : ∀ i, i < c.length → p (nth c i)) (i : Nat) : p (nth c i) := by
  by_cases e : i < c.length
  · exact h i e
  · rw [nth_out (by omega)]; exact h0
theorem prod_le {a b : Int} (h1 : 0 ≤ a ∧ a ≤ 1000) (h2 : 0 ≤ b ∧ b ≤ 1000) : 0 ≤ a * b ∧ a * b ≤ 1000000 := by
  have h3 := Int.mul_nonneg h1.1 h2.1
  have h4 := Int.mul_le_mul h1.2 h2.2 h2.1 (by omega)
  omega
theorem packTo_at {K : Nat} {ps : List (List Int)} (hP : Parts K ps) {cs : List Int} (hc : ∀ i, 0 ≤ nth cs i ∧ nth cs i ≤ 1000) {j : Nat} (hj : j < K) : ∀ k, k ≤ ps.length → k ≤ 8 → nth (packTo K ps cs k) j = usedTo ps cs j k ∧ 0 ≤ usedTo ps cs j k ∧ usedTo ps cs j k ≤ 1000000 * k
  | 0, _, _ => by simp [packTo, usedTo, nth, hj]
  | k + 1, hk, h8 => by
    obtain ⟨h1, h2, h3⟩ := packTo_at hP hc hj k (by omega) (by omega)
    have hm : nthR ps k ∈ ps := by rw [nthR_lt (by omega)]; exact List.getElem_mem _
    have h4 := hP.sm _ hm j (by rw [hP.len _ hm]; exact hj)
    have h5 := prod_le (hc k) h4
    have e : nth (packTo K ps cs (k + 1)) j = usedTo ps cs j (k + 1) := by
      rw [packTo_succ, plusS, zipF_at (by rw [packTo_len]; exact hj), addW, h1, usedTo]
      generalize nth cs k * nth (nthR ps k) j = z at h5
      unfold wrap64; omega
    rw [e, usedTo]
    generalize nth cs k * nth (nthR ps k) j = z at h5
    exact ⟨rfl, by omega, by push_cast; omega⟩
theorem withinS_at {xs ys : List Int} (h : withinS xs ys = true) {j : Nat} (hj : j < xs.length) : nth xs j ≤ nth ys j := by
  rw [withinS, List.all_eq_true] at h
  simpa using h j (by simpa using hj)
theorem rest_bag {b : List Int} {ps : List (List Int)} (hb : isBagS b = true) {c : List Int} (h : small (restL ps b c)) : isBagS (restL ps b c) = true := by
  have h0 := isBagS_len hb
  have : allB cntOk (restL ps b c) = true := allB_true fun j hj => by have := h j hj; simp [cntOk, inRg]; omega
  simp [isBagS, this, inRg, restL_len]; omega
theorem rest_zero {b : List Int} {ps : List (List Int)} (hb : isBagS b = true) {c : List Int} (h : small (restL ps b c)) : (sumS (restL ps b c) == 0) = true ↔ ∀ j, j < b.length → nth (restL ps b c) j = 0 := by
  rw [someTo_sum (rest_bag hb h), Bool.not_eq_true', ← Bool.not_eq_true, someTo, List.any_eq_true]
  constructor
  · intro hn j hj
    have h1 := h j (by rw [restL_len]; exact hj)
    by_cases e : 0 < nth (restL ps b c) j
    · exact absurd ⟨j, by rw [restL_len]; simpa using hj, by simpa using e⟩ hn
    · omega
  · rintro hz ⟨j, h1, h2⟩
    rw [restL_len] at h1
    have := hz j (by simpa using h1)
    simp at h2; omega
section
variable {b : List Int} {ps : List (List Int)} (hb : isBagS b = true) (ha : askS b.length ps = 0)
include hb ha
theorem isPacking_mem {cs : List Int} (hl : cs.length = ps.length) (hc : ∀ i, 0 ≤ nth cs i ∧ nth cs i ≤ 1000) : isPackingS b ps cs = (decide (cs ∈ packs (maxP ps) ps b), 0) := by
  obtain ⟨hP, h8⟩ := Parts.of ha
  have hcode : codeS b.length ps cs = 0 := by
    have hA := askS_ok ha
    exact codeS_zero hA.1 hA.2.1 hA.2.2 (cntsOk_true hl fun j hj => by have := hc j; simp [cntOk, inRg]; omega)
  obtain ⟨k1, k2⟩ := mem_packs (maxP ps) ps b cs hP rfl (isBagS_small hb)
  have pa : ∀ j, j < b.length → nth (packS b.length ps cs) j = usedTo ps cs j ps.length := fun j hj => (packTo_at hP hc hj ps.length (Nat.le_refl _) h8).1
  have pb : ∀ j, j < b.length → 0 ≤ usedTo ps cs j ps.length ∧ usedTo ps cs j ps.length ≤ 8000000 := fun j hj => by have := (packTo_at hP hc hj ps.length (Nat.le_refl _) h8).2; omega
  rw [isPackingS, if_pos hb, if_pos hcode]
  congr 1
  rw [Bool.eq_iff_iff, decide_eq_true_eq, Bool.and_eq_true, k1]
  have hw : withinS (packS b.length ps cs) b = true ↔ ∀ j, j < b.length → usedTo ps cs j ps.length ≤ nth b j :=
    ⟨fun h j hj => by rw [← pa j hj]; exact withinS_at h (by rw [packS_len]; exact hj), fun h => withinS_true fun j hj => by rw [packS_len] at hj; rw [pa j hj]; exact h j hj⟩
  rw [hw]
  have er : (∀ j, j < b.length → usedTo ps cs j ps.length ≤ nth b j) → plusS b (packS b.length ps cs) (-1) = restL ps b cs := fun h => by
    obtain ⟨r1, _⟩ := k2 hl (fun i => (hc i).1) h
    refine eq_of_nth (by rw [plusS_len, restL_len]) fun j hj => ?_
    rw [plusS_len] at hj
    have h1 := pb j hj
    have h2 := isBagS_at hb hj
    rw [r1 j hj, plusS, zipF_at hj, addW, pa j hj]
    unfold wrap64; omega
  constructor
  · rintro ⟨h1, h2⟩
    rw [er h1] at h2
    exact ⟨hl, fun i => (hc i).1, h1, h2⟩
  · rintro ⟨_, _, h1, h2⟩
    rw [er h1]
    exact ⟨h1, h2⟩
/-- What is known of listed counts. -/
theorem mem_bd (P : List Int → Bool) {c : List Int} (h : c ∈ packs P ps b) : c.length = ps.length ∧ (∀ i, 0 ≤ nth c i ∧ nth c i ≤ 1000) ∧ (∀ j, j < b.length → nth (restL ps b c) j = nth b j - usedTo ps c j ps.length) ∧ small (restL ps b c) := by
  obtain ⟨hP, h8⟩ := Parts.of ha
  obtain ⟨k1, k2⟩ := mem_packs P ps b c hP rfl (isBagS_small hb)
  obtain ⟨g1, g2, g3, _⟩ := k1.1 h
  obtain ⟨r1, r2⟩ := k2 g1 g2 g3
  have hc : ∀ i, i < c.length → nth c i ≤ 1000 := fun i hi => by
    have hm : nthR ps i ∈ ps := by rw [nthR_lt (by omega)]; exact List.getElem_mem _
    obtain ⟨j, hj, hj1⟩ := hP.ne _ hm
    have mono : ∀ k d, k + d ≤ ps.length → usedTo ps c j k ≤ usedTo ps c j (k + d) := by
      intro k d
      induction d with
      | zero => intro _; exact Int.le_refl _
      | succ d ih =>
        intro hkd
        have h1 := ih (by omega)
        have hm2 : nthR ps (k + d) ∈ ps := by rw [nthR_lt (by omega)]; exact List.getElem_mem _
        have h2 := Int.mul_nonneg (g2 (k + d)) (hP.sm _ hm2 j (by rw [hP.len _ hm2]; exact hj)).1
        rw [← Nat.add_assoc, usedTo]; omega
    have h1 := mono (i + 1) (ps.length - (i + 1)) (by omega)
    rw [show i + 1 + (ps.length - (i + 1)) = ps.length by omega, usedTo] at h1
    have h2 := usedTo_nonneg hP g2 hj i (by omega)
    have h3 := g3 j hj
    have h4 := (isBagS_at hb hj).2
    have h5 : nth c i * 1 ≤ nth c i * nth (nthR ps i) j := Int.mul_le_mul_of_nonneg_left hj1 (g2 i)
    omega
  exact ⟨g1, fun i => ⟨g2 i, nth_all (p := fun x => x ≤ 1000) (by omega) hc i⟩, r1, r2⟩
theorem exact_filter : packs (exactP ps) ps b = (packs (maxP ps) ps b).filter fun c => sumS (restL ps b c) == 0 := by
  obtain ⟨hP, h8⟩ := Parts.of ha
  rw [packs_filter (exactP ps), packs_filter (maxP ps), List.filter_filter]
  refine List.filter_congr fun c hc => ?_
  obtain ⟨g1, g2, g3, g4⟩ := mem_bd hb ha (fun _ => true) hc
  show (sumS (restL ps b c) == 0) = _
  cases hz : sumS (restL ps b c) == 0
  · rfl
  · have hz2 := (rest_zero hb g4).1 hz
    have : maxP ps (restL ps b c) = true := by
      rw [maxP, fullS, allII, List.all_eq_true]
      intro p hp
      obtain ⟨j, hj, hj1⟩ := hP.ne p hp
      have := withinS_false (xs := p) (ys := restL ps b c) (k := j) (by rw [hP.len p hp]; exact hj) (by rw [hz2 j hj]; omega)
      simp [this]
    rw [this]; rfl
theorem packed_mem {c : List Int} (h0 : 0 < ps.length) (h : c ∈ packs (maxP ps) ps b) : packedBagS ps c = (packS b.length ps c, 0) ∧ decide (packS b.length ps c = b) = (sumS (restL ps b c) == 0) := by
  obtain ⟨hP, h8⟩ := Parts.of ha
  obtain ⟨g1, g2, g3, g4⟩ := mem_bd hb ha _ h
  have hl0 : (nthR ps 0).length = b.length := hP.len _ (by rw [nthR_lt h0]; exact List.getElem_mem _)
  have hA := askS_ok ha
  have hcode : codeS b.length ps c = 0 := codeS_zero hA.1 hA.2.1 hA.2.2 (cntsOk_true g1 fun j hj => by have := g2 j; simp [cntOk, inRg]; omega)
  have pa : ∀ j, j < b.length → nth (packS b.length ps c) j = usedTo ps c j ps.length := fun j hj => (packTo_at hP g2 hj ps.length (Nat.le_refl _) h8).1
  have pn : ∀ j, j < b.length → 0 ≤ usedTo ps c j ps.length := fun j hj => (packTo_at hP g2 hj ps.length (Nat.le_refl _) h8).2.1
  have hbl := isBagS_len hb
  have bag : isBagS (packS b.length ps c) = true := by
    have : allB cntOk (packS b.length ps c) = true := allB_true fun j hj => by
      rw [packS_len] at hj
      have h1 := g4 j (by rw [restL_len]; exact hj)
      have h2 := isBagS_at hb hj
      have h3 := pn j hj
      rw [g3 j hj] at h1
      rw [pa j hj]; simp [cntOk, inRg]; omega
    simp [isBagS, this, inRg, packS_len]; omega
  constructor
  · rw [packedBagS, hl0, if_pos hcode, if_neg (by omega), toldS, if_pos bag]
  · rw [Bool.eq_iff_iff, decide_eq_true_eq, rest_zero hb g4]
    constructor
    · intro e j hj
      have e2 := congrArg (fun l => nth l j) e
      simp only [pa j hj] at e2
      rw [g3 j hj]; omega
    · intro hz
      refine eq_of_nth (packS_len _ _ _) fun j hj => ?_
      rw [packS_len] at hj
      have := hz j hj
      rw [g3 j hj] at this
      rw [pa j hj]; omega
theorem greedy_mem : (greedyTo b ps ps.length).1 ∈ packs (maxP ps) ps b := by
  obtain ⟨hP, h8⟩ := Parts.of ha
  have hs := isBagS_small hb
  have inv : ∀ k, k ≤ ps.length → (greedyTo b ps k).1.length = k ∧ (greedyTo b ps k).2.length = b.length ∧ small (greedyTo b ps k).2 ∧ (∀ i, 0 ≤ nth (greedyTo b ps k).1 i) ∧ (∀ j, j < b.length → nth (greedyTo b ps k).2 j = nth b j - usedTo ps (greedyTo b ps k).1 j k) ∧
      ∀ i, i < k → ∃ j, j < b.length ∧ nth (greedyTo b ps k).2 j < nth (nthR ps i) j := by
    intro k
    induction k with
    | zero => intro _; exact ⟨rfl, rfl, hs, fun i => by simp [greedyTo, nth], fun j _ => by simp [greedyTo, usedTo], fun i hi => absurd hi (by omega)⟩
    | succ k ih =>
      intro hk
      obtain ⟨h1, h2, h3, h4, h5, h6⟩ := ih (by omega)
      have hm : nthR ps k ∈ ps := by rw [nthR_lt (by omega)]; exact List.getElem_mem _
      have hpl := hP.len _ hm
      have ht := timesS_bd (p := nthR ps k) (r := (greedyTo b ps k).2) (by omega) h3
      have tb := take_bd (r := (greedyTo b ps k).2) (p := nthR ps k) (by omega) h3 (hP.sm _ hm) ht.1 (Int.le_refl _)
      obtain ⟨t, ht0⟩ : ∃ t, t = timesS (nthR ps k) (greedyTo b ps k).2 := ⟨_, rfl⟩
      rw [← ht0] at ht tb
      have e1 : (greedyTo b ps (k + 1)).1 = (greedyTo b ps k).1 ++ [t] := by rw [greedyTo, ht0]
      have e2 : (greedyTo b ps (k + 1)).2 = plusS (greedyTo b ps k).2 (nthR ps k) (-t) := by rw [greedyTo, ht0]
      have na : ∀ i, i < k → nth ((greedyTo b ps k).1 ++ [t]) i = nth (greedyTo b ps k).1 i := fun i hi => by simp [nth, List.getElem?_append_left (show i < (greedyTo b ps k).1.length by omega)]
      have nk : nth ((greedyTo b ps k).1 ++ [t]) k = t := by
        have : nth ((greedyTo b ps k).1 ++ [t]) (greedyTo b ps k).1.length = t := by simp [nth]
        rwa [h1] at this
      have ue : ∀ j m, m ≤ k → usedTo ps ((greedyTo b ps k).1 ++ [t]) j m = usedTo ps (greedyTo b ps k).1 j m := by
        intro j m
        induction m with
        | zero => intro _; rfl
        | succ m ihm => intro hmk; rw [usedTo, usedTo, ihm (by omega), na m (by omega)]
      have ts : small (plusS (greedyTo b ps k).2 (nthR ps k) (-t)) := take_small (by omega) h3 (hP.sm _ hm) ht.1 (by rw [ht0]; exact Int.le_refl _)
      rw [e1, e2]
      refine ⟨by simp [h1], by rw [plusS_len]; exact h2, ts, fun i => ?_, fun j hj => ?_, fun i hi => ?_⟩
      · by_cases hi : i < k
        · rw [na i hi]; exact h4 i
        · by_cases hi2 : i = k
          · rw [hi2, nk]; exact ht.1
          · rw [nth_out (by simp; omega)]; exact Int.le_refl _
      · rw [(tb j (by omega)).1, h5 j hj, usedTo, ue j k (Nat.le_refl _), nk]; omega
      · by_cases hik : i < k
        · obtain ⟨j, hj, hlt⟩ := h6 i hik
          refine ⟨j, hj, ?_⟩
          have h7 := tb j (by omega)
          have h8 := Int.mul_nonneg ht.1 (hP.sm _ hm j (by omega)).1
          rw [h7.1]; omega
        · obtain rfl : i = k := by omega
          -- the count is the greatest that fits
          have hno : ¬ (∀ j, j < b.length → (t + 1) * nth (nthR ps i) j ≤ nth (greedyTo b ps i).2 j) := fun hall => by
            have := le_times hpl h2 h3 (hP.sm _ hm) (hP.ne _ hm) (n := t + 1) (by omega) hall
            rw [← ht0] at this; omega
          have hno2 : ∃ j, j < b.length ∧ nth (greedyTo b ps i).2 j < (t + 1) * nth (nthR ps i) j := by
            refine Classical.byContradiction fun hc => hno fun j hj => ?_
            refine Classical.byContradiction fun hc2 => hc ⟨j, hj, by omega⟩
          obtain ⟨j, hj, hlt⟩ := hno2
          refine ⟨j, hj, ?_⟩
          rw [(tb j (by omega)).1]
          rw [Int.add_mul, Int.one_mul] at hlt
          omega
  obtain ⟨h1, h2, h3, h4, h5, h6⟩ := inv ps.length (Nat.le_refl _)
  obtain ⟨k1, k2⟩ := mem_packs (maxP ps) ps b (greedyTo b ps ps.length).1 hP rfl hs
  have hu : ∀ j, j < b.length → usedTo ps (greedyTo b ps ps.length).1 j ps.length ≤ nth b j := fun j hj => by
    have := h3 j (by omega)
    rw [h5 j hj] at this; omega
  obtain ⟨r1, r2⟩ := k2 h1 h4 hu
  refine k1.2 ⟨h1, h4, hu, ?_⟩
  rw [maxP, fullS, allII, List.all_eq_true]
  intro p hp
  obtain ⟨i, hi, rfl⟩ := List.getElem_of_mem hp
  obtain ⟨j, hj, hlt⟩ := h6 i hi
  rw [nthR_lt hi] at hlt
  have := withinS_false (xs := ps[i]) (ys := restL ps b (greedyTo b ps ps.length).1) (k := j) (by rw [hP.len _ hp]; exact hj) (by rw [r1 j hj, ← h5 j hj]; exact hlt)
  simp [this]
end
end Go.Proofs.Ythlbogmnnenkoaa
