/- The greedy packing, all packings: what they are. No program is in sight but at the end. -/
import Derived.Test.YtdcpdipakglnnaaPS
namespace Go.Proofs.Ytdcpdipakglnnaa
open Go.RowKit

theorem timesTo_le {xs ys : List Int} : ∀ (k j : Nat), j < k → 0 < nth xs j → timesTo xs ys k ≤ nth ys j / nth xs j
  | 0, j, h, _ => absurd h (by omega)
  | k + 1, j, h, hp => by
    by_cases e : j = k
    · subst e
      rw [timesTo, if_pos hp]
      unfold minI; split <;> omega
    · have ih := timesTo_le (xs := xs) (ys := ys) k j (by omega) hp
      unfold timesTo
      split
      · unfold minI; split <;> omega
      · exact ih
/-- The numbers are those of a bag. -/
def small (xs : List Int) : Prop := ∀ j, j < xs.length → 0 ≤ nth xs j ∧ nth xs j ≤ 1000
theorem isBagS_small {xs : List Int} (h : isBagS xs = true) : small xs := fun _ hj => isBagS_at h hj
theorem take_bd {r p : List Int} (hl : p.length = r.length) (hr : small r) (hp : small p) {n : Int} (h0 : 0 ≤ n) (h1 : n ≤ timesS p r) :
    ∀ j, j < r.length → nth (plusS r p (-n)) j = nth r j - n * nth p j ∧ 0 ≤ nth r j - n * nth p j ∧ nth r j - n * nth p j ≤ 1000 := by
  intro j hj
  have hr' := hr j hj
  have hp' := hp j (by omega)
  have hm : 0 ≤ n * nth p j ∧ n * nth p j ≤ nth r j := by
    by_cases e : 0 < nth p j
    · have h2 : n ≤ nth r j / nth p j := Int.le_trans h1 (timesTo_le _ j (by omega) e)
      have h3 : n * nth p j ≤ nth r j / nth p j * nth p j := Int.mul_le_mul_of_nonneg_right h2 (by omega)
      have h4 := Int.ediv_mul_le (nth r j) (show nth p j ≠ 0 by omega)
      exact ⟨Int.mul_nonneg h0 hp'.1, by omega⟩
    · rw [show nth p j = 0 from by omega]; simp; exact hr'.1
  refine ⟨?_, by omega, by omega⟩
  rw [plusS, zipF_at hj, addW, Int.neg_mul]
  generalize n * nth p j = m at hm
  unfold wrap64
  omega
theorem take_small {r p : List Int} (hl : p.length = r.length) (hr : small r) (hp : small p) {n : Int} (h0 : 0 ≤ n) (h1 : n ≤ timesS p r) : small (plusS r p (-n)) := fun j hj => by
  rw [plusS_len] at hj
  have := take_bd hl hr hp h0 h1 j hj
  rw [this.1]; exact this.2
theorem timesS_bd {r p : List Int} (hl : p.length = r.length) (hr : small r) : 0 ≤ timesS p r ∧ timesS p r ≤ 1000 := timesTo_bd (fun j hj => hr j (by omega)) _ (Nat.le_refl _)
theorem best_times {p : List Int} (h : isBagS p = true) (h0 : ¬ sumS p = 0) (r : List Int) : bestTo p r p.length = timesS p r := by
  have := someTo_sum h
  rw [show (sumS p == 0) = false from by simpa using h0] at this
  have h2 : someTo p p.length = true := by simpa using this.symm
  rw [bestTo, if_pos h2]; rfl

/-- The first k counts of the greedy packing, and the rest. -/
def greedyTo (b : List Int) (ps : List (List Int)) : Nat → List Int × List Int
  | 0 => ([], b)
  | k + 1 => ((greedyTo b ps k).1 ++ [timesS (nthR ps k) (greedyTo b ps k).2], plusS (greedyTo b ps k).2 (nthR ps k) (-timesS (nthR ps k) (greedyTo b ps k).2))
theorem greedyTo_ok {b : List Int} {ps : List (List Int)} (hb : isBagS b = true) (ha : askS b.length ps = 0) : ∀ k, k ≤ ps.length → (greedyTo b ps k).1.length = k ∧ (greedyTo b ps k).2.length = b.length ∧ small (greedyTo b ps k).2
  | 0, _ => ⟨rfl, rfl, isBagS_small hb⟩
  | k + 1, hk => by
    obtain ⟨h1, h2, h3⟩ := greedyTo_ok hb ha k (by omega)
    obtain ⟨a1, a2, _⟩ := askS_at ha (show k < ps.length by omega)
    have hl : (nthR ps k).length = (greedyTo b ps k).2.length := by omega
    have ht := timesS_bd hl h3
    exact ⟨by simp [greedyTo, h1], by simp [greedyTo, plusS_len, h2], take_small hl h3 (isBagS_small a1) ht.1 (Int.le_refl _)⟩
def greedyS (b : List Int) (ps : List (List Int)) : List Int × Int := if asked b ps = 0 then ((greedyTo b ps ps.length).1, 0) else ([], asked b ps)
theorem asked_ok {b : List Int} {ps : List (List Int)} (h : asked b ps = 0) : isBagS b = true ∧ askS b.length ps = 0 := by
  unfold asked at h
  split at h
  · rename_i hA; exact ⟨hA, h⟩
  · cases h
theorem greedyS_len (b : List Int) (ps : List (List Int)) : (greedyS b ps).1.length ≤ 8 := by
  unfold greedyS
  split
  · rename_i h
    obtain ⟨h1, h2⟩ := asked_ok h
    have := (greedyTo_ok h1 h2 ps.length (Nat.le_refl _)).1
    have := (askS_ok h2).2.1
    simp only; omega
  · simp

/-- All counts of the parts for which what is left has a property. -/
def packs (P : List Int → Bool) : List (List Int) → List Int → List (List Int)
  | [], rest => if P rest = true then [[]] else []
  | p :: ps, rest => (List.range ((timesS p rest).toNat + 1)).flatMap fun (n : Nat) => (packs P ps (plusS rest p (-(n : Int)))).map ((n : Int) :: ·)
theorem packs_len (P : List Int → Bool) : ∀ (ps : List (List Int)) (rest x : List Int), x ∈ packs P ps rest → x.length = ps.length
  | [], rest, x, h => by
    unfold packs at h
    split at h
    · simp at h; subst h; rfl
    · cases h
  | p :: ps, rest, x, h => by
    simp only [packs, List.mem_flatMap, List.mem_map] at h
    obtain ⟨n, _, y, hy, rfl⟩ := h
    simp [packs_len P ps _ y hy]
def packsTo (P : List Int → Bool) (ps : List (List Int)) (p rest c : List Int) (j : Nat) : List (List Int) := (List.range j).flatMap fun (n : Nat) => (packs P ps (plusS rest p (-(n : Int)))).map fun y => c ++ (n : Int) :: y
theorem packsTo_succ (P : List Int → Bool) (ps : List (List Int)) (p rest c : List Int) (j : Nat) : packsTo P ps p rest c (j + 1) = packsTo P ps p rest c j ++ (packs P ps (plusS rest p (-(j : Int)))).map fun y => c ++ (j : Int) :: y := by simp [packsTo, List.range_succ]
theorem packsTo_full (P : List Int → Bool) (ps : List (List Int)) (p rest c : List Int) : packsTo P ps p rest c ((timesS p rest).toNat + 1) = (packs P (p :: ps) rest).map (c ++ ·) := by
  simp [packsTo, packs, List.map_flatMap, List.map_map, Function.comp_def]
theorem packsTo_split (P : List Int → Bool) (ps : List (List Int)) (p rest c : List Int) {j m : Nat} (h : j ≤ m) : ∃ tl, packsTo P ps p rest c m = packsTo P ps p rest c j ++ tl := by
  induction m with
  | zero => exact ⟨[], by rw [show j = 0 from by omega]; simp⟩
  | succ m ih =>
    by_cases e : j = m + 1
    · subst e; exact ⟨[], by simp⟩
    · obtain ⟨tl, e⟩ := ih (by omega)
      exact ⟨_, by rw [packsTo_succ, e, List.append_assoc]⟩
/-- The packings of a bag for whose rests something is so, and a code. -/
def packingsS (P : List (List Int) → List Int → Bool) (b : List Int) (ps : List (List Int)) : List (List Int) × Int :=
  if asked b ps = 0 then (if 16 < sumS b then ([], 3) else lim (packs (P ps) ps b)) else ([], asked b ps)
def maxP (ps : List (List Int)) (rest : List Int) : Bool := fullS rest ps
def exactP (_ps : List (List Int)) (rest : List Int) : Bool := sumS rest == 0
theorem packingsS_cnt (P : List (List Int) → List Int → Bool) (b : List Int) (ps : List (List Int)) : cnt (dII (packingsS P b ps).1) ≤ 16777216 := by
  unfold packingsS
  split
  · rename_i h
    split
    · simp [dII, cnt, cntL]
    · have := (askS_ok (asked_ok h).2).2.1
      exact lim_cnt (m := 8) (by omega) (fun x hx => by rw [packs_len _ _ _ x hx]; exact this)
  · simp [dII, cnt, cntL]
end Go.Proofs.Ytdcpdipakglnnaa
