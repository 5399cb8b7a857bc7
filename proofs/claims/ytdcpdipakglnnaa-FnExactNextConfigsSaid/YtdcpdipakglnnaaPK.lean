/- Parts and counts: what the functions on packings compute; lists of lists that are looked through. -/
import Derived.Test.YtdcpdipakglnnaaJ
import Derived.Test.YtdcpdipakglnnaaK
import Derived.Test.YtdcpdipakglnnaaT
namespace Go.Proofs.Ytdcpdipakglnnaa
open Go.RowKit

/-- The first place where p holds, or -1. -/
def idxII (p : List Int → Bool) (xs : List (List Int)) : Int := match xs.findIdx? p with | some i => (i : Int) | none => -1
theorem idxII_at {p : List Int → Bool} {xs : List (List Int)} {k : Nat} (hk : k < xs.length) (h : ∀ j, j < k → p (nthR xs j) = false) (hp : p (nthR xs k) = true) : idxII p xs = k := by
  have : xs.findIdx? p = some k := by
    rw [List.findIdx?_eq_some_iff_getElem]
    refine ⟨hk, by simpa [nthR, hk] using hp, fun j hj => ?_⟩
    have := h j hj
    simpa [nthR, show j < xs.length by omega] using this
  simp [idxII, this]
theorem idxII_none {p : List Int → Bool} {xs : List (List Int)} (h : ∀ j, j < xs.length → p (nthR xs j) = false) : idxII p xs = -1 := by
  have : xs.findIdx? p = none := by
    rw [List.findIdx?_eq_none_iff]
    intro x hx
    obtain ⟨j, hj, rfl⟩ := List.getElem_of_mem hx
    simpa [nthR, hj] using h j hj
  simp [idxII, this]
def anyII (p : List Int → Bool) (xs : List (List Int)) : Bool := xs.any p
def allII (p : List Int → Bool) (xs : List (List Int)) : Bool := xs.all p
theorem idxII_any (p : List Int → Bool) (xs : List (List Int)) : decide (0 ≤ idxII p xs) = anyII p xs := by
  unfold idxII anyII
  cases h : xs.findIdx? p with
  | none =>
    have := List.findIdx?_eq_none_iff.1 h
    have h2 : xs.any p = false := by rw [List.any_eq_false]; intro x hx; simp [this x hx]
    simp [h2]
  | some i =>
    obtain ⟨hi, hp, _⟩ := List.findIdx?_eq_some_iff_getElem.1 h
    have h2 : xs.any p = true := List.any_eq_true.2 ⟨_, List.getElem_mem hi, hp⟩
    simp [h2]
theorem anyII_not (p : List Int → Bool) (xs : List (List Int)) : anyII (fun n => !p n) xs = !allII p xs := by
  simp [anyII, allII, List.all_eq_not_any_not]
theorem anyII_nn (p : List Int → Bool) (xs : List (List Int)) : (!anyII p xs) = allII (fun n => !p n) xs := by
  simp [anyII, allII, List.all_eq_not_any_not]
theorem allII_true {p : List Int → Bool} {xs : List (List Int)} (h : ∀ j, j < xs.length → p (nthR xs j) = true) : allII p xs = true := by
  rw [allII, List.all_eq_true]
  intro x hx
  obtain ⟨j, hj, rfl⟩ := List.getElem_of_mem hx
  simpa [nthR_lt hj] using h j hj
theorem allII_false {p : List Int → Bool} {xs : List (List Int)} {k : Nat} (hk : k < xs.length) (h : p (nthR xs k) = false) : allII p xs = false := by
  rw [allII, List.all_eq_false]
  exact ⟨_, List.getElem_mem hk, by simpa [nthR_lt hk] using h⟩
theorem allII_at {p : List Int → Bool} {xs : List (List Int)} (h : allII p xs = true) {k : Nat} (hk : k < xs.length) : p (nthR xs k) = true := by
  rw [allII, List.all_eq_true] at h
  rw [nthR_lt hk]; exact h _ (List.getElem_mem hk)

/-- A part is for so many kinds and has an object. -/
def fitPart (kinds : Int) (p : List Int) : Bool := ((p.length : Int) == kinds) && !(sumS p == 0)
/-- The code of parts for so many kinds. -/
def askS (kinds : Int) (ps : List (List Int)) : Int := if allII isBagS ps = true then (if ps.length ≤ 8 ∧ allII (fitPart kinds) ps = true then 0 else 2) else 1
def cntsOk (n : Nat) (cs : List Int) : Bool := allB cntOk cs && ((cs.length : Int) == n)
/-- The code of parts and counts. -/
def codeS (kinds : Int) (ps : List (List Int)) (cs : List Int) : Int := if askS kinds ps = 0 then (if cntsOk ps.length cs = true then 0 else 2) else askS kinds ps
theorem askS_ok {kinds : Int} {ps : List (List Int)} (h : askS kinds ps = 0) : allII isBagS ps = true ∧ ps.length ≤ 8 ∧ allII (fitPart kinds) ps = true := by
  unfold askS at h
  split at h
  · split at h
    · rename_i h1 h2; exact ⟨h1, h2.1, h2.2⟩
    · cases h
  · cases h
theorem askS_at {kinds : Int} {ps : List (List Int)} (h : askS kinds ps = 0) {k : Nat} (hk : k < ps.length) : isBagS (nthR ps k) = true ∧ ((nthR ps k).length : Int) = kinds ∧ ¬ sumS (nthR ps k) = 0 := by
  obtain ⟨h1, _, h3⟩ := askS_ok h
  have a := allII_at h1 hk
  have b := allII_at h3 hk
  simp [fitPart] at b
  exact ⟨a, b⟩
theorem codeS_ok {kinds : Int} {ps : List (List Int)} {cs : List Int} (h : codeS kinds ps cs = 0) : askS kinds ps = 0 ∧ cntsOk ps.length cs = true := by
  unfold codeS at h
  split at h
  · split at h
    · rename_i h1 h2; exact ⟨h1, h2⟩
    · cases h
  · rename_i h1; exact absurd h h1
theorem cntsOk_at {n : Nat} {cs : List Int} (h : cntsOk n cs = true) : cs.length = n ∧ ∀ k, k < cs.length → 0 ≤ nth cs k ∧ nth cs k ≤ 1000 := by
  simp only [cntsOk, Bool.and_eq_true] at h
  refine ⟨by have := h.2; simp at this; omega, fun k hk => ?_⟩
  have := allB_at h.1 hk
  simpa [cntOk, inRg] using this
/-- The sum of the first k parts, each as often as its count says. -/
def packTo (kinds : Nat) (ps : List (List Int)) (cs : List Int) (k : Nat) : List Int := (List.range k).foldl (fun out i => plusS out (nthR ps i) (nth cs i)) (List.replicate kinds 0)
theorem packTo_succ (kinds : Nat) (ps : List (List Int)) (cs : List Int) (k : Nat) : packTo kinds ps cs (k + 1) = plusS (packTo kinds ps cs k) (nthR ps k) (nth cs k) := by simp [packTo, List.range_succ]
theorem packTo_len (kinds : Nat) (ps : List (List Int)) (cs : List Int) : ∀ k, (packTo kinds ps cs k).length = kinds
  | 0 => by simp [packTo]
  | k + 1 => by rw [packTo_succ, plusS_len, packTo_len kinds ps cs k]
def packS (kinds : Nat) (ps : List (List Int)) (cs : List Int) : List Int := packTo kinds ps cs ps.length
theorem packS_len (kinds : Nat) (ps : List (List Int)) (cs : List Int) : (packS kinds ps cs).length = kinds := packTo_len _ _ _ _
def fullS (rest : List Int) (ps : List (List Int)) : Bool := allII (fun p => !withinS p rest) ps
def packedBagS (ps : List (List Int)) (cs : List Int) : List Int × Int :=
  if codeS (nthR ps 0).length ps cs = 0 then (if ps.length = 0 then ([], 4) else toldS (packS (nthR ps 0).length ps cs)) else ([], codeS (nthR ps 0).length ps cs)
theorem packedBagS_len (ps : List (List Int)) (cs : List Int) : (packedBagS ps cs).1.length ≤ (nthR ps 0).length := by
  unfold packedBagS
  split
  · split
    · simp
    · exact Nat.le_trans (toldS_len _) (by rw [packS_len]; exact Nat.le_refl _)
  · simp
def isPackingS (b : List Int) (ps : List (List Int)) (cs : List Int) : Bool × Int :=
  if isBagS b = true then (if codeS b.length ps cs = 0 then (withinS (packS b.length ps cs) b && fullS (plusS b (packS b.length ps cs) (-1)) ps, 0) else (false, codeS b.length ps cs)) else (false, 1)
end Go.Proofs.Ytdcpdipakglnnaa
