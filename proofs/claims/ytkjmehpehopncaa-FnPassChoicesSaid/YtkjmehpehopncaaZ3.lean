/- Parts and counts: what the functions on packings compute; lists of lists that are looked through. -/
import Derived.Test.YtkjmehpehopncaaZ2
import Derived.Test.YtkjmehpehopncaaZ1
namespace Go.Proofs.Ytkjmehpehopncaa
open Go.RowKit

/-- The first place where p holds, or -1. -/
def idxII (p : List Int → Bool) (xs : List (List Int)) : Int := match xs.findIdx? p with | some i => (i : Int) | none => -1
theorem idxII_at {p : List Int → Bool} {xs : List (List Int)} {k : Nat} (hk : k < xs.length) (h : ∀ j, j < k → p (nthR xs j) = false) (hp : p (nthR xs k) = true) : idxII p xs = k := by
  have : xs.findIdx? p = some k := by
    rw [List.findIdx?_eq_some_iff_getElem]
    refine ⟨hk, by simpa [nthR, hk] using hp, fun j hj => ?_⟩
    have := h j hj
    simpa [nthR, show j < xs.length by omega] using this
  simp [idxII, this]
theorem idxII_none {p : List Int → Bool} {xs : List (List Int)} (h : ∀ j, j < xs.length → p (nthR xs j) = false) : idxII p xs = -1 := by
  have : xs.findIdx? p = none := by
    rw [List.findIdx?_eq_none_iff]
    intro x hx
    obtain ⟨j, hj, rfl⟩ := List.getElem_of_mem hx
    simpa [nthR, hj] using h j hj
  simp [idxII, this]
def anyII (p : List Int → Bool) (xs : List (List Int)) : Bool := xs.any p
def allII (p : List Int → Bool) (xs : List (List Int)) : Bool := xs.all p
theorem idxII_any (p : List Int → Bool) (xs : List (List Int)) : decide (0 ≤ idxII p xs) = anyII p xs := by
  unfold idxII anyII
  cases h : xs.findIdx? p with
  | none =>
    have := List.findIdx?_eq_none_iff.1 h
    have h2 : xs.any p = false := by rw [List.any_eq_false]; intro x hx; simp [this x hx]
    simp [h2]
  | some i =>
    obtain ⟨hi, hp, _⟩ := List.findIdx?_eq_some_iff_getElem.1 h
    have h2 : xs.any p = true := List.any_eq_true.2 ⟨_, List.getElem_mem hi, hp⟩
    simp [h2]
theorem anyII_not (p : List Int → Bool) (xs : List (List Int)) : anyII (fun n => !p n) xs = !allII p xs := by
  simp [anyII, allII, List.all_eq_not_any_not]
theorem anyII_nn (p : List Int → Bool) (xs : List (List Int)) : (!anyII p xs) = allII (fun n => !p n) xs := by
  simp [anyII, allII, List.all_eq_not_any_not]
theorem allII_true {p : List Int → Bool} {xs : List (List Int)} (h : ∀ j, j < xs.length → p (nthR xs j) = true) : allII p xs = true := by
  rw [allII, List.all_eq_true]
  intro x hx
  obtain ⟨j, hj, rfl⟩ := List.getElem_of_mem hx
  simpa [nthR_lt hj] using h j hj
theorem allII_false {p : List Int → Bool} {xs : List (List Int)} {k : Nat} (hk : k < xs.length) (h : p (nthR xs k) = false) : allII p xs = false := by
  rw [allII, List.all_eq_false]
  exact ⟨_, List.getElem_mem hk, by simpa [nthR_lt hk] using h⟩
theorem allII_at {p : List Int → Bool} {xs : List (List Int)} (h : allII p xs = true) {k : Nat} (hk : k < xs.length) : p (nthR xs k) = true := by
  rw [allII, List.all_eq_true] at h
  rw [nthR_lt hk]; exact h _ (List.getElem_mem hk)

/-- A part is for so many kinds and has an object. -/
def fitPart (kinds : Int) (p : List Int) : Bool := ((p.length : Int) == kinds) && !(sumS p == 0)
/-- The code of parts for so many kinds. -/
def askS (kinds : Int) (ps : List (List Int)) : Int := if allII isBagS ps = true then (if ps.length ≤ 8 ∧ allII (fitPart kinds) ps = true then 0 else 2) else 1
def cntsOk (n : Nat) (cs : List Int) : Bool := allB cntOk cs && ((cs.length : Int) == n)
/-- The code of parts and counts. -/
def codeS (kinds : Int) (ps : List (List Int)) (cs : List Int) : Int := if askS kinds ps = 0 then (if cntsOk ps.length cs = true then 0 else 2) else askS kinds ps
theorem askS_ok {kinds : Int} {ps : List (List Int)} (h : askS kinds ps = 0) : allII isBagS ps = true ∧ ps.length ≤ 8 ∧ allII (fitPart kinds) ps = true := by
  unfold askS at h
  split at h
  · split at h
    · rename_i h1 h2; exact ⟨h1, h2.1, h2.2⟩
    · cases h
  · cases h
theorem askS_at {kinds : Int} {ps : List (List Int)} (h : askS kinds ps = 0) {k : Nat} (hk : k < ps.length) : isBagS (nthR ps k) = true ∧ ((nthR ps k).length : Int) = kinds ∧ ¬ sumS (nthR ps k) = 0 := by
  obtain ⟨h1, _, h3⟩ := askS_ok h
  have a := allII_at h1 hk
  have b := allII_at h3 hk
  simp [fitPart] at b
  exact ⟨a, b⟩
theorem codeS_ok {kinds : Int} {ps : List (List Int)} {cs : List Int} (h : codeS kinds ps cs = 0) : askS kinds ps = 0 ∧ cntsOk ps.length cs = true := by
  unfold codeS at h
  split at h
  · split at h
    · rename_i h1 h2; exact ⟨h1, h2⟩
    · cases h
  · rename_i h1; exact absurd h h1
theorem cntsOk_at {n : Nat} {cs : List Int} (h : cntsOk n cs = true) : cs.length = n ∧ ∀ k, k < cs.length → 0 ≤ nth cs k ∧ nth cs k ≤ 1000 := by
  simp only [cntsOk, Bool.and_eq_true] at h
  refine ⟨by have := h.2; simp at this; omega, fun k hk => ?_⟩
  have := allB_at h.1 hk
  simpa [cntOk, inRg] using this
/-- The sum of the first k parts, each as often as its count says. -/
def packTo (kinds : Nat) (ps : List (List Int)) (cs : List Int) (k : Nat) : List Int := (List.range k).foldl (fun out i => plusS out (nthR ps i) (nth cs i)) (List.replicate kinds 0)
theorem packTo_succ (kinds : Nat) (ps : List (List Int)) (cs : List Int) (k : Nat) : packTo kinds ps cs (k + 1) = plusS (packTo kinds ps cs k) (nthR ps k) (nth cs k) := by simp [packTo, List.range_succ]
theorem packTo_len (kinds : Nat) (ps : List (List Int)) (cs : List Int) : ∀ k, (packTo kinds ps cs k).length = kinds
  | 0 => by simp [packTo]
  | k + 1 => by rw [packTo_succ, plusS_len, packTo_len kinds ps cs k]
def packS (kinds : Nat) (ps : List (List Int)) (cs : List Int) : List Int := packTo kinds ps cs ps.length
theorem packS_len (kinds : Nat) (ps : List (List Int)) (cs : List Int) : (packS kinds ps cs).length = kinds := packTo_len _ _ _ _
def fullS (rest : List Int) (ps : List (List Int)) : Bool := allII (fun p => !withinS p rest) ps
def packedBagS (ps : List (List Int)) (cs : List Int) : List Int × Int :=
  if codeS (nthR ps 0).length ps cs = 0 then (if ps.length = 0 then ([], 4) else toldS (packS (nthR ps 0).length ps cs)) else ([], codeS (nthR ps 0).length ps cs)
theorem packedBagS_len (ps : List (List Int)) (cs : List Int) : (packedBagS ps cs).1.length ≤ (nthR ps 0).length := by
  unfold packedBagS
  split
  · split
    · simp
    · exact Nat.le_trans (toldS_len _) (by rw [packS_len]; exact Nat.le_refl _)
  · simp
def isPackingS (b : List Int) (ps : List (List Int)) (cs : List Int) : Bool × Int :=
  if isBagS b = true then (if codeS b.length ps cs = 0 then (withinS (packS b.length ps cs) b && fullS (plusS b (packS b.length ps cs) (-1)) ps, 0) else (false, codeS b.length ps cs)) else (false, 1)

/- Parts, counts and packings: contracts. -/
set_option maxHeartbeats 400000 in
theorem indexFuncII_c (f : FuncId) (caps : Array Value) (p : List Int → Bool) (hcall : ∀ args w, (callFunc f args).run Try.prog w = .ok (.enter f args) w)
   (S : Nat → Prop) (a : Option Addr) (c : Nat) (xs : List (List Int)) (w : World) (hx : SlII S w a xs)
   (hf : Hid (∀ j, j < xs.length → ∀ a' c', SlI S w a' (nthR xs j) → Calls Try.prog f (#[.slice a' (nthR xs j).length c'] ++ caps) w (RetP w (.bool (p (nthR xs j)))))) :
    Calls Try.prog 60 #[.slice a xs.length c, .func (.func f) #[] caps] w (RetP w (.int .i64 (idxII p xs))) := by
  have l1 := hx.len
  unfold maxLen at l1
  have i1 := hx.ix tabII.under tabII.size c
  go_enter Try.func60, Try.ntmps60
  go_wp2
  go_loopw [5, 8] (fun _ i wr => ∃ k : Nat, k ≤ xs.length ∧ i = .int .i64 k ∧ w = wr ∧ (∀ j, j < k → p (nthR xs j) = false)) (fun _ i _ => xs.length - (intOf i).toNat)
  case atStart => exact ⟨0, Nat.zero_le _, rfl, rfl, by omega⟩
  case round =>
      obtain ⟨k, hk, rfl, rfl, hj⟩ := hrel
      have HJ := Lib.hid hj
      clear hj
      by_cases hlt : k < xs.length
      · obtain ⟨a', c', g1, hs⟩ := hx.cell k hlt
        have HC := Lib.hid (hf.out k hlt a' c' hs)
        go_wp2_with fail
        refine HC.out.mono ?_
        rintro e w' ⟨rfl, rfl⟩
        cases hp : p (nthR xs k)
        · have hp' := Lib.hid hp
          clear hp
          go_wp2
          go_roundw
          case rel => exact ⟨k + 1, by omega, by go_num, trivial, upto HJ.out hp'.out⟩
          case measure => simp [intOf]; omega
        · go_wp2
          go_ret
          exact ⟨ret_int (idxII_at hlt HJ.out hp).symm, rfl⟩
      · go_wp2
        go_ret
        have e : k = xs.length := by omega
        exact ⟨ret_int (idxII_none (e ▸ HJ.out)).symm, rfl⟩
theorem containsFuncII_c (f : FuncId) (caps : Array Value) (p : List Int → Bool) (hcall : ∀ args w, (callFunc f args).run Try.prog w = .ok (.enter f args) w)
   (S : Nat → Prop) (a : Option Addr) (c : Nat) (xs : List (List Int)) (w : World) (hx : SlII S w a xs)
   (hf : Hid (∀ j, j < xs.length → ∀ a' c', SlI S w a' (nthR xs j) → Calls Try.prog f (#[.slice a' (nthR xs j).length c'] ++ caps) w (RetP w (.bool (p (nthR xs j)))))) :
    Calls Try.prog 41 #[.slice a xs.length c, .func (.func f) #[] caps] w (RetP w (.bool (anyII p xs))) := by
  go_enter Try.func41, Try.ntmps41
  go_wp2_with fail
  refine (indexFuncII_c f caps p hcall S a c xs w hx hf).mono ?_
  rintro e w' ⟨rfl, rfl⟩
  go_wp2
  go_ret
  exact ⟨ret_bool (idxII_any p xs), rfl⟩
theorem codeS_bad {kinds : Int} {ps : List (List Int)} {cs : List Int} (h : allII isBagS ps = false) : codeS kinds ps cs = 1 := by simp [codeS, askS, h]
theorem codeS_two {kinds : Int} {ps : List (List Int)} {cs : List Int} (h : allII isBagS ps = true) (h2 : ¬ (ps.length ≤ 8 ∧ allII (fitPart kinds) ps = true ∧ cntsOk ps.length cs = true)) : codeS kinds ps cs = 2 := by
  unfold codeS askS
  simp only [h, if_true]
  by_cases h3 : ps.length ≤ 8 ∧ allII (fitPart kinds) ps = true
  · have h4 : ¬ cntsOk ps.length cs = true := fun e => h2 ⟨h3.1, h3.2, e⟩
    simp [h3, h4]
  · simp [h3]
theorem codeS_zero {kinds : Int} {ps : List (List Int)} {cs : List Int} (h : allII isBagS ps = true) (h1 : ps.length ≤ 8) (h2 : allII (fitPart kinds) ps = true) (h3 : cntsOk ps.length cs = true) : codeS kinds ps cs = 0 := by
  simp [codeS, askS, h, h1, h2, h3]
theorem cntsOk_true {n : Nat} {cs : List Int} (hl : cs.length = n) (h : ∀ j, j < n → cntOk (nth cs j) = true) : cntsOk n cs = true := by
  simp [cntsOk, allB_true (p := cntOk) (xs := cs) (by rw [hl]; exact h), hl]
theorem cntsOk_false {n : Nat} {cs : List Int} {k : Nat} (hk : k < cs.length) (h : cntOk (nth cs k) = false) : ¬ cntsOk n cs = true := by
  simp [cntsOk, allB_false hk h]
/-- The value holds the datum in blocks of its own that were not there in w. -/
def Kept (w wr : World) (d : D) (v : Value) : Prop := Below w.heap.size w wr ∧ ∃ F, Ow wr d v F ∧ F.Nodup ∧ ∀ g, g ∈ F → w.heap.size ≤ g
theorem Kept.next {w wr w' : World} {d : D} {v : Value} (hb : Below w.heap.size w wr) (h : RetD wr d (.returned v) w') : Kept w w' d v := by
  obtain ⟨u, F, e, h1, h2, h3, h4⟩ := h
  cases e
  exact ⟨bnext hb h1 (Nat.le_refl _), F, h2, h3, fun g hg => Nat.le_trans hb.size (h4 g hg)⟩
theorem Kept.ret {w wr : World} {d : D} {v : Value} (h : Kept w wr d v) : RetD w d (.returned v) wr := by
  obtain ⟨hb, F, h2, h3, h4⟩ := h
  exact ⟨v, F, rfl, hb, h2, h3, h4⟩
theorem Kept.below {w wr w' : World} {d : D} {v : Value} (h : Kept w wr d v) (hb : Below wr.heap.size wr w') : Kept w w' d v := by
  obtain ⟨hb0, F, h2, h3, h4⟩ := h
  exact ⟨bnext hb0 hb (Nat.le_refl _), F, h2.below hb, h3, h4⟩
theorem Kept.val {w wr : World} {xs : List Int} {v : Value} (h : Kept w wr (dI xs) v) : ∃ a c, v = .slice a xs.length c ∧ SlI Any wr a xs := by
  obtain ⟨_, F, h2, _, _⟩ := h
  obtain ⟨a, c, rfl⟩ := h2.val
  exact ⟨a, c, rfl, h2.arg⟩
theorem Kept.ofBld {E : Nat} {w w' : World} {v : Value} {xs : List Int} (h : Bld E w' w.heap.size v (xs.map (.int .i64))) (hl : xs.length ≤ maxLen) (hb : Below w.heap.size w w') : Kept w w' (dI xs) v := by
  obtain ⟨u, F, e, h1, h2, h3, h4⟩ := RetD.ofBld h hl hb
  cases e
  exact ⟨h1, F, h2, h3, h4⟩
/- Parts, counts and packings: the reference's functions. -/
theorem askS_bad {kinds : Int} {ps : List (List Int)} (h : allII isBagS ps = false) : askS kinds ps = 1 := by simp [askS, h]
theorem askS_two {kinds : Int} {ps : List (List Int)} (h : allII isBagS ps = true) (h2 : ¬ (ps.length ≤ 8 ∧ allII (fitPart kinds) ps = true)) : askS kinds ps = 2 := by
  unfold askS; rw [if_pos h, if_neg h2]
theorem askS_zero {kinds : Int} {ps : List (List Int)} (h : allII isBagS ps = true) (h1 : ps.length ≤ 8) (h2 : allII (fitPart kinds) ps = true) : askS kinds ps = 0 := by simp [askS, h, h1, h2]
/-- The code of a bag and parts. -/
def asked (xs : List Int) (ps : List (List Int)) : Int := if isBagS xs = true then askS xs.length ps else 1
/- The greedy packing, all packings: what they are. No program is in sight but at the end. -/
theorem timesTo_le {xs ys : List Int} : ∀ (k j : Nat), j < k → 0 < nth xs j → timesTo xs ys k ≤ nth ys j / nth xs j
  | 0, j, h, _ => absurd h (by omega)
  | k + 1, j, h, hp => by
    by_cases e : j = k
    · subst e
      rw [timesTo, if_pos hp]
      unfold minI; split <;> omega
    · have ih := timesTo_le (xs := xs) (ys := ys) k j (by omega) hp
      unfold timesTo
      split
      · unfold minI; split <;> omega
      · exact ih
/-- The numbers are those of a bag. -/
def small (xs : List Int) : Prop := ∀ j, j < xs.length → 0 ≤ nth xs j ∧ nth xs j ≤ 1000
theorem isBagS_small {xs : List Int} (h : isBagS xs = true) : small xs := fun _ hj => isBagS_at h hj
theorem take_bd {r p : List Int} (hl : p.length = r.length) (hr : small r) (hp : small p) {n : Int} (h0 : 0 ≤ n) (h1 : n ≤ timesS p r) :
    ∀ j, j < r.length → nth (plusS r p (-n)) j = nth r j - n * nth p j ∧ 0 ≤ nth r j - n * nth p j ∧ nth r j - n * nth p j ≤ 1000 := by
  intro j hj
  have hr' := hr j hj
  have hp' := hp j (by omega)
  have hm : 0 ≤ n * nth p j ∧ n * nth p j ≤ nth r j := by
    by_cases e : 0 < nth p j
    · have h2 : n ≤ nth r j / nth p j := Int.le_trans h1 (timesTo_le _ j (by omega) e)
      have h3 : n * nth p j ≤ nth r j / nth p j * nth p j := Int.mul_le_mul_of_nonneg_right h2 (by omega)
      have h4 := Int.ediv_mul_le (nth r j) (show nth p j ≠ 0 by omega)
      exact ⟨Int.mul_nonneg h0 hp'.1, by omega⟩
    · rw [show nth p j = 0 from by omega]; simp; exact hr'.1
  refine ⟨?_, by omega, by omega⟩
  rw [plusS, zipF_at hj, addW, Int.neg_mul]
  generalize n * nth p j = m at hm
  unfold wrap64
  omega
theorem take_small {r p : List Int} (hl : p.length = r.length) (hr : small r) (hp : small p) {n : Int} (h0 : 0 ≤ n) (h1 : n ≤ timesS p r) : small (plusS r p (-n)) := fun j hj => by
  rw [plusS_len] at hj
  have := take_bd hl hr hp h0 h1 j hj
  rw [this.1]; exact this.2
theorem timesS_bd {r p : List Int} (hl : p.length = r.length) (hr : small r) : 0 ≤ timesS p r ∧ timesS p r ≤ 1000 := timesTo_bd (fun j hj => hr j (by omega)) _ (Nat.le_refl _)
theorem best_times {p : List Int} (h : isBagS p = true) (h0 : ¬ sumS p = 0) (r : List Int) : bestTo p r p.length = timesS p r := by
  have := someTo_sum h
  rw [show (sumS p == 0) = false from by simpa using h0] at this
  have h2 : someTo p p.length = true := by simpa using this.symm
  rw [bestTo, if_pos h2]; rfl

/-- The first k counts of the greedy packing, and the rest. -/
def greedyTo (b : List Int) (ps : List (List Int)) : Nat → List Int × List Int
  | 0 => ([], b)
  | k + 1 => ((greedyTo b ps k).1 ++ [timesS (nthR ps k) (greedyTo b ps k).2], plusS (greedyTo b ps k).2 (nthR ps k) (-timesS (nthR ps k) (greedyTo b ps k).2))
theorem greedyTo_ok {b : List Int} {ps : List (List Int)} (hb : isBagS b = true) (ha : askS b.length ps = 0) : ∀ k, k ≤ ps.length → (greedyTo b ps k).1.length = k ∧ (greedyTo b ps k).2.length = b.length ∧ small (greedyTo b ps k).2
  | 0, _ => ⟨rfl, rfl, isBagS_small hb⟩
  | k + 1, hk => by
    obtain ⟨h1, h2, h3⟩ := greedyTo_ok hb ha k (by omega)
    obtain ⟨a1, a2, _⟩ := askS_at ha (show k < ps.length by omega)
    have hl : (nthR ps k).length = (greedyTo b ps k).2.length := by omega
    have ht := timesS_bd hl h3
    exact ⟨by simp [greedyTo, h1], by simp [greedyTo, plusS_len, h2], take_small hl h3 (isBagS_small a1) ht.1 (Int.le_refl _)⟩
def greedyS (b : List Int) (ps : List (List Int)) : List Int × Int := if asked b ps = 0 then ((greedyTo b ps ps.length).1, 0) else ([], asked b ps)
theorem asked_ok {b : List Int} {ps : List (List Int)} (h : asked b ps = 0) : isBagS b = true ∧ askS b.length ps = 0 := by
  unfold asked at h
  split at h
  · rename_i hA; exact ⟨hA, h⟩
  · cases h
theorem greedyS_len (b : List Int) (ps : List (List Int)) : (greedyS b ps).1.length ≤ 8 := by
  unfold greedyS
  split
  · rename_i h
    obtain ⟨h1, h2⟩ := asked_ok h
    have := (greedyTo_ok h1 h2 ps.length (Nat.le_refl _)).1
    have := (askS_ok h2).2.1
    simp only; omega
  · simp

/-- All counts of the parts for which what is left has a property. -/
def packs (P : List Int → Bool) : List (List Int) → List Int → List (List Int)
  | [], rest => if P rest = true then [[]] else []
  | p :: ps, rest => (List.range ((timesS p rest).toNat + 1)).flatMap fun (n : Nat) => (packs P ps (plusS rest p (-(n : Int)))).map ((n : Int) :: ·)
theorem packs_len (P : List Int → Bool) : ∀ (ps : List (List Int)) (rest x : List Int), x ∈ packs P ps rest → x.length = ps.length
  | [], rest, x, h => by
    unfold packs at h
    split at h
    · simp at h; subst h; rfl
    · cases h
  | p :: ps, rest, x, h => by
    simp only [packs, List.mem_flatMap, List.mem_map] at h
    obtain ⟨n, _, y, hy, rfl⟩ := h
    simp [packs_len P ps _ y hy]
def packsTo (P : List Int → Bool) (ps : List (List Int)) (p rest c : List Int) (j : Nat) : List (List Int) := (List.range j).flatMap fun (n : Nat) => (packs P ps (plusS rest p (-(n : Int)))).map fun y => c ++ (n : Int) :: y
theorem packsTo_succ (P : List Int → Bool) (ps : List (List Int)) (p rest c : List Int) (j : Nat) : packsTo P ps p rest c (j + 1) = packsTo P ps p rest c j ++ (packs P ps (plusS rest p (-(j : Int)))).map fun y => c ++ (j : Int) :: y := by simp [packsTo, List.range_succ]
theorem packsTo_full (P : List Int → Bool) (ps : List (List Int)) (p rest c : List Int) : packsTo P ps p rest c ((timesS p rest).toNat + 1) = (packs P (p :: ps) rest).map (c ++ ·) := by
  simp [packsTo, packs, List.map_flatMap, List.map_map, Function.comp_def]
theorem packsTo_split (P : List Int → Bool) (ps : List (List Int)) (p rest c : List Int) {j m : Nat} (h : j ≤ m) : ∃ tl, packsTo P ps p rest c m = packsTo P ps p rest c j ++ tl := by
  induction m with
  | zero => exact ⟨[], by rw [show j = 0 from by omega]; simp⟩
  | succ m ih =>
    by_cases e : j = m + 1
    · subst e; exact ⟨[], by simp⟩
    · obtain ⟨tl, e⟩ := ih (by omega)
      exact ⟨_, by rw [packsTo_succ, e, List.append_assoc]⟩
/-- The packings of a bag for whose rests something is so, and a code. -/
def packingsS (P : List (List Int) → List Int → Bool) (b : List Int) (ps : List (List Int)) : List (List Int) × Int :=
  if asked b ps = 0 then (if 16 < sumS b then ([], 3) else lim (packs (P ps) ps b)) else ([], asked b ps)
def maxP (ps : List (List Int)) (rest : List Int) : Bool := fullS rest ps
def exactP (_ps : List (List Int)) (rest : List Int) : Bool := sumS rest == 0
theorem packingsS_cnt (P : List (List Int) → List Int → Bool) (b : List Int) (ps : List (List Int)) : cnt (dII (packingsS P b ps).1) ≤ 16777216 := by
  unfold packingsS
  split
  · rename_i h
    split
    · simp [dII, cnt, cntL]
    · have := (askS_ok (asked_ok h).2).2.1
      exact lim_cnt (m := 8) (by omega) (fun x hx => by rw [packs_len _ _ _ x hx]; exact this)
  · simp [dII, cnt, cntL]
end Go.Proofs.Ytkjmehpehopncaa

/- The laws' functions on lists of lists of numbers: by shape. Written by tygen.py. -/
namespace Go.Proofs.Ytkjmehpehopncaa
open Go.RowKit
end Go.Proofs.Ytkjmehpehopncaa

/- The laws' functions on passing systems and stocks: by shape. Written by tygen.py. -/
namespace Go.Proofs.Ytkjmehpehopncaa
open Go.RowKit

theorem tabPassRuleSM : Tab Try.prog 26 68 (.agg #[.int .i64 0, .slice none 0 0, .slice none 0 0]) 3 56 := ⟨by kernel_rfl, by kernel_rfl⟩
end Go.Proofs.Ytkjmehpehopncaa

/- A region that draws its order and whose calls leave the old memory alone, whatever they make: one walk in the order of the text. No program is in sight. -/
namespace Go.Proofs.Ytkjmehpehopncaa
open Go.RowKit

/-- The worlds in which the old memory is as it was. -/
def Wd (w : World) : Type := { w' : World // Below w.heap.size w w' }
instance (w : World) : Nonempty (Wd w) := ⟨⟨w, Below.refl _ _⟩⟩
def wat {w : World} (x : Wd w) : World := x.1
theorem wat_below {w : World} (x : Wd w) : Below w.heap.size w (wat x) := x.2
theorem wp_quiet_wd {P : Program} {id : Nat} {Q : Exit → Act → World → Prop} {a : Act} {w : World} {l : List Oper} (hm : P.follows .mixedOrders = true) (hB : Region.lexB .any l.toArray = true)
    (h : wpQuiet P l.toArray (fun w' => ∃ x : Wd w, w' = wat x) (fun a' => ∀ w', (∃ x : Wd w, w' = wat x) → Q .normal a' w') l a) : (Code.region id l.toArray true).wp P Q a w :=
  wp_region_quiet (C := fun w' => ∃ x : Wd w, w' = wat x) hm hB ⟨⟨{ w with drawn := w.drawn + 1 }, (Below.refl _ w).drew⟩, rfl⟩ (by simpa using h)
theorem wat_cell {w : World} {p : Addr} {v : Value} (h : w.cell? p = some v) : ∀ x : Wd w, (wat x).cell? p = some v := fun x => (x.2.cell (World.block_lt_of_cell? w _ h)).trans h
theorem wdV {P : Program} {f : FuncId} {args : Array Value} {w : World} {x : Wd w} {v : Value} (h : Calls P f args (wat x) (RetV (wat x) v)) : Calls P f args (wat x) fun e w'' => e = .returned v ∧ ∃ y : Wd w, w'' = wat y :=
  h.mono fun _ w'' ⟨he, hb⟩ => ⟨he, ⟨w'', bnext x.2 hb (Nat.le_refl _)⟩, rfl⟩
theorem callsP {P : Program} {f : FuncId} {args : Array Value} {w : World} {v : Value} (h : Calls P f args w (RetP w v)) : Calls P f args w (RetV w v) := h.mono fun _ _ h => h.v
theorem callsQ {P : Program} {f : FuncId} {args : Array Value} {w : World} {v : Value} (h : Calls P f args w (RetQ w v)) : Calls P f args w (RetV w v) := h.mono fun _ _ h => h.v
end Go.Proofs.Ytkjmehpehopncaa

/- Valid passing systems, valid stocks: what they are. No program is in sight. -/
namespace Go.Proofs.Ytkjmehpehopncaa
open Go.RowKit

/-- An object of a kind that is not free. -/
def bound1 (free : List Bool) (xs : List Int) (k : Nat) : Bool := decide (0 < nth xs k) && !nthB free k
def hasBoundS (free : List Bool) (xs : List Int) : Bool := (List.range xs.length).any (bound1 free xs)
theorem hasBoundS_true {free : List Bool} {xs : List Int} {k : Nat} (hk : k < xs.length) (h : bound1 free xs k = true) : hasBoundS free xs = true := by
  rw [hasBoundS, List.any_eq_true]; exact ⟨k, by simpa using hk, h⟩
theorem hasBoundS_false {free : List Bool} {xs : List Int} (h : ∀ j, j < xs.length → bound1 free xs j = false) : hasBoundS free xs = false := by
  rw [hasBoundS, List.any_eq_false]; intro j hj; rw [h j (by simpa using hj)]; simp
/-- A rule is right. -/
def ruleOk (kinds : Int) (n : Nat) (free : List Bool) (r : PR) : Bool :=
  inRg r.cell 0 ((n : Int) - 1) && validBagS kinds r.out && validBagS kinds r.inn && !(sumS r.out + sumS r.inn == 0) && (decide (0 < r.cell) || decide (0 < sumS r.out) || hasBoundS free r.inn)
def allPR (p : PR → Bool) (rs : List PR) : Bool := (List.range rs.length).all fun i => p (nthPR rs i)
theorem allPR_true {p : PR → Bool} {rs : List PR} (h : ∀ j, j < rs.length → p (nthPR rs j) = true) : allPR p rs = true := by
  rw [allPR, List.all_eq_true]; intro j hj; exact h j (by simpa using hj)
theorem allPR_false {p : PR → Bool} {rs : List PR} {k : Nat} (hk : k < rs.length) (h : p (nthPR rs k) = false) : allPR p rs = false := by
  rw [allPR, List.all_eq_false]; exact ⟨k, by simpa using hk, by rw [h]; simp⟩
theorem allPR_at {p : PR → Bool} {rs : List PR} (h : allPR p rs = true) {k : Nat} (hk : k < rs.length) : p (nthPR rs k) = true := by
  rw [allPR, List.all_eq_true] at h; exact h k (by simpa using hk)
/-- The parent of cell i + 1 comes before it. -/
def parOk (xs : List Int) (i : Nat) : Bool := inRg (nth xs (i + 1)) 0 i
def parsOk (xs : List Int) : Bool := (List.range (xs.length - 1)).all (parOk xs)
theorem parsOk_true {xs : List Int} (h : ∀ j, j + 1 < xs.length → parOk xs j = true) : parsOk xs = true := by
  rw [parsOk, List.all_eq_true]; intro j hj; exact h j (by simp at hj; omega)
theorem parsOk_false {xs : List Int} {k : Nat} (hk : k + 1 < xs.length) (h : parOk xs k = false) : parsOk xs = false := by
  rw [parsOk, List.all_eq_false]; exact ⟨k, by simp; omega, by rw [h]; simp⟩
theorem parsOk_at {xs : List Int} (h : parsOk xs = true) {k : Nat} (hk : k + 1 < xs.length) : parOk xs k = true := by
  rw [parsOk, List.all_eq_true] at h; exact h k (by simp; omega)
/-- What is looked at first. -/
def passHead (x0 : Int) (x1 : List Int) (x2 : List Bool) (x3 : List PR) : Bool := inRg x0 1 8 && inRg x1.length 1 4 && (nth x1 0 == -1) && ((x2.length : Int) == x0) && decide (x3.length ≤ 8)
def okPass (x0 : Int) (x1 : List Int) (x2 : List Bool) (x3 : List PR) : Bool := passHead x0 x1 x2 x3 && parsOk x1 && allPR (ruleOk x0 x1.length x2) x3
/-- An object of a free kind. -/
def free1 (free : List Bool) (xs : List Int) (k : Nat) : Bool := decide (0 < nth xs k) && nthB free k
def noFreeS (free : List Bool) (xs : List Int) : Bool := (List.range xs.length).all fun k => !free1 free xs k
theorem noFreeS_true {free : List Bool} {xs : List Int} (h : ∀ j, j < xs.length → free1 free xs j = false) : noFreeS free xs = true := by
  rw [noFreeS, List.all_eq_true]; intro j hj; rw [h j (by simpa using hj)]; rfl
theorem noFreeS_false {free : List Bool} {xs : List Int} {k : Nat} (hk : k < xs.length) (h : free1 free xs k = true) : noFreeS free xs = false := by
  rw [noFreeS, List.all_eq_false]; exact ⟨k, by simpa using hk, by rw [h]; simp⟩
/-- A stock is right for a passing system. -/
def okStock (x0 : Int) (n : Nat) (x2 : List Bool) (cells : List (List Int)) (around : List Int) : Bool := decide (cells.length = n) && validBagS x0 around && noFreeS x2 around && allII (validBagS x0) cells
theorem passHead_ok {x0 : Int} {x1 : List Int} {x2 : List Bool} {x3 : List PR} (h : passHead x0 x1 x2 x3 = true) : 1 ≤ x0 ∧ x0 ≤ 8 ∧ 1 ≤ x1.length ∧ x1.length ≤ 4 ∧ nth x1 0 = -1 ∧ (x2.length : Int) = x0 ∧ x3.length ≤ 8 := by
  simp [passHead, inRg] at h; omega
theorem validBagS_ok {k : Int} {xs : List Int} (h : validBagS k xs = true) : isBagS xs = true ∧ (xs.length : Int) = k := by
  simp [validBagS] at h; exact h

/- Valid passing systems: the program's functions. -/
theorem sumTo_bd {xs : List Int} (h : small xs) : ∀ k, k ≤ xs.length → k ≤ 8 → 0 ≤ sumTo xs k ∧ sumTo xs k ≤ 1000 * k
  | 0, _, _ => by simp [sumTo]
  | k + 1, hk, h8 => by
    have ih := sumTo_bd h k (by omega) (by omega)
    have hx := h k (by omega)
    rw [sumTo, wrap64]; omega
theorem sumS_bd {xs : List Int} (h : isBagS xs = true) : 0 ≤ sumS xs ∧ sumS xs ≤ 8000 := by
  have h8 := isBagS_len h
  have := sumTo_bd (isBagS_small h) xs.length (Nat.le_refl _) h8.2
  unfold sumS; omega
theorem size_bool_c (a : Option Addr) (n c : Nat) (w : World) (_hn : n ≤ maxLen) : Calls Try.prog 69 #[.slice a n c] w (RetP w (.int .i64 n)) := by
  unfold maxLen at _hn
  go_enter Try.func69, Try.ntmps69
  go_wp2
  go_ret
  exact ⟨rfl, rfl⟩
set_option maxHeartbeats 800000 in
theorem hasBound_c (x0 : Int) (v1 v3 : Value) (af ab : Option Addr) (cf cb : Nat) (free : List Bool) (xs : List Int) (w : World) (hf : SlB Any w af free) (hx : SlI Any w ab xs) (hl : xs.length ≤ free.length) :
    Calls Try.prog 73 #[.agg #[.int .i64 x0, v1, .slice af free.length cf, v3], .slice ab xs.length cb] w (RetV w (.bool (hasBoundS free xs))) := by
  have l1 := hx.len
  have l2 := hf.len
  unfold maxLen at l1 l2
  have i1 := hx.ix tabI.under tabI.size cb
  have i2 := hf.ix tabB.under tabB.size cf
  have HX := Lib.hid (hx.below (below_alloc w (.cells #[.int .i64 x0, v1, .slice af free.length cf, v3] 28)))
  have HF := Lib.hid (hf.below (below_alloc w (.cells #[.int .i64 x0, v1, .slice af free.length cf, v3] 28)))
  clear hx hf
  go_enter Try.func73, Try.ntmps73
  go_wp2
  go_loopw [5, 6, 9] (fun _ _ i wr => ∃ k : Nat, k ≤ xs.length ∧ i = .int .i64 k ∧ wr = w.alloc (.cells #[.int .i64 x0, v1, .slice af free.length cf, v3] 28) ∧ (∀ j, j < k → bound1 free xs j = false)) (fun _ _ i _ => xs.length - (intOf i).toNat)
  case atStart => exact ⟨0, Nat.zero_le _, rfl, rfl, by omega⟩
  case round =>
    obtain ⟨k, hk, rfl, rfl, hj⟩ := hrel
    have HJ := Lib.hid hj
    clear hj
    by_cases hlt : k < xs.length
    · have k2 : (k : Int) < free.length := by omega
      have g1 := HX.out.cell k hlt
      have g2 := HF.out.cell k (by omega)
      by_cases h0 : 0 < nth xs k
      · cases hb : nthB free k
        · have HR := Lib.hid (hasBoundS_true (free := free) hlt (by simp [bound1, h0, hb]))
          rw [hb] at g2
          clear hb
          go_wp2
          go_ret
          exact ⟨ret_bool HR.out.symm, below_alloc _ _⟩
        · have HR : Hid (bound1 free xs k = false) := Lib.hid (by simp [bound1, hb])
          rw [hb] at g2
          clear hb
          go_wp2
          go_roundw
          case rel => exact ⟨k + 1, by omega, by go_num, trivial, upto HJ.out HR.out⟩
          case measure => simp [intOf]; omega
      · have HR : Hid (bound1 free xs k = false) := Lib.hid (by simp [bound1, h0])
        go_wp2
        go_roundw
        case rel => exact ⟨k + 1, by omega, by go_num, trivial, upto HJ.out HR.out⟩
        case measure => simp [intOf]; omega
    · have e : k = xs.length := by omega
      have HR := Lib.hid (hasBoundS_false (free := free) (xs := xs) (e ▸ HJ.out))
      go_wp2
      go_ret
      exact ⟨ret_bool HR.out.symm, below_alloc _ _⟩
set_option maxHeartbeats 4000000 in
theorem validPassing1_c (x0 : Int) (np nr : Nat) (free : List Bool) (r : PR) (a1 a2 ap af ar : Option Addr) (c1 c2 cp cf cr : Nat) (p : Nat) (w : World) (h1 : SlI Any w a1 r.out) (h2 : SlI Any w a2 r.inn) (hf : SlB Any w af free)
    (hp0 : w.cell? ⟨p, 0, none⟩ = some (.int .i64 x0)) (hp1 : w.cell? ⟨p, 1, none⟩ = some (.slice ap np cp)) (hp2 : w.cell? ⟨p, 2, none⟩ = some (.slice af free.length cf)) (hp3 : w.cell? ⟨p, 3, none⟩ = some (.slice ar nr cr)) (hnp : np ≤ 4) (hfl : (free.length : Int) = x0) :
    Calls Try.prog 71 #[.agg #[.int .i64 r.cell, .slice a1 r.out.length c1, .slice a2 r.inn.length c2], .pointer (some ⟨p, 0, none⟩)] w (RetV w (.bool (!ruleOk x0 np free r))) := by
  have hpl : p < w.heap.size := World.block_lt_of_cell? w _ hp0
  have hb0 := below_alloc w (.cells #[.int .i64 r.cell, .slice a1 r.out.length c1, .slice a2 r.inn.length c2] 68)
  have hb : ∀ x : Wd (w.alloc (.cells #[.int .i64 r.cell, .slice a1 r.out.length c1, .slice a2 r.inn.length c2] 68)), Below w.heap.size w (wat x) := fun x => hb0.trans ((wat_below x).mono (by simp))
  have HS := Lib.hid (fun x : Wd (w.alloc (.cells #[.int .i64 r.cell, .slice a1 r.out.length c1, .slice a2 r.inn.length c2] 68)) => callsP (size_int_c ap np cp (wat x) (by unfold maxLen; omega)))
  have HI := Lib.hid (fun x : Wd (w.alloc (.cells #[.int .i64 r.cell, .slice a1 r.out.length c1, .slice a2 r.inn.length c2] 68)) => callsP (inRange_c r.cell 0 ((np : Int) - 1) (wat x)))
  have HV1 := Lib.hid (fun x : Wd (w.alloc (.cells #[.int .i64 r.cell, .slice a1 r.out.length c1, .slice a2 r.inn.length c2] 68)) => callsP (validBag_c x0 Any a1 c1 r.out _ (h1.below (hb x))))
  have HV2 := Lib.hid (fun x : Wd (w.alloc (.cells #[.int .i64 r.cell, .slice a1 r.out.length c1, .slice a2 r.inn.length c2] 68)) => callsP (validBag_c x0 Any a2 c2 r.inn _ (h2.below (hb x))))
  have HB1 := Lib.hid (fun x : Wd (w.alloc (.cells #[.int .i64 r.cell, .slice a1 r.out.length c1, .slice a2 r.inn.length c2] 68)) => callsP (bagSize_c Any a1 c1 r.out _ (h1.below (hb x))))
  have HB2 := Lib.hid (fun x : Wd (w.alloc (.cells #[.int .i64 r.cell, .slice a1 r.out.length c1, .slice a2 r.inn.length c2] 68)) => callsP (bagSize_c Any a2 c2 r.inn _ (h2.below (hb x))))
  have hwn : IntKind.i64.wrap ((np : Int) - 1) = (np : Int) - 1 := by rw [IntKind.wrap_i64]; omega
  have r0 := wat_cell (show (w.alloc (.cells #[.int .i64 r.cell, .slice a1 r.out.length c1, .slice a2 r.inn.length c2] 68)).cell? ⟨w.heap.size, 0, none⟩ = some (.int .i64 r.cell) by simp [go_sem])
  have r1 := wat_cell (show (w.alloc (.cells #[.int .i64 r.cell, .slice a1 r.out.length c1, .slice a2 r.inn.length c2] 68)).cell? ⟨w.heap.size, 1, none⟩ = some (.slice a1 r.out.length c1) by simp [go_sem])
  have r2 := wat_cell (show (w.alloc (.cells #[.int .i64 r.cell, .slice a1 r.out.length c1, .slice a2 r.inn.length c2] 68)).cell? ⟨w.heap.size, 2, none⟩ = some (.slice a2 r.inn.length c2) by simp [go_sem])
  have q0 := wat_cell (show (w.alloc (.cells #[.int .i64 r.cell, .slice a1 r.out.length c1, .slice a2 r.inn.length c2] 68)).cell? ⟨p, 0, none⟩ = _ from (bcell1 hb0 hpl).trans hp0)
  have q1 := wat_cell (show (w.alloc (.cells #[.int .i64 r.cell, .slice a1 r.out.length c1, .slice a2 r.inn.length c2] 68)).cell? ⟨p, 1, none⟩ = _ from (bcell1 hb0 hpl).trans hp1)
  have q2 := wat_cell (show (w.alloc (.cells #[.int .i64 r.cell, .slice a1 r.out.length c1, .slice a2 r.inn.length c2] 68)).cell? ⟨p, 2, none⟩ = _ from (bcell1 hb0 hpl).trans hp2)
  have q3 := wat_cell (show (w.alloc (.cells #[.int .i64 r.cell, .slice a1 r.out.length c1, .slice a2 r.inn.length c2] 68)).cell? ⟨p, 3, none⟩ = _ from (bcell1 hb0 hpl).trans hp3)
  have HB := Lib.hid hb
  have H2 := Lib.hid h2
  have HF := Lib.hid hf
  have HFL := Lib.hid hfl
  have HH : True := trivial
  clear hb hb0 h1 h2 hf hfl hp0 hp1 hp2 hp3
  cases b1 : inRg r.cell 0 ((np : Int) - 1)
  · have e : ruleOk x0 np free r = false := by simp [ruleOk, b1]
    rw [e]
    rw [b1] at HI
    clear e b1
    go_enter Try.func71, Try.ntmps71
    go_wp2
    refine wp_quiet_wd (by kernel_rfl) (by kernel_rfl) ?_
    repeat (go_big_quiet_step (first | with_reducible exact wdV (HS.out _) | with_reducible exact wdV (HI.out _) | with_reducible exact wdV (HV1.out _) | with_reducible exact wdV (HV2.out _) | with_reducible exact wdV (HB1.out _) | with_reducible exact wdV (HB2.out _) | with_reducible exact wdV (HH.out _)))
    refine wpQuiet_nil ?_
    rintro _ ⟨wq, rfl⟩
    go_wp2
    go_ret
    exact ⟨rfl, HB.out _⟩
  · rw [b1] at HI
    cases b2 : validBagS x0 r.out
    · have e : ruleOk x0 np free r = false := by simp [ruleOk, b2]
      rw [e]
      rw [b2] at HV1
      clear e b1 b2
      go_enter Try.func71, Try.ntmps71
      go_wp2
      refine wp_quiet_wd (by kernel_rfl) (by kernel_rfl) ?_
      repeat (go_big_quiet_step (first | with_reducible exact wdV (HS.out _) | with_reducible exact wdV (HI.out _) | with_reducible exact wdV (HV1.out _) | with_reducible exact wdV (HV2.out _) | with_reducible exact wdV (HB1.out _) | with_reducible exact wdV (HB2.out _) | with_reducible exact wdV (HH.out _)))
      refine wpQuiet_nil ?_
      rintro _ ⟨wq, rfl⟩
      go_wp2
      go_ret
      exact ⟨rfl, HB.out _⟩
    · rw [b2] at HV1
      cases b3 : validBagS x0 r.inn
      · have e : ruleOk x0 np free r = false := by simp [ruleOk, b3]
        rw [e]
        rw [b3] at HV2
        clear e b1 b2 b3
        go_enter Try.func71, Try.ntmps71
        go_wp2
        refine wp_quiet_wd (by kernel_rfl) (by kernel_rfl) ?_
        repeat (go_big_quiet_step (first | with_reducible exact wdV (HS.out _) | with_reducible exact wdV (HI.out _) | with_reducible exact wdV (HV1.out _) | with_reducible exact wdV (HV2.out _) | with_reducible exact wdV (HB1.out _) | with_reducible exact wdV (HB2.out _) | with_reducible exact wdV (HH.out _)))
        refine wpQuiet_nil ?_
        rintro _ ⟨wq, rfl⟩
        go_wp2
        go_ret
        exact ⟨rfl, HB.out _⟩
      · rw [b3] at HV2
        have s1 := sumS_bd (validBagS_ok b2).1
        have s2 := sumS_bd (validBagS_ok b3).1
        have HLI := Lib.hid (validBagS_ok b3).2
        have hws : IntKind.i64.wrap (sumS r.out + sumS r.inn) = sumS r.out + sumS r.inn := by rw [IntKind.wrap_i64]; omega
        cases b4 : (sumS r.out + sumS r.inn == 0)
        · cases b5 : (r.cell == 0)
          · have e : ruleOk x0 np free r = true := by
              have hc : 0 < r.cell := by simp [inRg] at b1 b5; omega
              simp only [ruleOk, b1, b2, b3, b4, hc, decide_true, Bool.true_or, Bool.not_false, Bool.and_self]
            rw [e]
            clear e b1 b2 b3
            go_enter Try.func71, Try.ntmps71
            go_wp2
            refine wp_quiet_wd (by kernel_rfl) (by kernel_rfl) ?_
            repeat (go_big_quiet_step (first | with_reducible exact wdV (HS.out _) | with_reducible exact wdV (HI.out _) | with_reducible exact wdV (HV1.out _) | with_reducible exact wdV (HV2.out _) | with_reducible exact wdV (HB1.out _) | with_reducible exact wdV (HB2.out _) | with_reducible exact wdV (HH.out _)))
            refine wpQuiet_nil ?_
            rintro _ ⟨wq, rfl⟩
            go_wp2
            go_ret
            exact ⟨rfl, HB.out _⟩
          · cases b6 : (sumS r.out == 0)
            · have e : ruleOk x0 np free r = true := by
                have hc : 0 < sumS r.out := by simp at b6; omega
                simp only [ruleOk, b1, b2, b3, b4, hc, decide_true, Bool.true_or, Bool.or_true, Bool.not_false, Bool.and_self]
              rw [e]
              clear e b1 b2 b3
              go_enter Try.func71, Try.ntmps71
              go_wp2
              refine wp_quiet_wd (by kernel_rfl) (by kernel_rfl) ?_
              repeat (go_big_quiet_step (first | with_reducible exact wdV (HS.out _) | with_reducible exact wdV (HI.out _) | with_reducible exact wdV (HV1.out _) | with_reducible exact wdV (HV2.out _) | with_reducible exact wdV (HB1.out _) | with_reducible exact wdV (HB2.out _) | with_reducible exact wdV (HH.out _)))
              refine wpQuiet_nil ?_
              rintro _ ⟨wq, rfl⟩
              go_wp2
              go_ret
              exact ⟨rfl, HB.out _⟩
            · have e : ruleOk x0 np free r = hasBoundS free r.inn := by
                have hc : ¬ 0 < r.cell := by simp at b5; omega
                have hc2 : ¬ 0 < sumS r.out := by simp at b6; omega
                simp only [ruleOk, b1, b2, b3, b4, hc, hc2, decide_false, Bool.false_or, Bool.not_false, Bool.and_self, Bool.true_and]
              rw [e]
              have HH := Lib.hid (fun x : Wd (w.alloc (.cells #[.int .i64 r.cell, .slice a1 r.out.length c1, .slice a2 r.inn.length c2] 68)) => hasBound_c x0 (.slice ap np cp) (.slice ar nr cr) af a2 cf c2 free r.inn (wat x) (HF.out.below (HB.out x)) (H2.out.below (HB.out x)) (by have := HFL.out; have := HLI.out; omega))
              clear e b1 b2 b3
              go_enter Try.func71, Try.ntmps71
              go_wp2
              refine wp_quiet_wd (by kernel_rfl) (by kernel_rfl) ?_
              repeat (go_big_quiet_step (first | with_reducible exact wdV (HS.out _) | with_reducible exact wdV (HI.out _) | with_reducible exact wdV (HV1.out _) | with_reducible exact wdV (HV2.out _) | with_reducible exact wdV (HB1.out _) | with_reducible exact wdV (HB2.out _) | with_reducible exact wdV (HH.out _)))
              refine wpQuiet_nil ?_
              rintro _ ⟨wq, rfl⟩
              go_wp2
              go_ret
              exact ⟨rfl, HB.out _⟩
        · have e : ruleOk x0 np free r = false := by simp only [ruleOk, b4, Bool.not_true, Bool.and_false, Bool.false_and]
          rw [e]
          clear e b1 b2 b3
          go_enter Try.func71, Try.ntmps71
          go_wp2
          refine wp_quiet_wd (by kernel_rfl) (by kernel_rfl) ?_
          repeat (go_big_quiet_step (first | with_reducible exact wdV (HS.out _) | with_reducible exact wdV (HI.out _) | with_reducible exact wdV (HV1.out _) | with_reducible exact wdV (HV2.out _) | with_reducible exact wdV (HB1.out _) | with_reducible exact wdV (HB2.out _) | with_reducible exact wdV (HH.out _)))
          refine wpQuiet_nil ?_
          rintro _ ⟨wq, rfl⟩
          go_wp2
          go_ret
          exact ⟨rfl, HB.out _⟩

/- Valid passing systems: the program's function. -/
theorem slice_from {P : Program} {T E : Nat} (hT : P.underlying T = some (.slice E)) (hE : (P.info? E).map (·.size) = some 1) (g o n N c : Nat) (hn : n = N + 1) (w' : World) :
    (Instr.slice T (.slice (some ⟨g, o, none⟩) n c) (some (.int .i64 1)) none none).run P w' = .ok (.slice (some ⟨g, if c = 1 then o else o + 1, none⟩) N (c - 1)) w' := by
  have hE' : ∃ info, P.info? E = some info ∧ info.size = 1 := by
    cases hh : P.info? E with
    | none => simp [hh] at hE
    | some info => exact ⟨info, rfl, by simpa [hh] using hE⟩
  obtain ⟨info, hi, hs⟩ := hE'
  subst hn
  have hn1 : ¬ ((N : Int) + 1 < 1) := by omega
  by_cases hc : c = 1
  · simp [hn1, Instr.slice, Instr.sliceBounds, Instr.sliceBound, run_underlying hT, asIntOf, sizeOf, typeInfo, hi, hs, hc]
  · simp [hn1, Instr.slice, Instr.sliceBounds, Instr.sliceBound, run_underlying hT, asIntOf, sizeOf, typeInfo, hi, hs, hc, Addr.add_lit]
theorem Ow.capI {w : World} {xs : List Int} {v : Value} {F : List Nat} (h : Ow w (dI xs) v F) : ∃ a c, v = .slice a xs.length c ∧ xs.length ≤ c ∧ SlI Any w a xs := by
  obtain ⟨a, c, rfl, hc, _⟩ := Ow_I.1 h
  exact ⟨a, c, rfl, hc, h.arg⟩
set_option maxHeartbeats 1000000 in
theorem indexFuncPR_c (f : FuncId) (caps : Array Value) (p : PR → Bool) (hcall : ∀ args w, (callFunc f args).run Try.prog w = .ok (.enter f args) w) (xs : List PR) (u : Value) (w : World) (hx : Rd Any w (dPR xs) u)
    (hf : Hid (∀ wx, Below w.heap.size w wx → ∀ j, j < xs.length → ∀ a1 c1 a2 c2, SlI Any wx a1 (nthPR xs j).out → SlI Any wx a2 (nthPR xs j).inn → Calls Try.prog f (#[.agg #[.int .i64 (nthPR xs j).cell, .slice a1 (nthPR xs j).out.length c1, .slice a2 (nthPR xs j).inn.length c2]] ++ caps) wx (RetV wx (.bool (p (nthPR xs j)))))) :
    Calls Try.prog 79 #[u, .func (.func f) #[] caps] w (fun e w' => ∃ i : Int, e = .returned (.int .i64 i) ∧ Below w.heap.size w w' ∧ decide (0 ≤ i) = !allPR (fun r => !p r) xs) := by
  obtain ⟨a, c, rfl, hxs⟩ := Rd_PR hx
  have l1 := hxs.len
  unfold maxLen at l1
  have i1 := ix_of (P := Try.prog) tabPassRuleSM.under tabPassRuleSM.size hxs.ptr c
  clear hxs
  go_enter Try.func79, Try.ntmps79
  go_wp2
  go_loopw [5, 8] (fun _ i wr => ∃ k : Nat, k ≤ xs.length ∧ i = .int .i64 k ∧ Below w.heap.size w wr ∧ (∀ j, j < k → p (nthPR xs j) = false)) (fun _ i _ => xs.length - (intOf i).toNat)
  case atStart => exact ⟨0, Nat.zero_le _, rfl, Below.refl _ _, by omega⟩
  case round =>
      obtain ⟨k, hk, rfl, hb, hj⟩ := hrel
      have HJ := Lib.hid hj
      have HB := Lib.hid hb
      clear hj hb
      by_cases hlt : k < xs.length
      · obtain ⟨_, _, ex, hxs⟩ := Rd_PR (hx.below HB.out)
        cases ex
        have g0 := hxs.c0 k hlt
        obtain ⟨a1, c1, g1, h1⟩ := hxs.c1 k hlt
        obtain ⟨a2, c2, g2, h2⟩ := hxs.c2 k hlt
        have HC := Lib.hid (hf.out wr HB.out k hlt a1 c1 a2 c2 h1 h2)
        clear hxs h1 h2
        go_wp2_with fail
        refine HC.out.mono ?_
        rintro e w1 ⟨rfl, hb1⟩
        have HB1 := Lib.hid (bnext HB.out hb1 (Nat.le_refl _))
        clear hb1 g0 g1 g2
        cases hp : p (nthPR xs k)
        · have HP := Lib.hid hp
          clear hp
          go_wp2
          go_roundw
          case rel => exact ⟨k + 1, by omega, by go_num, HB1.out, upto HJ.out HP.out⟩
          case measure => simp [intOf]; omega
        · have HR := Lib.hid (allPR_false (p := fun r => !p r) hlt (by simp [hp]))
          clear hp
          go_wp2
          go_ret
          exact ⟨_, rfl, HB1.out, by rw [HR.out]; simp⟩
      · have e : k = xs.length := by omega
        have HR := Lib.hid (allPR_true (p := fun r => !p r) (rs := xs) (fun j hj => by simp [HJ.out j (by omega)]))
        go_wp2
        go_ret
        exact ⟨_, rfl, HB.out, by rw [HR.out]; simp⟩
set_option maxHeartbeats 400000 in
theorem containsFuncPR_c (f : FuncId) (caps : Array Value) (p : PR → Bool) (hcall : ∀ args w, (callFunc f args).run Try.prog w = .ok (.enter f args) w) (xs : List PR) (u : Value) (w : World) (hx : Rd Any w (dPR xs) u)
    (hf : Hid (∀ wx, Below w.heap.size w wx → ∀ j, j < xs.length → ∀ a1 c1 a2 c2, SlI Any wx a1 (nthPR xs j).out → SlI Any wx a2 (nthPR xs j).inn → Calls Try.prog f (#[.agg #[.int .i64 (nthPR xs j).cell, .slice a1 (nthPR xs j).out.length c1, .slice a2 (nthPR xs j).inn.length c2]] ++ caps) wx (RetV wx (.bool (p (nthPR xs j)))))) :
    Calls Try.prog 70 #[u, .func (.func f) #[] caps] w (RetV w (.bool (!allPR (fun r => !p r) xs))) := by
  have HC := Lib.hid (indexFuncPR_c f caps p hcall xs u w hx hf)
  obtain ⟨a, c, rfl, _⟩ := Rd_PR hx
  clear hx hf
  go_enter Try.func70, Try.ntmps70
  go_wp2_with fail
  refine HC.out.mono ?_
  rintro e w' ⟨i, rfl, hb, hi⟩
  have HB := Lib.hid hb
  have HI := Lib.hid hi
  clear hb hi
  go_wp2
  go_ret
  exact ⟨ret_bool HI.out, HB.out⟩
set_option maxHeartbeats 4000000 in
theorem validPassing_c (x0 : Int) (x1 : List Int) (x2 : List Bool) (x3 : List PR) (a1 a2 a3 : Option Addr) (c1 c2 c3 : Nat) (w : World) (h1 : SlI Any w a1 x1) (hc1 : x1.length ≤ c1) (h2 : SlB Any w a2 x2) (h3 : Rd Any w (dPR x3) (.slice a3 x3.length c3)) :
    Calls Try.prog 55 #[.agg #[.int .i64 x0, .slice a1 x1.length c1, .slice a2 x2.length c2, .slice a3 x3.length c3]] w (RetV w (.bool (okPass x0 x1 x2 x3))) := by
  have l1 := h1.len
  have l2 := h2.len
  obtain ⟨_, _, e3, k3⟩ := Rd_PR h3
  cases e3
  have l3 := k3.len
  unfold maxLen at l1 l2 l3
  clear k3
  have hb0 := below_alloc w (.cells #[.int .i64 x0, .slice a1 x1.length c1, .slice a2 x2.length c2, .slice a3 x3.length c3] 28)
  have hb : ∀ x : Wd (w.alloc (.cells #[.int .i64 x0, .slice a1 x1.length c1, .slice a2 x2.length c2, .slice a3 x3.length c3] 28)), Below w.heap.size w (wat x) := fun x => hb0.trans ((wat_below x).mono (by simp))
  have HI0 := Lib.hid (fun x : Wd (w.alloc (.cells #[.int .i64 x0, .slice a1 x1.length c1, .slice a2 x2.length c2, .slice a3 x3.length c3] 28)) => callsP (inRange_c x0 1 8 (wat x)))
  have HS1 := Lib.hid (fun x : Wd (w.alloc (.cells #[.int .i64 x0, .slice a1 x1.length c1, .slice a2 x2.length c2, .slice a3 x3.length c3] 28)) => callsP (size_int_c a1 x1.length c1 (wat x) h1.len))
  have HI1 := Lib.hid (fun x : Wd (w.alloc (.cells #[.int .i64 x0, .slice a1 x1.length c1, .slice a2 x2.length c2, .slice a3 x3.length c3] 28)) => callsP (inRange_c x1.length 1 4 (wat x)))
  have HS2 := Lib.hid (fun x : Wd (w.alloc (.cells #[.int .i64 x0, .slice a1 x1.length c1, .slice a2 x2.length c2, .slice a3 x3.length c3] 28)) => callsP (size_bool_c a2 x2.length c2 (wat x) h2.len))
  have q0 := wat_cell (show (w.alloc (.cells #[.int .i64 x0, .slice a1 x1.length c1, .slice a2 x2.length c2, .slice a3 x3.length c3] 28)).cell? ⟨w.heap.size, 0, none⟩ = some (.int .i64 x0) by simp [go_sem])
  have q1 := wat_cell (show (w.alloc (.cells #[.int .i64 x0, .slice a1 x1.length c1, .slice a2 x2.length c2, .slice a3 x3.length c3] 28)).cell? ⟨w.heap.size, 1, none⟩ = some (.slice a1 x1.length c1) by simp [go_sem])
  have q2 := wat_cell (show (w.alloc (.cells #[.int .i64 x0, .slice a1 x1.length c1, .slice a2 x2.length c2, .slice a3 x3.length c3] 28)).cell? ⟨w.heap.size, 2, none⟩ = some (.slice a2 x2.length c2) by simp [go_sem])
  have q3 := wat_cell (show (w.alloc (.cells #[.int .i64 x0, .slice a1 x1.length c1, .slice a2 x2.length c2, .slice a3 x3.length c3] 28)).cell? ⟨w.heap.size, 3, none⟩ = some (.slice a3 x3.length c3) by simp [go_sem])
  have i1 := h1.ix tabI.under tabI.size c1
  have HB := Lib.hid hb
  have H1 := Lib.hid h1
  have H2 := Lib.hid h2
  have H3 := Lib.hid h3
  clear hb h1 h2 h3
  cases b1 : inRg x0 1 8
  · have e : okPass x0 x1 x2 x3 = false := by simp [okPass, passHead, b1]
    rw [e]
    rw [b1] at HI0
    clear e b1
    go_enter Try.func55, Try.ntmps55
    go_wp2
    refine wp_quiet_wd (by kernel_rfl) (by kernel_rfl) ?_
    repeat (go_big_quiet_step (first | with_reducible exact wdV (HI0.out _) | with_reducible exact wdV (HS1.out _) | with_reducible exact wdV (HI1.out _) | with_reducible exact wdV (HS2.out _)))
    refine wpQuiet_nil ?_
    rintro _ ⟨wq, rfl⟩
    go_wp2
    go_ret
    exact ⟨rfl, HB.out wq⟩
  · rw [b1] at HI0
    cases b2 : inRg x1.length 1 4
    · have e : okPass x0 x1 x2 x3 = false := by simp [okPass, passHead, b2]
      rw [e]
      rw [b2] at HI1
      clear e b2
      go_enter Try.func55, Try.ntmps55
      go_wp2
      refine wp_quiet_wd (by kernel_rfl) (by kernel_rfl) ?_
      repeat (go_big_quiet_step (first | with_reducible exact wdV (HI0.out _) | with_reducible exact wdV (HS1.out _) | with_reducible exact wdV (HI1.out _) | with_reducible exact wdV (HS2.out _)))
      refine wpQuiet_nil ?_
      rintro _ ⟨wq, rfl⟩
      go_wp2
      go_ret
      exact ⟨rfl, HB.out wq⟩
    · rw [b2] at HI1
      have hl4 : 1 ≤ x1.length ∧ x1.length ≤ 4 := by simp [inRg] at b2; omega
      have hp0 : (0 : Int) < x1.length := by omega
      have i0 := fun w' => i1 0 w' (by omega) hp0
      rw [Int.toNat_zero] at i0
      have g0 := wat_cell (show (w.alloc (.cells #[.int .i64 x0, .slice a1 x1.length c1, .slice a2 x2.length c2, .slice a3 x3.length c3] 28)).cell? (adr a1 0) = some (.int .i64 (nth x1 0)) from (hb0.cell (World.block_lt_of_cell? w _ (H1.out.cell 0 (by omega)))).trans (H1.out.cell 0 (by omega)))
      cases b3 : (nth x1 0 != -1)
      rotate_left
      · have b3' : (nth x1 0 == -1) = false := by simpa using b3
        have e : okPass x0 x1 x2 x3 = false := by simp [okPass, passHead, b3']
        rw [e]
        clear e b3'
        go_enter Try.func55, Try.ntmps55
        go_wp2
        refine wp_quiet_wd (by kernel_rfl) (by kernel_rfl) ?_
        repeat (go_big_quiet_step (first | with_reducible exact wdV (HI0.out _) | with_reducible exact wdV (HS1.out _) | with_reducible exact wdV (HI1.out _) | with_reducible exact wdV (HS2.out _)))
        refine wpQuiet_nil ?_
        rintro _ ⟨wq, rfl⟩
        go_wp2
        go_ret
        exact ⟨rfl, HB.out wq⟩
      · have B3 : Hid ((nth x1 0 == -1) = true) := Lib.hid (by simpa using b3)
        cases b4 : ((x2.length : Int) != x0)
        rotate_left
        · have b4' : ((x2.length : Int) == x0) = false := by simpa using b4
          have e : okPass x0 x1 x2 x3 = false := by simp [okPass, passHead, b4']
          rw [e]
          clear e b4'
          go_enter Try.func55, Try.ntmps55
          go_wp2
          refine wp_quiet_wd (by kernel_rfl) (by kernel_rfl) ?_
          repeat (go_big_quiet_step (first | with_reducible exact wdV (HI0.out _) | with_reducible exact wdV (HS1.out _) | with_reducible exact wdV (HI1.out _) | with_reducible exact wdV (HS2.out _)))
          refine wpQuiet_nil ?_
          rintro _ ⟨wq, rfl⟩
          go_wp2
          go_ret
          exact ⟨rfl, HB.out wq⟩
        · have B4 : Hid (((x2.length : Int) == x0) = true) := Lib.hid (by simpa using b4)
          by_cases b5 : (8 : Int) < x3.length
          · have b5' : ¬ x3.length ≤ 8 := by omega
            have e : okPass x0 x1 x2 x3 = false := by simp [okPass, passHead, b5']
            rw [e]
            clear e b5'
            go_enter Try.func55, Try.ntmps55
            go_wp2
            refine wp_quiet_wd (by kernel_rfl) (by kernel_rfl) ?_
            repeat (go_big_quiet_step (first | with_reducible exact wdV (HI0.out _) | with_reducible exact wdV (HS1.out _) | with_reducible exact wdV (HI1.out _) | with_reducible exact wdV (HS2.out _)))
            refine wpQuiet_nil ?_
            rintro _ ⟨wq, rfl⟩
            go_wp2
            go_ret
            exact ⟨rfl, HB.out wq⟩
          · have HD : Hid (passHead x0 x1 x2 x3 = true) := Lib.hid (by simp only [passHead, b1, b2, B3.out, B4.out, decide_eq_true (show x3.length ≤ 8 by omega), Bool.and_self])
            obtain ⟨g, o, ha⟩ := (H1.out.ptr (by omega)).2
            obtain ⟨N, hN⟩ : ∃ N, x1.length = N + 1 := ⟨x1.length - 1, by omega⟩
            have hsl := slice_from (P := Try.prog) tabI.under tabI.size g o x1.length N c1 hN
            rw [← ha] at hsl
            have HA := Lib.hid ha
            obtain ⟨oo, hoo⟩ : ∃ oo, oo = if c1 = 1 then o else o + 1 := ⟨_, rfl⟩
            rw [← hoo] at hsl
            have i2 := ix_of (P := Try.prog) tabI.under tabI.size (a := some ⟨g, oo, none⟩) (n := N) (fun _ => ⟨g, oo, rfl⟩) (c1 - 1)
            simp only [Nat.mul_one, adr, blk, ofs] at i2
            have HOO := Lib.hid hoo
            have HN := Lib.hid hN
            have HC1 := Lib.hid hc1
            have hN3 : N ≤ 3 := by omega
            have h0 := Lib.hid hb0
            clear b1 b2 hN hoo hc1 hb0 ha
            go_enter Try.func55, Try.ntmps55
            go_wp2
            refine wp_quiet_wd (by kernel_rfl) (by kernel_rfl) ?_
            repeat (go_big_quiet_step (first | with_reducible exact wdV (HI0.out _) | with_reducible exact wdV (HS1.out _) | with_reducible exact wdV (HI1.out _) | with_reducible exact wdV (HS2.out _)))
            refine wpQuiet_nil ?_
            rintro _ ⟨wq, rfl⟩
            have hwb := wat_below wq
            have f0 := q0 wq
            have f1 := q1 wq
            have f2 := q2 wq
            have f3 := q3 wq
            have hz : w.heap.size < (wat wq).heap.size := by have := hwb.size; simp at this; omega
            have HWB := Lib.hid hwb
            clear q0 q1 q2 q3 g0 hwb
            go_wp2
            go_loopw [3, 4, 41] (fun _ _ i wr => ∃ k : Nat, k ≤ N ∧ i = .int .i64 k ∧ wat wq = wr ∧ (∀ j, j < k → parOk x1 j = true)) (fun _ _ i _ => N - (intOf i).toNat)
            case atStart => exact ⟨0, Nat.zero_le _, rfl, rfl, by omega⟩
            case round =>
              obtain ⟨k, hk, rfl, rfl, hj⟩ := hrel
              have HJ := Lib.hid hj
              clear hj
              by_cases hlt : k < N
              · have g1 : (wat wq).cell? ⟨g, oo + k, none⟩ = some (.int .i64 (nth x1 (k + 1))) := by
                  have h := (H1.out.below (HB.out wq)).cell (k + 1) (by have := HN.out; omega)
                  have e : oo = o + 1 := by rw [HOO.out, if_neg (by have := HC1.out; have := HN.out; omega)]
                  rw [show adr a1 (k + 1) = ⟨g, o + (k + 1), none⟩ from by rw [HA.out]; rfl] at h
                  rw [e, show o + 1 + k = o + (k + 1) from by omega]; exact h
                go_wp2_with fail
                refine (inRange_c _ _ _ _).mono ?_
                rintro e w' ⟨rfl, rfl⟩
                cases hp : inRg (nth x1 (k + 1)) 0 k
                · have HR : Hid (okPass x0 x1 x2 x3 = false) := Lib.hid (by rw [okPass, parsOk_false (k := k) (by have := HN.out; omega) hp]; simp)
                  clear hp
                  go_wp2
                  go_ret
                  exact ⟨ret_bool HR.out.symm, HB.out wq⟩
                · have HP := Lib.hid (show parOk x1 k = true from hp)
                  clear hp
                  go_wp2
                  go_roundw
                  case rel => exact ⟨k + 1, by omega, by go_num, trivial, upto HJ.out HP.out⟩
                  case measure => simp [intOf]; omega
              · have hpp : parsOk x1 = true := parsOk_true (fun j hj => HJ.out j (by have := HN.out; omega))
                have HR : Hid (okPass x0 x1 x2 x3 = allPR (ruleOk x0 x1.length x2) x3) := Lib.hid (by rw [okPass, HD.out, hpp]; simp)
                have HC := Lib.hid (containsFuncPR_c 71 #[.pointer (some ⟨w.heap.size, 0, none⟩)] (fun r => !ruleOk x0 x1.length x2 r) (callFunc_run Try.func71 (by kernel_rfl) rfl) x3 (.slice a3 x3.length c3) (wat wq) (H3.out.below (HB.out wq))
                  (Lib.hid fun wx hbx j hj b1 d1 b2 d2 k1 k2 => validPassing1_c x0 x1.length x3.length x2 (nthPR x3 j) b1 b2 _ a2 a3 d1 d2 c1 c2 c3 w.heap.size wx k1 k2 ((H2.out.below (HB.out wq)).below hbx) ((bcell1 hbx hz).trans f0) ((bcell1 hbx hz).trans f1) ((bcell1 hbx hz).trans f2) ((bcell1 hbx hz).trans f3) (by have := HN.out; omega) (by have := B4.out; simpa using this)))
                clear hpp
                go_wp2_with fail
                refine HC.out.mono ?_
                rintro e w9 ⟨rfl, hb9⟩
                have HB9 := Lib.hid (bnext (HB.out wq) hb9 (Nat.le_refl _))
                clear hb9
                go_wp2
                go_ret
                exact ⟨ret_bool (by first | (rw [HR.out]; done) | (rw [HR.out]; simp)), HB9.out⟩
theorem implValidPassing_d (x0 : Int) (x1 : List Int) (x2 : List Bool) (x3 : List PR) {v1 v2 v3 : Value} {F1 F2 F3 : List Nat} (w : World) (h1 : Ow w (dI x1) v1 F1) (h2 : Ow w (dB x2) v2 F2) (h3 : Ow w (dPR x3) v3 F3) :
    Calls Try.prog 55 #[.agg #[.int .i64 x0, v1, v2, v3]] w (RetV w (.bool (okPass x0 x1 x2 x3))) := by
  obtain ⟨a1, c1, rfl, hc1, k1⟩ := h1.capI
  obtain ⟨a2, c2, rfl, k2⟩ := Rd_B.1 h2.rdA
  obtain ⟨a3, c3, rfl, _⟩ := Rd_PR h3.rdA
  exact validPassing_c x0 x1 x2 x3 a1 a2 a3 c1 c2 c3 w k1 hc1 k2 h3.rdA

/- Valid passing systems: the reference's functions. -/
set_option maxHeartbeats 400000 in
theorem l06Sum_c (S : Nat → Prop) (a : Option Addr) (c : Nat) (xs : List Int) (w : World) (hx : SlI S w a xs) :
    Calls Try.prog 57 #[.slice a xs.length c] w (RetP w (.int .i64 (sumS xs))) := by
  have l1 := hx.len
  unfold maxLen at l1
  have i1 := hx.ix tabI.under tabI.size c
  go_enter Try.func57, Try.ntmps57
  go_wp2
  go_loopw [3, 4] (fun s i wr => ∃ k : Nat, k ≤ xs.length ∧ i = .int .i64 k ∧ w = wr ∧ s = .int .i64 (sumTo xs k)) (fun _ i _ => xs.length - (intOf i).toNat)
  case atStart => exact ⟨0, Nat.zero_le _, rfl, rfl, rfl⟩
  case round =>
      obtain ⟨k, hk, rfl, rfl, rfl⟩ := hrel
      by_cases hlt : k < xs.length
      · have g1 := hx.cell k hlt
        go_wp2
        go_roundw
        case rel => exact ⟨k + 1, by omega, by go_num, trivial, rfl⟩
        case measure => simp [intOf]; omega
      · go_wp2
        go_ret
        have e : k = xs.length := by omega
        exact ⟨ret_int (by rw [e]; rfl), rfl⟩
def bag6 (k : Int) (xs : List Int) : Bool := allB cntOk xs && ((xs.length : Int) == k)
theorem bag6_eq {k : Int} {xs : List Int} (h : 1 ≤ k ∧ k ≤ 8) : bag6 k xs = validBagS k xs := by
  unfold bag6 validBagS isBagS
  by_cases e : (xs.length : Int) = k
  · have : inRg xs.length 1 8 = true := by rw [inRg, decide_eq_true (by omega), decide_eq_true (by omega)]; rfl
    rw [this, Bool.and_true]
  · have : ((xs.length : Int) == k) = false := by simpa using e
    rw [this, Bool.and_false, Bool.and_false]
set_option maxHeartbeats 400000 in
theorem l06Bag_c (k6 : Int) (S : Nat → Prop) (a : Option Addr) (c : Nat) (cs : List Int) (w : World) (hx : SlI S w a cs) :
    Calls Try.prog 47 #[.int .i64 k6, .slice a cs.length c] w (RetP w (.bool (bag6 k6 cs))) := by
  have l1 := hx.len
  unfold maxLen at l1
  have i1 := hx.ix tabI.under tabI.size c
  go_enter Try.func47, Try.ntmps47
  go_wp2
  go_loopw [5] (fun i wr => ∃ k : Nat, k ≤ cs.length ∧ i = .int .i64 k ∧ w = wr ∧ (∀ j, j < k → cntOk (nth cs j) = true)) (fun i _ => cs.length - (intOf i).toNat)
  case atStart => exact ⟨0, Nat.zero_le _, rfl, rfl, by omega⟩
  case round =>
    obtain ⟨k, hk, rfl, rfl, hj⟩ := hrel
    have HJ := Lib.hid hj
    clear hj
    by_cases hlt : k < cs.length
    · have g1 := hx.cell k hlt
      go_wp2_with fail
      refine (l00In_c _ _ _ _).mono ?_
      rintro e w' ⟨rfl, rfl⟩
      cases hp : inRg (nth cs k) 0 1000
      · have HR := Lib.hid (allB_false (p := cntOk) hlt hp)
        clear hp
        go_wp2
        go_ret
        exact ⟨ret_bool (by rw [bag6, HR.out]; rfl), rfl⟩
      · have HP := Lib.hid (show cntOk (nth cs k) = true from hp)
        clear hp
        go_wp2
        go_roundw
        case rel => exact ⟨k + 1, by omega, by go_num, trivial, upto HJ.out HP.out⟩
        case measure => simp [intOf]; omega
    · have e : k = cs.length := by omega
      have HP := Lib.hid (allB_true (p := cntOk) (xs := cs) (e ▸ HJ.out))
      go_wp2
      go_ret
      exact ⟨ret_bool (by rw [bag6, HP.out, Bool.true_and]), rfl⟩
set_option maxHeartbeats 4000000 in
theorem l06Rule_c (x0 : Int) (np nr : Nat) (free : List Bool) (r : PR) (a1 a2 ap af ar : Option Addr) (c1 c2 cp cf cr : Nat) (p rg ro : Nat) (w : World) (h1 : SlI Any w a1 r.out) (h2 : SlI Any w a2 r.inn) (hf : SlB Any w af free)
    (hp0 : w.cell? ⟨p, 0, none⟩ = some (.int .i64 x0)) (hp1 : w.cell? ⟨p, 1, none⟩ = some (.slice ap np cp)) (hp2 : w.cell? ⟨p, 2, none⟩ = some (.slice af free.length cf)) (hp3 : w.cell? ⟨p, 3, none⟩ = some (.slice ar nr cr))
    (hr0 : w.cell? ⟨rg, ro, none⟩ = some (.int .i64 r.cell)) (hr1 : w.cell? ⟨rg, ro + 1, none⟩ = some (.slice a1 r.out.length c1)) (hr2 : w.cell? ⟨rg, ro + 2, none⟩ = some (.slice a2 r.inn.length c2)) (hx0 : 1 ≤ x0 ∧ x0 ≤ 8) (hnp : np ≤ 4) (hfl : (free.length : Int) = x0) :
    Calls Try.prog 35 #[.pointer (some ⟨p, 0, none⟩), .pointer (some ⟨rg, ro, none⟩)] w (RetV w (.bool (ruleOk x0 np free r))) := by
  have l1 := h2.len
  have l2 := hf.len
  unfold maxLen at l1 l2
  have hv1 : ∀ x : Wd w, Calls Try.prog 47 #[.int .i64 x0, .slice a1 r.out.length c1] (wat x) (RetP (wat x) (.bool (validBagS x0 r.out))) := fun x => by rw [← bag6_eq hx0]; exact l06Bag_c x0 Any a1 c1 r.out _ (h1.below (wat_below x))
  have hv2 : ∀ x : Wd w, Calls Try.prog 47 #[.int .i64 x0, .slice a2 r.inn.length c2] (wat x) (RetP (wat x) (.bool (validBagS x0 r.inn))) := fun x => by rw [← bag6_eq hx0]; exact l06Bag_c x0 Any a2 c2 r.inn _ (h2.below (wat_below x))
  have HI := Lib.hid (fun x : Wd w => callsP (l00In_c r.cell 0 ((np : Int) - 1) (wat x)))
  have HV1 := Lib.hid (fun x : Wd w => callsP (hv1 x))
  have HV2 := Lib.hid (fun x : Wd w => callsP (hv2 x))
  have HB1 := Lib.hid (fun x : Wd w => callsP (l06Sum_c Any a1 c1 r.out _ (h1.below (wat_below x))))
  have HB2 := Lib.hid (fun x : Wd w => callsP (l06Sum_c Any a2 c2 r.inn _ (h2.below (wat_below x))))
  have hwn : IntKind.i64.wrap ((np : Int) - 1) = (np : Int) - 1 := by rw [IntKind.wrap_i64]; omega
  have r0 := wat_cell hr0
  have r1 := wat_cell hr1
  have r2 := wat_cell hr2
  have q0 := wat_cell hp0
  have q1 := wat_cell hp1
  have q2 := wat_cell hp2
  have q3 := wat_cell hp3
  have i1 := h2.ix tabI.under tabI.size c2
  have i2 := hf.ix tabB.under tabB.size cf
  have H2 := Lib.hid h2
  have HF := Lib.hid hf
  have HFL := Lib.hid hfl
  clear hv1 hv2 h1 h2 hf hfl hp0 hp1 hp2 hp3 hr0 hr1 hr2
  cases b1 : inRg r.cell 0 ((np : Int) - 1)
  · have e : ruleOk x0 np free r = false := by simp only [ruleOk, b1, Bool.false_and]
    rw [e]
    rw [b1] at HI
    clear e b1
    go_enter Try.func35, Try.ntmps35
    go_wp2
    refine wp_quiet_wd (by kernel_rfl) (by kernel_rfl) ?_
    repeat (go_big_quiet_step (first | with_reducible exact wdV (HI.out _) | with_reducible exact wdV (HV1.out _) | with_reducible exact wdV (HV2.out _) | with_reducible exact wdV (HB1.out _) | with_reducible exact wdV (HB2.out _)))
    refine wpQuiet_nil ?_
    rintro _ ⟨wq, rfl⟩
    go_wp2
    go_ret
    exact ⟨rfl, wat_below wq⟩
  · rw [b1] at HI
    cases b2 : validBagS x0 r.out
    · have e : ruleOk x0 np free r = false := by simp only [ruleOk, b2, Bool.false_and, Bool.and_false]
      rw [e]
      rw [b2] at HV1
      clear e b1 b2
      go_enter Try.func35, Try.ntmps35
      go_wp2
      refine wp_quiet_wd (by kernel_rfl) (by kernel_rfl) ?_
      repeat (go_big_quiet_step (first | with_reducible exact wdV (HI.out _) | with_reducible exact wdV (HV1.out _) | with_reducible exact wdV (HV2.out _) | with_reducible exact wdV (HB1.out _) | with_reducible exact wdV (HB2.out _)))
      refine wpQuiet_nil ?_
      rintro _ ⟨wq, rfl⟩
      go_wp2
      go_ret
      exact ⟨rfl, wat_below wq⟩
    · rw [b2] at HV1
      cases b3 : validBagS x0 r.inn
      · have e : ruleOk x0 np free r = false := by simp only [ruleOk, b3, Bool.false_and, Bool.and_false]
        rw [e]
        rw [b3] at HV2
        clear e b1 b2 b3
        go_enter Try.func35, Try.ntmps35
        go_wp2
        refine wp_quiet_wd (by kernel_rfl) (by kernel_rfl) ?_
        repeat (go_big_quiet_step (first | with_reducible exact wdV (HI.out _) | with_reducible exact wdV (HV1.out _) | with_reducible exact wdV (HV2.out _) | with_reducible exact wdV (HB1.out _) | with_reducible exact wdV (HB2.out _)))
        refine wpQuiet_nil ?_
        rintro _ ⟨wq, rfl⟩
        go_wp2
        go_ret
        exact ⟨rfl, wat_below wq⟩
      · rw [b3] at HV2
        have s1 := sumS_bd (validBagS_ok b2).1
        have s2 := sumS_bd (validBagS_ok b3).1
        have HLI := Lib.hid (validBagS_ok b3).2
        have hws : IntKind.i64.wrap (sumS r.out + sumS r.inn) = sumS r.out + sumS r.inn := by rw [IntKind.wrap_i64]; omega
        cases b4 : (sumS r.out + sumS r.inn == 0)
        rotate_left
        · have e : ruleOk x0 np free r = false := by simp only [ruleOk, b4, Bool.false_and, Bool.and_false, Bool.not_true]
          rw [e]
          clear e b1 b2 b3
          go_enter Try.func35, Try.ntmps35
          go_wp2
          refine wp_quiet_wd (by kernel_rfl) (by kernel_rfl) ?_
          repeat (go_big_quiet_step (first | with_reducible exact wdV (HI.out _) | with_reducible exact wdV (HV1.out _) | with_reducible exact wdV (HV2.out _) | with_reducible exact wdV (HB1.out _) | with_reducible exact wdV (HB2.out _)))
          refine wpQuiet_nil ?_
          rintro _ ⟨wq, rfl⟩
          go_wp2
          go_ret
          exact ⟨rfl, wat_below wq⟩
        · by_cases b5 : 0 < r.cell
          · have e : ruleOk x0 np free r = true := by
              simp only [ruleOk, b1, b2, b3, b4, b5, decide_true, Bool.true_or, Bool.not_false, Bool.and_self]
            rw [e]
            clear e b1 b2 b3
            go_enter Try.func35, Try.ntmps35
            go_wp2
            refine wp_quiet_wd (by kernel_rfl) (by kernel_rfl) ?_
            repeat (go_big_quiet_step (first | with_reducible exact wdV (HI.out _) | with_reducible exact wdV (HV1.out _) | with_reducible exact wdV (HV2.out _) | with_reducible exact wdV (HB1.out _) | with_reducible exact wdV (HB2.out _)))
            refine wpQuiet_nil ?_
            rintro _ ⟨wq, rfl⟩
            have f0 := r0 wq
            have f1 := r1 wq
            go_wp2
            go_ret
            exact ⟨rfl, wat_below wq⟩
          · by_cases b6 : 0 < sumS r.out
            · have e : ruleOk x0 np free r = true := by
                simp only [ruleOk, b1, b2, b3, b4, b6, decide_true, Bool.true_or, Bool.or_true, Bool.not_false, Bool.and_self]
              rw [e]
              clear e b1 b2 b3
              go_enter Try.func35, Try.ntmps35
              go_wp2
              refine wp_quiet_wd (by kernel_rfl) (by kernel_rfl) ?_
              repeat (go_big_quiet_step (first | with_reducible exact wdV (HI.out _) | with_reducible exact wdV (HV1.out _) | with_reducible exact wdV (HV2.out _) | with_reducible exact wdV (HB1.out _) | with_reducible exact wdV (HB2.out _)))
              refine wpQuiet_nil ?_
              rintro _ ⟨wq, rfl⟩
              have f0 := r0 wq
              have f1 := r1 wq
              go_wp2_with fail
              refine (HB1.out wq).mono ?_
              rintro e w1 ⟨rfl, hb1⟩
              have HB := Lib.hid (bnext (wat_below wq) hb1 (Nat.le_refl _))
              clear hb1
              go_wp2
              go_ret
              exact ⟨rfl, HB.out⟩
            · have e : ruleOk x0 np free r = hasBoundS free r.inn := by
                simp only [ruleOk, b1, b2, b3, b4, b5, b6, decide_false, Bool.false_or, Bool.not_false, Bool.and_self, Bool.true_and]
              rw [e]
              clear e b1 b2 b3
              go_enter Try.func35, Try.ntmps35
              go_wp2
              refine wp_quiet_wd (by kernel_rfl) (by kernel_rfl) ?_
              repeat (go_big_quiet_step (first | with_reducible exact wdV (HI.out _) | with_reducible exact wdV (HV1.out _) | with_reducible exact wdV (HV2.out _) | with_reducible exact wdV (HB1.out _) | with_reducible exact wdV (HB2.out _)))
              refine wpQuiet_nil ?_
              rintro _ ⟨wq, rfl⟩
              have f0 := r0 wq
              have f1 := r1 wq
              go_wp2_with fail
              refine (HB1.out wq).mono ?_
              rintro e w1 ⟨rfl, hb1⟩
              have hbw := bnext (wat_below wq) hb1 (Nat.le_refl _)
              have f2 := (hb1.cell (World.block_lt_of_cell? _ _ (r2 wq))).trans (r2 wq)
              have f3 := (hb1.cell (World.block_lt_of_cell? _ _ (q2 wq))).trans (q2 wq)
              have HB := Lib.hid hbw
              clear hb1 hbw r0 r1 r2 q0 q1 q2 q3 f0 f1
              go_wp2
              go_loopw [5] (fun i wr => ∃ k : Nat, k ≤ r.inn.length ∧ i = .int .i64 k ∧ w1 = wr ∧ (∀ j, j < k → bound1 free r.inn j = false)) (fun i _ => r.inn.length - (intOf i).toNat)
              case atStart => exact ⟨0, Nat.zero_le _, rfl, rfl, by omega⟩
              case round =>
                obtain ⟨k, hk, rfl, rfl, hj⟩ := hrel
                have HJ := Lib.hid hj
                clear hj
                by_cases hlt : k < r.inn.length
                · have k2 : (k : Int) < free.length := by have := HFL.out; have := HLI.out; omega
                  have g1 := (H2.out.below HB.out).cell k hlt
                  have g2 := (HF.out.below HB.out).cell k (by omega)
                  by_cases h0 : 0 < nth r.inn k
                  · cases hb : nthB free k
                    · have HR := Lib.hid (hasBoundS_true (free := free) hlt (by simp [bound1, h0, hb]))
                      rw [hb] at g2
                      clear hb
                      go_wp2
                      go_ret
                      exact ⟨ret_bool HR.out.symm, HB.out⟩
                    · have HR : Hid (bound1 free r.inn k = false) := Lib.hid (by simp [bound1, hb])
                      rw [hb] at g2
                      clear hb
                      go_wp2
                      go_roundw
                      case rel => exact ⟨k + 1, by omega, by go_num, trivial, upto HJ.out HR.out⟩
                      case measure => simp [intOf]; omega
                  · have HR : Hid (bound1 free r.inn k = false) := Lib.hid (by simp [bound1, h0])
                    go_wp2
                    go_roundw
                    case rel => exact ⟨k + 1, by omega, by go_num, trivial, upto HJ.out HR.out⟩
                    case measure => simp [intOf]; omega
                · have e : k = r.inn.length := by omega
                  have HR := Lib.hid (hasBoundS_false (free := free) (xs := r.inn) (e ▸ HJ.out))
                  go_wp2
                  go_ret
                  exact ⟨ret_bool HR.out.symm, HB.out⟩
set_option maxHeartbeats 4000000 in
theorem l06Ok_c (x0 : Int) (x1 : List Int) (x2 : List Bool) (x3 : List PR) (a1 a2 a3 : Option Addr) (c1 c2 c3 : Nat) (p : Nat) (w : World) (h1 : SlI Any w a1 x1) (h2 : SlB Any w a2 x2) (h3 : Rd Any w (dPR x3) (.slice a3 x3.length c3))
    (hp0 : w.cell? ⟨p, 0, none⟩ = some (.int .i64 x0)) (hp1 : w.cell? ⟨p, 1, none⟩ = some (.slice a1 x1.length c1)) (hp2 : w.cell? ⟨p, 2, none⟩ = some (.slice a2 x2.length c2)) (hp3 : w.cell? ⟨p, 3, none⟩ = some (.slice a3 x3.length c3)) :
    Calls Try.prog 45 #[.pointer (some ⟨p, 0, none⟩)] w (RetV w (.bool (okPass x0 x1 x2 x3))) := by
  have l1 := h1.len
  have l2 := h2.len
  obtain ⟨_, _, e3, k3⟩ := Rd_PR h3
  cases e3
  have l3 := k3.len
  unfold maxLen at l1 l2 l3
  have HI0 := Lib.hid (fun x : Wd w => callsP (l00In_c x0 1 8 (wat x)))
  have HI1 := Lib.hid (fun x : Wd w => callsP (l00In_c x1.length 1 4 (wat x)))
  have hpl : p < w.heap.size := World.block_lt_of_cell? w _ hp0
  have q0 := wat_cell hp0
  have q1 := wat_cell hp1
  have q2 := wat_cell hp2
  have q3 := wat_cell hp3
  have i1 := h1.ix tabI.under tabI.size c1
  have i3 := ix_of (P := Try.prog) tabPassRuleSM.under tabPassRuleSM.size k3.ptr c3
  have H1 := Lib.hid h1
  have H2 := Lib.hid h2
  have H3 := Lib.hid h3
  clear h1 h2 h3 k3
  cases b1 : inRg x0 1 8
  · have e : okPass x0 x1 x2 x3 = false := by simp [okPass, passHead, b1]
    rw [e]
    rw [b1] at HI0
    clear e b1
    go_enter Try.func45, Try.ntmps45
    go_wp2
    refine wp_quiet_wd (by kernel_rfl) (by kernel_rfl) ?_
    repeat (go_big_quiet_step (first | with_reducible exact wdV (HI0.out _) | with_reducible exact wdV (HI1.out _)))
    refine wpQuiet_nil ?_
    rintro _ ⟨wq, rfl⟩
    go_wp2
    go_ret
    exact ⟨rfl, wat_below wq⟩
  · rw [b1] at HI0
    cases b2 : inRg x1.length 1 4
    · have e : okPass x0 x1 x2 x3 = false := by simp [okPass, passHead, b2]
      rw [e]
      rw [b2] at HI1
      clear e b1 b2
      go_enter Try.func45, Try.ntmps45
      go_wp2
      refine wp_quiet_wd (by kernel_rfl) (by kernel_rfl) ?_
      repeat (go_big_quiet_step (first | with_reducible exact wdV (HI0.out _) | with_reducible exact wdV (HI1.out _)))
      refine wpQuiet_nil ?_
      rintro _ ⟨wq, rfl⟩
      go_wp2
      go_ret
      exact ⟨rfl, wat_below wq⟩
    · rw [b2] at HI1
      have hl4 : 1 ≤ x1.length ∧ x1.length ≤ 4 := by simp [inRg] at b2; omega
      have hx0 : 1 ≤ x0 ∧ x0 ≤ 8 := by simpa [inRg] using b1
      have hp00 : (0 : Int) < x1.length := by omega
      have i0 := fun w' => i1 0 w' (by omega) hp00
      rw [Int.toNat_zero] at i0
      have g0 := wat_cell (H1.out.cell 0 (by omega))
      cases b4 : ((x2.length : Int) != x0)
      rotate_left
      · have b4' : ((x2.length : Int) == x0) = false := by simpa using b4
        have e : okPass x0 x1 x2 x3 = false := by simp [okPass, passHead, b4']
        rw [e]
        clear e b4' b1 b2
        go_enter Try.func45, Try.ntmps45
        go_wp2
        refine wp_quiet_wd (by kernel_rfl) (by kernel_rfl) ?_
        repeat (go_big_quiet_step (first | with_reducible exact wdV (HI0.out _) | with_reducible exact wdV (HI1.out _)))
        refine wpQuiet_nil ?_
        rintro _ ⟨wq, rfl⟩
        go_wp2
        go_ret
        exact ⟨rfl, wat_below wq⟩
      · have B4 : Hid (((x2.length : Int) == x0) = true) := Lib.hid (by simpa using b4)
        by_cases b5 : (8 : Int) < x3.length
        · have b5' : ¬ x3.length ≤ 8 := by omega
          have e : okPass x0 x1 x2 x3 = false := by simp [okPass, passHead, b5']
          rw [e]
          clear e b5' b1 b2
          go_enter Try.func45, Try.ntmps45
          go_wp2
          refine wp_quiet_wd (by kernel_rfl) (by kernel_rfl) ?_
          repeat (go_big_quiet_step (first | with_reducible exact wdV (HI0.out _) | with_reducible exact wdV (HI1.out _)))
          refine wpQuiet_nil ?_
          rintro _ ⟨wq, rfl⟩
          go_wp2
          go_ret
          exact ⟨rfl, wat_below wq⟩
        · have b5d : decide ((8 : Int) < (x3.length : Int)) = false := decide_eq_false b5
          cases b3 : (nth x1 0 != -1)
          rotate_left
          · have b3' : (nth x1 0 == -1) = false := by simpa using b3
            have e : okPass x0 x1 x2 x3 = false := by simp [okPass, passHead, b3']
            rw [e]
            clear e b3' b1 b2
            go_enter Try.func45, Try.ntmps45
            go_wp2
            refine wp_quiet_wd (by kernel_rfl) (by kernel_rfl) ?_
            repeat (go_big_quiet_step (first | with_reducible exact wdV (HI0.out _) | with_reducible exact wdV (HI1.out _)))
            refine wpQuiet_nil ?_
            rintro _ ⟨wq, rfl⟩
            go_wp2
            go_ret
            exact ⟨rfl, wat_below wq⟩
          · have B3 : Hid ((nth x1 0 == -1) = true) := Lib.hid (by simpa using b3)
            have HD : Hid (passHead x0 x1 x2 x3 = true) := Lib.hid (by simp only [passHead, b1, b2, B3.out, B4.out, decide_eq_true (show x3.length ≤ 8 by omega), Bool.and_self])
            clear b1 b2
            go_enter Try.func45, Try.ntmps45
            go_wp2
            refine wp_quiet_wd (by kernel_rfl) (by kernel_rfl) ?_
            repeat (go_big_quiet_step (first | with_reducible exact wdV (HI0.out _) | with_reducible exact wdV (HI1.out _)))
            refine wpQuiet_nil ?_
            rintro _ ⟨wq, rfl⟩
            have hwb := wat_below wq
            have f0 := q0 wq
            have f1 := q1 wq
            have f2 := q2 wq
            have f3 := q3 wq
            have hz : p < (wat wq).heap.size := by have := hwb.size; omega
            have HWB := Lib.hid hwb
            clear q0 q1 q2 q3 g0 hwb hp0 hp1 hp2 hp3 i0
            go_wp2
            go_loopw [4] (fun i wr => ∃ k : Nat, k + 1 ≤ x1.length ∧ i = .int .i64 ((k : Int) + 1) ∧ wat wq = wr ∧ (∀ j, j < k → parOk x1 j = true)) (fun i _ => x1.length - (intOf i).toNat)
            case atStart => exact ⟨0, by omega, rfl, rfl, by omega⟩
            case round =>
              obtain ⟨k, hk, rfl, rfl, hj⟩ := hrel
              have HJ := Lib.hid hj
              clear hj
              have hwk : IntKind.i64.wrap ((k : Int) + 1 - 1) = (k : Int) := by rw [IntKind.wrap_i64]; omega
              by_cases hlt : k + 1 < x1.length
              · have g1 := (H1.out.below HWB.out).cell (k + 1) hlt
                have hlt' : (k : Int) + 1 < x1.length := by omega
                have i2 := fun w' => i1 ((k : Int) + 1) w' (by omega) hlt'
                rw [show ((k : Int) + 1).toNat = k + 1 from by omega] at i2
                go_wp2_with fail
                refine (l00In_c _ _ _ _).mono ?_
                rintro e w' ⟨rfl, rfl⟩
                cases hp : inRg (nth x1 (k + 1)) 0 k
                · have HR : Hid (okPass x0 x1 x2 x3 = false) := Lib.hid (by rw [okPass, parsOk_false hlt hp]; simp)
                  clear hp
                  go_wp2
                  go_ret
                  exact ⟨ret_bool HR.out.symm, HWB.out⟩
                · have HP := Lib.hid (show parOk x1 k = true from hp)
                  clear hp
                  go_wp2
                  go_roundw
                  case rel => exact ⟨k + 1, by omega, by go_num, trivial, upto HJ.out HP.out⟩
                  case measure => simp [intOf]; omega
              · have hpp : parsOk x1 = true := parsOk_true (fun j hj => HJ.out j (by omega))
                have hlt' : ¬ (k : Int) + 1 < x1.length := by omega
                have HR : Hid (okPass x0 x1 x2 x3 = allPR (ruleOk x0 x1.length x2) x3) := Lib.hid (by rw [okPass, HD.out, hpp]; simp)
                clear hpp hwk
                go_wp2
                go_loopw [5] (fun i wr => ∃ m : Nat, m ≤ x3.length ∧ i = .int .i64 m ∧ Below (wat wq).heap.size (wat wq) wr ∧ (∀ j, j < m → ruleOk x0 x1.length x2 (nthPR x3 j) = true)) (fun i _ => x3.length - (intOf i).toNat)
                case atStart => exact ⟨0, Nat.zero_le _, rfl, Below.refl _ _, by omega⟩
                case round =>
                  obtain ⟨m, hm, rfl, hb, hj⟩ := hrel
                  have HJ2 := Lib.hid hj
                  have HB := Lib.hid hb
                  have y0 := (bcell1 hb hz).trans f0
                  have y1 := (bcell1 hb hz).trans f1
                  have y2 := (bcell1 hb hz).trans f2
                  have y3 := (bcell1 hb hz).trans f3
                  clear hj hb
                  by_cases hlt3 : m < x3.length
                  · obtain ⟨_, _, ex, hxs⟩ := Rd_PR ((H3.out.below HWB.out).below HB.out)
                    cases ex
                    have g0 := hxs.c0 m hlt3
                    obtain ⟨b1, d1, g1, k1⟩ := hxs.c1 m hlt3
                    obtain ⟨b2, d2, g2, k2⟩ := hxs.c2 m hlt3
                    have HC := Lib.hid (l06Rule_c x0 x1.length x3.length x2 (nthPR x3 m) b1 b2 a1 a2 a3 d1 d2 c1 c2 c3 p (blk a3) (ofs a3 + m * 3) wr k1 k2 ((H2.out.below HWB.out).below HB.out) y0 y1 y2 y3 g0 g1 g2 hx0 hl4.2 (by have := B4.out; simpa using this))
                    clear hxs k1 k2 g0 g1 g2
                    go_wp2_with fail
                    refine HC.out.mono ?_
                    rintro e w9 ⟨rfl, hb9⟩
                    have HB9 := Lib.hid (bnext HB.out hb9 (Nat.le_refl _))
                    clear hb9
                    cases hp : ruleOk x0 x1.length x2 (nthPR x3 m)
                    · have HF := Lib.hid (allPR_false (p := ruleOk x0 x1.length x2) hlt3 hp)
                      clear hp
                      go_wp2
                      go_ret
                      exact ⟨ret_bool (by rw [HR.out, HF.out]), bnext HWB.out HB9.out (Nat.le_refl _)⟩
                    · have HP := Lib.hid hp
                      clear hp
                      go_wp2
                      go_roundw
                      case rel => exact ⟨m + 1, by omega, by go_num, HB9.out, upto HJ2.out HP.out⟩
                      case measure => simp [intOf]; omega
                  · have e : m = x3.length := by omega
                    have HF := Lib.hid (allPR_true (p := ruleOk x0 x1.length x2) (rs := x3) (e ▸ HJ2.out))
                    go_wp2
                    go_ret
                    exact ⟨ret_bool (by rw [HR.out, HF.out]), bnext HWB.out HB.out (Nat.le_refl _)⟩
end Go.Proofs.Ytkjmehpehopncaa

/- Valid stocks. -/
namespace Go.Proofs.Ytkjmehpehopncaa
open Go.RowKit

theorem okPass_ok {x0 : Int} {x1 : List Int} {x2 : List Bool} {x3 : List PR} (h : okPass x0 x1 x2 x3 = true) : 1 ≤ x0 ∧ x0 ≤ 8 ∧ 1 ≤ x1.length ∧ x1.length ≤ 4 ∧ nth x1 0 = -1 ∧ (x2.length : Int) = x0 ∧ x3.length ≤ 8 := by
  simp only [okPass, Bool.and_eq_true] at h
  exact passHead_ok h.1.1
def okStockAll (x0 : Int) (x1 : List Int) (x2 : List Bool) (x3 : List PR) (y0 : List (List Int)) (y1 : List Int) : Bool := okPass x0 x1 x2 x3 && okStock x0 x1.length x2 y0 y1
theorem validStock1_c (x0 : Int) (p : Nat) (a : Option Addr) (c : Nat) (xs : List Int) (w : World) (hx : SlI Any w a xs) (hp : w.cell? ⟨p, 0, none⟩ = some (.int .i64 x0)) :
    Calls Try.prog 74 #[.slice a xs.length c, .pointer (some ⟨p, 0, none⟩)] w (RetP w (.bool (!validBagS x0 xs))) := by
  have HC := Lib.hid (validBag_c x0 Any a c xs w hx)
  go_enter Try.func74, Try.ntmps74
  go_wp2_with fail
  refine HC.out.mono ?_
  rintro e w' ⟨rfl, rfl⟩
  go_wp2
  go_ret
  exact ⟨rfl, rfl⟩
set_option maxHeartbeats 4000000 in
theorem validStock_c (x0 : Int) (x1 : List Int) (x2 : List Bool) (x3 : List PR) (y0 : List (List Int)) (y1 : List Int) (a1 a2 a3 b0 b1 : Option Addr) (c1 c2 c3 d0 d1 : Nat) (w : World) (h1 : SlI Any w a1 x1) (hc1 : x1.length ≤ c1) (h2 : SlB Any w a2 x2) (h3 : Rd Any w (dPR x3) (.slice a3 x3.length c3)) (k0 : SlII Any w b0 y0) (k1 : SlI Any w b1 y1) :
    Calls Try.prog 56 #[.agg #[.int .i64 x0, .slice a1 x1.length c1, .slice a2 x2.length c2, .slice a3 x3.length c3], .agg #[.slice b0 y0.length d0, .slice b1 y1.length d1]] w (RetV w (.bool (okStockAll x0 x1 x2 x3 y0 y1))) := by
  have hb0 : Below w.heap.size w ((w.alloc (.cells #[.int .i64 x0, .slice a1 x1.length c1, .slice a2 x2.length c2, .slice a3 x3.length c3] 28)).alloc (.cells #[.slice b0 y0.length d0, .slice b1 y1.length d1] 31)) := ((Below.refl _ _).alloc (Nat.le_refl _) _).alloc (by simp) _
  have HC := Lib.hid (validPassing_c x0 x1 x2 x3 a1 a2 a3 c1 c2 c3 ((w.alloc (.cells #[.int .i64 x0, .slice a1 x1.length c1, .slice a2 x2.length c2, .slice a3 x3.length c3] 28)).alloc (.cells #[.slice b0 y0.length d0, .slice b1 y1.length d1] 31)) (h1.below hb0) hc1 (h2.below hb0) (h3.below hb0))
  have l0 := k0.len
  have l1 := k1.len
  have l2 := h2.len
  have l3 := h1.len
  unfold maxLen at l0 l1 l2 l3
  have i1 := k1.ix tabI.under tabI.size d1
  have i2 := h2.ix tabB.under tabB.size c2
  have HB0 := Lib.hid hb0
  have H2 := Lib.hid h2
  have K0 := Lib.hid k0
  have K1 := Lib.hid k1
  clear h1 h2 h3 k0 k1 hb0
  cases hP : okPass x0 x1 x2 x3
  · have e : okStockAll x0 x1 x2 x3 y0 y1 = false := by simp [okStockAll, hP]
    rw [e]
    rw [hP] at HC
    clear e hP
    go_enter Try.func56, Try.ntmps56
    go_wp2_with fail
    refine HC.out.mono ?_
    rintro e w1 ⟨rfl, hb1⟩
    have HB1 := Lib.hid (HB0.out.trans (hb1.mono (by simp <;> omega)))
    clear hb1
    go_wp2
    go_ret
    exact ⟨rfl, HB1.out⟩
  · rw [hP] at HC
    have hok := okPass_ok hP
    have hfl := hok.2.2.2.2.2.1
    have HP := Lib.hid hP
    have HOK := Lib.hid hok
    have HFL := Lib.hid hfl
    clear hP hok hfl
    cases hl : ((y0.length : Int) != x1.length)
    rotate_left
    · have e : okStockAll x0 x1 x2 x3 y0 y1 = false := by
        have : ¬ y0.length = x1.length := by simp at hl; omega
        simp [okStockAll, okStock, this]
      rw [e]
      clear e
      go_enter Try.func56, Try.ntmps56
      go_wp2_with fail
      refine HC.out.mono ?_
      rintro e w1 ⟨rfl, hb1⟩
      have f0 : w1.cell? ⟨w.heap.size, 0, none⟩ = some (.int .i64 x0) := by rw [bcell1 hb1 (by simp <;> omega)]; simp [go_sem]
      have f1 : w1.cell? ⟨w.heap.size, 1, none⟩ = some (.slice a1 x1.length c1) := by rw [bcell1 hb1 (by simp <;> omega)]; simp [go_sem]
      have f2 : w1.cell? ⟨w.heap.size, 2, none⟩ = some (.slice a2 x2.length c2) := by rw [bcell1 hb1 (by simp <;> omega)]; simp [go_sem]
      have f3 : w1.cell? ⟨w.heap.size, 3, none⟩ = some (.slice a3 x3.length c3) := by rw [bcell1 hb1 (by simp <;> omega)]; simp [go_sem]
      have e0 : w1.cell? ⟨w.heap.size + 1, 0, none⟩ = some (.slice b0 y0.length d0) := by rw [bcell1 hb1 (by simp <;> omega)]; simp [go_sem]
      have e1 : w1.cell? ⟨w.heap.size + 1, 1, none⟩ = some (.slice b1 y1.length d1) := by rw [bcell1 hb1 (by simp <;> omega)]; simp [go_sem]
      have HB1 := Lib.hid (HB0.out.trans (hb1.mono (by simp <;> omega)))
      clear hb1
      go_wp2
      go_ret
      exact ⟨rfl, HB1.out⟩
    · have HL : Hid (y0.length = x1.length) := Lib.hid (by simp at hl; omega)
      cases hv : validBagS x0 y1
      · have e : okStockAll x0 x1 x2 x3 y0 y1 = false := by simp [okStockAll, okStock, hv]
        rw [e]
        have HV := Lib.hid hv
        clear e hv
        go_enter Try.func56, Try.ntmps56
        go_wp2_with fail
        refine HC.out.mono ?_
        rintro e w1 ⟨rfl, hb1⟩
        have f0 : w1.cell? ⟨w.heap.size, 0, none⟩ = some (.int .i64 x0) := by rw [bcell1 hb1 (by simp <;> omega)]; simp [go_sem]
        have f1 : w1.cell? ⟨w.heap.size, 1, none⟩ = some (.slice a1 x1.length c1) := by rw [bcell1 hb1 (by simp <;> omega)]; simp [go_sem]
        have f2 : w1.cell? ⟨w.heap.size, 2, none⟩ = some (.slice a2 x2.length c2) := by rw [bcell1 hb1 (by simp <;> omega)]; simp [go_sem]
        have f3 : w1.cell? ⟨w.heap.size, 3, none⟩ = some (.slice a3 x3.length c3) := by rw [bcell1 hb1 (by simp <;> omega)]; simp [go_sem]
        have e0 : w1.cell? ⟨w.heap.size + 1, 0, none⟩ = some (.slice b0 y0.length d0) := by rw [bcell1 hb1 (by simp <;> omega)]; simp [go_sem]
        have e1 : w1.cell? ⟨w.heap.size + 1, 1, none⟩ = some (.slice b1 y1.length d1) := by rw [bcell1 hb1 (by simp <;> omega)]; simp [go_sem]
        have HB1 := Lib.hid (HB0.out.trans (hb1.mono (by simp <;> omega)))
        have HVB := Lib.hid (validBag_c x0 Any b1 d1 y1 w1 (K1.out.below HB1.out))
        rw [HV.out] at HVB
        clear hb1
        go_wp2_with fail
        refine HVB.out.mono ?_
        rintro e w2 ⟨rfl, rfl⟩
        go_wp2
        go_ret
        exact ⟨rfl, HB1.out⟩
      · have HV := Lib.hid hv
        have HYL := Lib.hid (validBagS_ok hv).2
        clear hv
        go_enter Try.func56, Try.ntmps56
        go_wp2_with fail
        refine HC.out.mono ?_
        rintro e w1 ⟨rfl, hb1⟩
        have f0 : w1.cell? ⟨w.heap.size, 0, none⟩ = some (.int .i64 x0) := by rw [bcell1 hb1 (by simp <;> omega)]; simp [go_sem]
        have f1 : w1.cell? ⟨w.heap.size, 1, none⟩ = some (.slice a1 x1.length c1) := by rw [bcell1 hb1 (by simp <;> omega)]; simp [go_sem]
        have f2 : w1.cell? ⟨w.heap.size, 2, none⟩ = some (.slice a2 x2.length c2) := by rw [bcell1 hb1 (by simp <;> omega)]; simp [go_sem]
        have f3 : w1.cell? ⟨w.heap.size, 3, none⟩ = some (.slice a3 x3.length c3) := by rw [bcell1 hb1 (by simp <;> omega)]; simp [go_sem]
        have e0 : w1.cell? ⟨w.heap.size + 1, 0, none⟩ = some (.slice b0 y0.length d0) := by rw [bcell1 hb1 (by simp <;> omega)]; simp [go_sem]
        have e1 : w1.cell? ⟨w.heap.size + 1, 1, none⟩ = some (.slice b1 y1.length d1) := by rw [bcell1 hb1 (by simp <;> omega)]; simp [go_sem]
        have HB1 := Lib.hid (HB0.out.trans (hb1.mono (by simp <;> omega)))
        have HVB := Lib.hid (validBag_c x0 Any b1 d1 y1 w1 (K1.out.below HB1.out))
        rw [HV.out] at HVB
        clear hb1
        go_wp2_with fail
        refine HVB.out.mono ?_
        rintro e w2 ⟨rfl, rfl⟩
        clear f1 f3
        go_wp2
        go_loopw [5, 6, 30] (fun _ _ i wr => ∃ k : Nat, k ≤ y1.length ∧ i = .int .i64 k ∧ w1 = wr ∧ (∀ j, j < k → free1 x2 y1 j = false)) (fun _ _ i _ => y1.length - (intOf i).toNat)
        case atStart => exact ⟨0, Nat.zero_le _, rfl, rfl, by omega⟩
        case round =>
          obtain ⟨k, hk, rfl, rfl, hj⟩ := hrel
          have HJ := Lib.hid hj
          clear hj
          by_cases hlt : k < y1.length
          · have k2 : (k : Int) < x2.length := by have := HFL.out; have := HYL.out; omega
            have g1 := (K1.out.below HB1.out).cell k hlt
            have g2 := (H2.out.below HB1.out).cell k (by omega)
            by_cases hp : 0 < nth y1 k
            · cases hb : nthB x2 k
              · have HR : Hid (free1 x2 y1 k = false) := Lib.hid (by simp [free1, hb])
                rw [hb] at g2
                clear hb
                go_wp2
                go_roundw
                case rel => exact ⟨k + 1, by omega, by go_num, trivial, upto HJ.out HR.out⟩
                case measure => simp [intOf]; omega
              · have HR : Hid (okStockAll x0 x1 x2 x3 y0 y1 = false) := Lib.hid (by
                  have : noFreeS x2 y1 = false := noFreeS_false hlt (by simp [free1, hb, hp])
                  simp [okStockAll, okStock, this])
                rw [hb] at g2
                clear hb
                go_wp2
                go_ret
                exact ⟨ret_bool HR.out.symm, HB1.out⟩
            · have HR : Hid (free1 x2 y1 k = false) := Lib.hid (by simp [free1, hp])
              go_wp2
              go_roundw
              case rel => exact ⟨k + 1, by omega, by go_num, trivial, upto HJ.out HR.out⟩
              case measure => simp [intOf]; omega
          · have e : k = y1.length := by omega
            have hnf := noFreeS_true (free := x2) (xs := y1) (e ▸ HJ.out)
            have HR : Hid (okStockAll x0 x1 x2 x3 y0 y1 = allII (validBagS x0) y0) := Lib.hid (by simp only [okStockAll, okStock, HP.out, HV.out, hnf, HL.out, decide_true, Bool.true_and])
            have HCF := Lib.hid (containsFuncII_c 74 #[.pointer (some ⟨w.heap.size, 0, none⟩)] (fun p => !validBagS x0 p) (callFunc_run Try.func74 (by kernel_rfl) rfl) Any b0 d0 y0 w1 (K0.out.below HB1.out)
              (Lib.hid fun j hj a' d' h => validStock1_c x0 w.heap.size a' d' _ w1 h f0))
            rw [anyII_not] at HCF
            clear hnf
            go_wp2_with fail
            refine HCF.out.mono ?_
            rintro e w9 ⟨rfl, rfl⟩
            go_wp2
            go_ret
            exact ⟨ret_bool (by first | (rw [HR.out]; done) | (rw [HR.out]; simp)), HB1.out⟩
theorem implValidStock_d (x0 : Int) (x1 : List Int) (x2 : List Bool) (x3 : List PR) (y0 : List (List Int)) (y1 : List Int) {v1 v2 v3 u0 u1 : Value} {F1 F2 F3 G0 G1 : List Nat} (w : World) (h1 : Ow w (dI x1) v1 F1) (h2 : Ow w (dB x2) v2 F2) (h3 : Ow w (dPR x3) v3 F3) (k0 : Ow w (dII y0) u0 G0) (k1 : Ow w (dI y1) u1 G1) :
    Calls Try.prog 56 #[.agg #[.int .i64 x0, v1, v2, v3], .agg #[u0, u1]] w (RetV w (.bool (okStockAll x0 x1 x2 x3 y0 y1))) := by
  obtain ⟨a1, c1, rfl, hc1, j1⟩ := h1.capI
  obtain ⟨a2, c2, rfl, j2⟩ := Rd_B.1 h2.rdA
  obtain ⟨a3, c3, rfl, _⟩ := Rd_PR h3.rdA
  obtain ⟨b0, d0, rfl, j3⟩ := Rd_II.1 k0.rdA
  obtain ⟨b1, d1, rfl, j4⟩ := Rd_I.1 k1.rdA
  exact validStock_c x0 x1 x2 x3 y0 y1 a1 a2 a3 b0 b1 c1 c2 c3 d0 d1 w j1 hc1 j2 h3.rdA j3 j4
set_option maxHeartbeats 4000000 in
theorem l06Stock_c (x0 : Int) (np nr : Nat) (x2 : List Bool) (y0 : List (List Int)) (y1 : List Int) (a1 a2 a3 b0 b1 : Option Addr) (c1 c2 c3 d0 d1 : Nat) (p q : Nat) (w : World) (h2 : SlB Any w a2 x2) (k0 : SlII Any w b0 y0) (k1 : SlI Any w b1 y1)
    (hp0 : w.cell? ⟨p, 0, none⟩ = some (.int .i64 x0)) (hp1 : w.cell? ⟨p, 1, none⟩ = some (.slice a1 np c1)) (hp2 : w.cell? ⟨p, 2, none⟩ = some (.slice a2 x2.length c2)) (hp3 : w.cell? ⟨p, 3, none⟩ = some (.slice a3 nr c3))
    (hq0 : w.cell? ⟨q, 0, none⟩ = some (.slice b0 y0.length d0)) (hq1 : w.cell? ⟨q, 1, none⟩ = some (.slice b1 y1.length d1)) (hx0 : 1 ≤ x0 ∧ x0 ≤ 8) (_hnp : np ≤ 4) (hfl : (x2.length : Int) = x0) :
    Calls Try.prog 46 #[.pointer (some ⟨p, 0, none⟩), .pointer (some ⟨q, 0, none⟩)] w (RetV w (.bool (okStock x0 np x2 y0 y1))) := by
  have l0 := k0.len
  have l1 := k1.len
  have l2 := h2.len
  unfold maxLen at l0 l1 l2
  have i0 := k0.ix tabII.under tabII.size d0
  have i1 := k1.ix tabI.under tabI.size d1
  have i2 := h2.ix tabB.under tabB.size c2
  have hpl : p < w.heap.size := World.block_lt_of_cell? w _ hp0
  have hql : q < w.heap.size := World.block_lt_of_cell? w _ hq0
  have hv : ∀ x : Wd w, Calls Try.prog 47 #[.int .i64 x0, .slice b1 y1.length d1] (wat x) (RetP (wat x) (.bool (validBagS x0 y1))) := fun x => by rw [← bag6_eq hx0]; exact l06Bag_c x0 Any b1 d1 y1 _ (k1.below (wat_below x))
  have HV := Lib.hid (fun x : Wd w => callsP (hv x))
  have H2 := Lib.hid h2
  have K0 := Lib.hid k0
  have K1 := Lib.hid k1
  have HX0 := Lib.hid hx0
  have HFL := Lib.hid hfl
  have z0 := wat_cell hp0
  have z1 := wat_cell hp1
  have z2 := wat_cell hp2
  have z3 := wat_cell hp3
  have t0 := wat_cell hq0
  have t1 := wat_cell hq1
  clear hv h2 k0 k1 hfl
  cases hl : ((y0.length : Int) != np)
  rotate_left
  · have e : okStock x0 np x2 y0 y1 = false := by
      have : ¬ y0.length = np := by simp at hl; omega
      simp [okStock, this]
    rw [e]
    clear e
    go_enter Try.func46, Try.ntmps46
    go_wp2
    refine wp_quiet_wd (by kernel_rfl) (by kernel_rfl) ?_
    repeat (go_big_quiet_step (first | with_reducible exact wdV (HV.out _)))
    refine wpQuiet_nil ?_
    rintro _ ⟨wq, rfl⟩
    go_wp2
    go_ret
    exact ⟨rfl, wat_below wq⟩
  · have HL : Hid (y0.length = np) := Lib.hid (by simp at hl; omega)
    cases hvb : validBagS x0 y1
    · have e : okStock x0 np x2 y0 y1 = false := by simp [okStock, hvb]
      rw [e]
      rw [hvb] at HV
      clear e hvb
      go_enter Try.func46, Try.ntmps46
      go_wp2
      refine wp_quiet_wd (by kernel_rfl) (by kernel_rfl) ?_
      repeat (go_big_quiet_step (first | with_reducible exact wdV (HV.out _)))
      refine wpQuiet_nil ?_
      rintro _ ⟨wq, rfl⟩
      go_wp2
      go_ret
      exact ⟨rfl, wat_below wq⟩
    · have HVB := Lib.hid hvb
      have HYL := Lib.hid (validBagS_ok hvb).2
      rw [hvb] at HV
      clear hvb
      go_enter Try.func46, Try.ntmps46
      go_wp2
      refine wp_quiet_wd (by kernel_rfl) (by kernel_rfl) ?_
      repeat (go_big_quiet_step (first | with_reducible exact wdV (HV.out _)))
      refine wpQuiet_nil ?_
      rintro _ ⟨wq, rfl⟩
      have HWB := Lib.hid (wat_below wq)
      clear z0 z1 z2 z3 t0 t1
      go_wp2
      go_loopw [5] (fun i wr => ∃ k : Nat, k ≤ y0.length ∧ i = .int .i64 k ∧ Below w.heap.size w wr ∧ (∀ j, j < k → validBagS x0 (nthR y0 j) = true)) (fun i _ => y0.length - (intOf i).toNat)
      case atStart => exact ⟨0, Nat.zero_le _, rfl, HWB.out, by omega⟩
      case round =>
        obtain ⟨k, hk, rfl, hb, hj⟩ := hrel
        have HJ := Lib.hid hj
        have HB := Lib.hid hb
        have f0 := (bcell1 hb hpl).trans hp0
        have f2 := (bcell1 hb hpl).trans hp2
        have e0 := (bcell1 hb hql).trans hq0
        have e1 := (bcell1 hb hql).trans hq1
        clear hj hb
        by_cases hlt : k < y0.length
        · obtain ⟨a', d', g1, hs⟩ := (K0.out.below HB.out).cell k hlt
          have hv : ∀ x : Wd wr, Calls Try.prog 47 #[.int .i64 x0, .slice a' (nthR y0 k).length d'] (wat x) (RetP (wat x) (.bool (validBagS x0 (nthR y0 k)))) := fun x => by rw [← bag6_eq HX0.out]; exact l06Bag_c x0 Any a' d' _ _ (hs.below (wat_below x))
          have HV2 := Lib.hid (fun x : Wd wr => callsP (hv x))
          have z0 := wat_cell f0
          have t0 := wat_cell e0
          have t1 := wat_cell g1
          clear hv hs
          cases hp : validBagS x0 (nthR y0 k)
          · have HR : Hid (okStock x0 np x2 y0 y1 = false) := Lib.hid (by
              have := allII_false (p := validBagS x0) hlt hp
              simp [okStock, this])
            rw [hp] at HV2
            clear hp
            go_wp2
            refine wp_quiet_wd (by kernel_rfl) (by kernel_rfl) ?_
            repeat (go_big_quiet_step (with_reducible exact wdV (HV2.out _)))
            refine wpQuiet_nil ?_
            rintro _ ⟨wq, rfl⟩
            go_wp2
            go_ret
            exact ⟨ret_bool HR.out.symm, bnext HB.out (wat_below wq) (Nat.le_refl _)⟩
          · have HR := Lib.hid hp
            rw [hp] at HV2
            clear hp
            go_wp2
            refine wp_quiet_wd (by kernel_rfl) (by kernel_rfl) ?_
            repeat (go_big_quiet_step (with_reducible exact wdV (HV2.out _)))
            refine wpQuiet_nil ?_
            rintro _ ⟨wq, rfl⟩
            go_wp2
            go_roundw
            case rel => exact ⟨k + 1, by omega, by go_num, bnext HB.out (wat_below wq) (Nat.le_refl _), upto HJ.out HR.out⟩
            case measure => simp [intOf]; omega
        · have e : k = y0.length := by omega
          have HA := Lib.hid (allII_true (p := validBagS x0) (xs := y0) (e ▸ HJ.out))
          clear HJ e
          go_wp2
          clear hlt hk
          go_loopw [6] (fun i wx => ∃ k : Nat, k ≤ y1.length ∧ i = .int .i64 k ∧ wr = wx ∧ (∀ j, j < k → free1 x2 y1 j = false)) (fun i _ => y1.length - (intOf i).toNat)
          case atStart => exact ⟨0, Nat.zero_le _, rfl, rfl, by omega⟩
          case round =>
            obtain ⟨k, hk, rfl, rfl, hj⟩ := hrel
            have HJ := Lib.hid hj
            clear hj
            by_cases hlt : k < y1.length
            · have k2 : (k : Int) < x2.length := by have := HFL.out; have := HYL.out; omega
              have g1 := (K1.out.below HB.out).cell k hlt
              have g2 := (H2.out.below HB.out).cell k (by omega)
              cases hb : nthB x2 k
              · have HR : Hid (free1 x2 y1 k = false) := Lib.hid (by simp [free1, hb])
                rw [hb] at g2
                clear hb
                go_wp2
                go_roundw
                case rel => exact ⟨k + 1, by omega, by go_num, trivial, upto HJ.out HR.out⟩
                case measure => simp [intOf]; omega
              · rw [hb] at g2
                by_cases hp : 0 < nth y1 k
                · have HR : Hid (okStock x0 np x2 y0 y1 = false) := Lib.hid (by
                    have : noFreeS x2 y1 = false := noFreeS_false hlt (by simp [free1, hb, hp])
                    simp [okStock, this])
                  clear hb
                  go_wp2
                  go_ret
                  exact ⟨ret_bool HR.out.symm, HB.out⟩
                · have HR : Hid (free1 x2 y1 k = false) := Lib.hid (by simp [free1, hp])
                  clear hb
                  go_wp2
                  go_roundw
                  case rel => exact ⟨k + 1, by omega, by go_num, trivial, upto HJ.out HR.out⟩
                  case measure => simp [intOf]; omega
            · have e : k = y1.length := by omega
              have hnf := noFreeS_true (free := x2) (xs := y1) (e ▸ HJ.out)
              have HR : Hid (okStock x0 np x2 y0 y1 = true) := Lib.hid (by simp only [okStock, HVB.out, hnf, HA.out, HL.out, decide_true, Bool.and_self])
              clear hnf
              go_wp2
              go_ret
              exact ⟨ret_bool HR.out.symm, HB.out⟩
end Go.Proofs.Ytkjmehpehopncaa
