/- Parts and counts: what the functions on packings compute; lists of lists that are looked through. -/
import Derived.Test.YtncndnholheemaaJ
import Derived.Test.YtncndnholheemaaK
import Derived.Test.YtncndnholheemaaU
import Derived.Test.YtncndnholheemaaBW
namespace Go.Proofs.Ytncndnholheemaa
open Go.RowKit

/-- The first place where p holds, or -1. -/
def idxII (p : List Int → Bool) (xs : List (List Int)) : Int := match xs.findIdx? p with | some i => (i : Int) | none => -1
theorem idxII_at {p : List Int → Bool} {xs : List (List Int)} {k : Nat} (hk : k < xs.length) (h : ∀ j, j < k → p (nthR xs j) = false) (hp : p (nthR xs k) = true) : idxII p xs = k := by
  have : xs.findIdx? p = some k := by
    rw [List.findIdx?_eq_some_iff_getElem]
    refine ⟨hk, by simpa [nthR, hk] using hp, fun j hj => ?_⟩
    have := h j hj
    simpa [nthR, show j < xs.length by omega] using this
  simp [idxII, this]
theorem idxII_none {p : List Int → Bool} {xs : List (List Int)} (h : ∀ j, j < xs.length → p (nthR xs j) = false) : idxII p xs = -1 := by
  have : xs.findIdx? p = none := by
    rw [List.findIdx?_eq_none_iff]
    intro x hx
    obtain ⟨j, hj, rfl⟩ := List.getElem_of_mem hx
    simpa [nthR, hj] using h j hj
  simp [idxII, this]
def anyII (p : List Int → Bool) (xs : List (List Int)) : Bool := xs.any p
def allII (p : List Int → Bool) (xs : List (List Int)) : Bool := xs.all p
theorem idxII_any (p : List Int → Bool) (xs : List (List Int)) : decide (0 ≤ idxII p xs) = anyII p xs := by
  unfold idxII anyII
  cases h : xs.findIdx? p with
  | none =>
    have := List.findIdx?_eq_none_iff.1 h
    have h2 : xs.any p = false := by rw [List.any_eq_false]; intro x hx; simp [this x hx]
    simp [h2]
  | some i =>
    obtain ⟨hi, hp, _⟩ := List.findIdx?_eq_some_iff_getElem.1 h
    have h2 : xs.any p = true := List.any_eq_true.2 ⟨_, List.getElem_mem hi, hp⟩
    simp [h2]
theorem anyII_not (p : List Int → Bool) (xs : List (List Int)) : anyII (fun n => !p n) xs = !allII p xs := by
  simp [anyII, allII, List.all_eq_not_any_not]
theorem anyII_nn (p : List Int → Bool) (xs : List (List Int)) : (!anyII p xs) = allII (fun n => !p n) xs := by
  simp [anyII, allII, List.all_eq_not_any_not]
theorem allII_true {p : List Int → Bool} {xs : List (List Int)} (h : ∀ j, j < xs.length → p (nthR xs j) = true) : allII p xs = true := by
  rw [allII, List.all_eq_true]
  intro x hx
  obtain ⟨j, hj, rfl⟩ := List.getElem_of_mem hx
  simpa [nthR_lt hj] using h j hj
theorem allII_false {p : List Int → Bool} {xs : List (List Int)} {k : Nat} (hk : k < xs.length) (h : p (nthR xs k) = false) : allII p xs = false := by
  rw [allII, List.all_eq_false]
  exact ⟨_, List.getElem_mem hk, by simpa [nthR_lt hk] using h⟩
theorem allII_at {p : List Int → Bool} {xs : List (List Int)} (h : allII p xs = true) {k : Nat} (hk : k < xs.length) : p (nthR xs k) = true := by
  rw [allII, List.all_eq_true] at h
  rw [nthR_lt hk]; exact h _ (List.getElem_mem hk)

/-- A part is for so many kinds and has an object. -/
def fitPart (kinds : Int) (p : List Int) : Bool := ((p.length : Int) == kinds) && !(sumS p == 0)
/-- The code of parts for so many kinds. -/
def askS (kinds : Int) (ps : List (List Int)) : Int := if allII isBagS ps = true then (if ps.length ≤ 8 ∧ allII (fitPart kinds) ps = true then 0 else 2) else 1
def cntsOk (n : Nat) (cs : List Int) : Bool := allB cntOk cs && ((cs.length : Int) == n)
/-- The code of parts and counts. -/
def codeS (kinds : Int) (ps : List (List Int)) (cs : List Int) : Int := if askS kinds ps = 0 then (if cntsOk ps.length cs = true then 0 else 2) else askS kinds ps
theorem askS_ok {kinds : Int} {ps : List (List Int)} (h : askS kinds ps = 0) : allII isBagS ps = true ∧ ps.length ≤ 8 ∧ allII (fitPart kinds) ps = true := by
  unfold askS at h
  split at h
  · split at h
    · rename_i h1 h2; exact ⟨h1, h2.1, h2.2⟩
    · cases h
  · cases h
theorem askS_at {kinds : Int} {ps : List (List Int)} (h : askS kinds ps = 0) {k : Nat} (hk : k < ps.length) : isBagS (nthR ps k) = true ∧ ((nthR ps k).length : Int) = kinds ∧ ¬ sumS (nthR ps k) = 0 := by
  obtain ⟨h1, _, h3⟩ := askS_ok h
  have a := allII_at h1 hk
  have b := allII_at h3 hk
  simp [fitPart] at b
  exact ⟨a, b⟩
theorem codeS_ok {kinds : Int} {ps : List (List Int)} {cs : List Int} (h : codeS kinds ps cs = 0) : askS kinds ps = 0 ∧ cntsOk ps.length cs = true := by
  unfold codeS at h
  split at h
  · split at h
    · rename_i h1 h2; exact ⟨h1, h2⟩
    · cases h
  · rename_i h1; exact absurd h h1
theorem cntsOk_at {n : Nat} {cs : List Int} (h : cntsOk n cs = true) : cs.length = n ∧ ∀ k, k < cs.length → 0 ≤ nth cs k ∧ nth cs k ≤ 1000 := by
  simp only [cntsOk, Bool.and_eq_true] at h
  refine ⟨by have := h.2; simp at this; omega, fun k hk => ?_⟩
  have := allB_at h.1 hk
  simpa [cntOk, inRg] using this
/-- The sum of the first k parts, each as often as its count says. -/
def packTo (kinds : Nat) (ps : List (List Int)) (cs : List Int) (k : Nat) : List Int := (List.range k).foldl (fun out i => plusS out (nthR ps i) (nth cs i)) (List.replicate kinds 0)
theorem packTo_succ (kinds : Nat) (ps : List (List Int)) (cs : List Int) (k : Nat) : packTo kinds ps cs (k + 1) = plusS (packTo kinds ps cs k) (nthR ps k) (nth cs k) := by simp [packTo, List.range_succ]
theorem packTo_len (kinds : Nat) (ps : List (List Int)) (cs : List Int) : ∀ k, (packTo kinds ps cs k).length = kinds
  | 0 => by simp [packTo]
  | k + 1 => by rw [packTo_succ, plusS_len, packTo_len kinds ps cs k]
def packS (kinds : Nat) (ps : List (List Int)) (cs : List Int) : List Int := packTo kinds ps cs ps.length
theorem packS_len (kinds : Nat) (ps : List (List Int)) (cs : List Int) : (packS kinds ps cs).length = kinds := packTo_len _ _ _ _
def fullS (rest : List Int) (ps : List (List Int)) : Bool := allII (fun p => !withinS p rest) ps
def packedBagS (ps : List (List Int)) (cs : List Int) : List Int × Int :=
  if codeS (nthR ps 0).length ps cs = 0 then (if ps.length = 0 then ([], 4) else toldS (packS (nthR ps 0).length ps cs)) else ([], codeS (nthR ps 0).length ps cs)
theorem packedBagS_len (ps : List (List Int)) (cs : List Int) : (packedBagS ps cs).1.length ≤ (nthR ps 0).length := by
  unfold packedBagS
  split
  · split
    · simp
    · exact Nat.le_trans (toldS_len _) (by rw [packS_len]; exact Nat.le_refl _)
  · simp
def isPackingS (b : List Int) (ps : List (List Int)) (cs : List Int) : Bool × Int :=
  if isBagS b = true then (if codeS b.length ps cs = 0 then (withinS (packS b.length ps cs) b && fullS (plusS b (packS b.length ps cs) (-1)) ps, 0) else (false, codeS b.length ps cs)) else (false, 1)

/- Parts, counts and packings: contracts. -/
set_option maxHeartbeats 400000 in
theorem indexFuncII_c (f : FuncId) (caps : Array Value) (p : List Int → Bool) (hcall : ∀ args w, (callFunc f args).run Try.prog w = .ok (.enter f args) w)
   (S : Nat → Prop) (a : Option Addr) (c : Nat) (xs : List (List Int)) (w : World) (hx : SlII S w a xs)
   (hf : Hid (∀ j, j < xs.length → ∀ a' c', SlI S w a' (nthR xs j) → Calls Try.prog f (#[.slice a' (nthR xs j).length c'] ++ caps) w (RetP w (.bool (p (nthR xs j)))))) :
    Calls Try.prog 137 #[.slice a xs.length c, .func (.func f) #[] caps] w (RetP w (.int .i64 (idxII p xs))) := by
  have l1 := hx.len
  unfold maxLen at l1
  have i1 := hx.ix tabII.under tabII.size c
  go_enter Try.func137, Try.ntmps137
  go_wp2
  go_loopw [5, 8] (fun _ i wr => ∃ k : Nat, k ≤ xs.length ∧ i = .int .i64 k ∧ w = wr ∧ (∀ j, j < k → p (nthR xs j) = false)) (fun _ i _ => xs.length - (intOf i).toNat)
  case atStart => exact ⟨0, Nat.zero_le _, rfl, rfl, by omega⟩
  case round =>
      obtain ⟨k, hk, rfl, rfl, hj⟩ := hrel
      have HJ := Lib.hid hj
      clear hj
      by_cases hlt : k < xs.length
      · obtain ⟨a', c', g1, hs⟩ := hx.cell k hlt
        have HC := Lib.hid (hf.out k hlt a' c' hs)
        go_wp2_with fail
        refine HC.out.mono ?_
        rintro e w' ⟨rfl, rfl⟩
        cases hp : p (nthR xs k)
        · have hp' := Lib.hid hp
          clear hp
          go_wp2
          go_roundw
          case rel => exact ⟨k + 1, by omega, by go_num, trivial, upto HJ.out hp'.out⟩
          case measure => simp [intOf]; omega
        · go_wp2
          go_ret
          exact ⟨ret_int (idxII_at hlt HJ.out hp).symm, rfl⟩
      · go_wp2
        go_ret
        have e : k = xs.length := by omega
        exact ⟨ret_int (idxII_none (e ▸ HJ.out)).symm, rfl⟩
theorem containsFuncII_c (f : FuncId) (caps : Array Value) (p : List Int → Bool) (hcall : ∀ args w, (callFunc f args).run Try.prog w = .ok (.enter f args) w)
   (S : Nat → Prop) (a : Option Addr) (c : Nat) (xs : List (List Int)) (w : World) (hx : SlII S w a xs)
   (hf : Hid (∀ j, j < xs.length → ∀ a' c', SlI S w a' (nthR xs j) → Calls Try.prog f (#[.slice a' (nthR xs j).length c'] ++ caps) w (RetP w (.bool (p (nthR xs j)))))) :
    Calls Try.prog 100 #[.slice a xs.length c, .func (.func f) #[] caps] w (RetP w (.bool (anyII p xs))) := by
  go_enter Try.func100, Try.ntmps100
  go_wp2_with fail
  refine (indexFuncII_c f caps p hcall S a c xs w hx hf).mono ?_
  rintro e w' ⟨rfl, rfl⟩
  go_wp2
  go_ret
  exact ⟨ret_bool (idxII_any p xs), rfl⟩
theorem codeS_bad {kinds : Int} {ps : List (List Int)} {cs : List Int} (h : allII isBagS ps = false) : codeS kinds ps cs = 1 := by simp [codeS, askS, h]
theorem codeS_two {kinds : Int} {ps : List (List Int)} {cs : List Int} (h : allII isBagS ps = true) (h2 : ¬ (ps.length ≤ 8 ∧ allII (fitPart kinds) ps = true ∧ cntsOk ps.length cs = true)) : codeS kinds ps cs = 2 := by
  unfold codeS askS
  simp only [h, if_true]
  by_cases h3 : ps.length ≤ 8 ∧ allII (fitPart kinds) ps = true
  · have h4 : ¬ cntsOk ps.length cs = true := fun e => h2 ⟨h3.1, h3.2, e⟩
    simp [h3, h4]
  · simp [h3]
theorem codeS_zero {kinds : Int} {ps : List (List Int)} {cs : List Int} (h : allII isBagS ps = true) (h1 : ps.length ≤ 8) (h2 : allII (fitPart kinds) ps = true) (h3 : cntsOk ps.length cs = true) : codeS kinds ps cs = 0 := by
  simp [codeS, askS, h, h1, h2, h3]
theorem cntsOk_true {n : Nat} {cs : List Int} (hl : cs.length = n) (h : ∀ j, j < n → cntOk (nth cs j) = true) : cntsOk n cs = true := by
  simp [cntsOk, allB_true (p := cntOk) (xs := cs) (by rw [hl]; exact h), hl]
theorem cntsOk_false {n : Nat} {cs : List Int} {k : Nat} (hk : k < cs.length) (h : cntOk (nth cs k) = false) : ¬ cntsOk n cs = true := by
  simp [cntsOk, allB_false hk h]
/-- The value holds the datum in blocks of its own that were not there in w. -/
def Kept (w wr : World) (d : D) (v : Value) : Prop := Below w.heap.size w wr ∧ ∃ F, Ow wr d v F ∧ F.Nodup ∧ ∀ g, g ∈ F → w.heap.size ≤ g
theorem Kept.next {w wr w' : World} {d : D} {v : Value} (hb : Below w.heap.size w wr) (h : RetD wr d (.returned v) w') : Kept w w' d v := by
  obtain ⟨u, F, e, h1, h2, h3, h4⟩ := h
  cases e
  exact ⟨bnext hb h1 (Nat.le_refl _), F, h2, h3, fun g hg => Nat.le_trans hb.size (h4 g hg)⟩
theorem Kept.ret {w wr : World} {d : D} {v : Value} (h : Kept w wr d v) : RetD w d (.returned v) wr := by
  obtain ⟨hb, F, h2, h3, h4⟩ := h
  exact ⟨v, F, rfl, hb, h2, h3, h4⟩
theorem Kept.below {w wr w' : World} {d : D} {v : Value} (h : Kept w wr d v) (hb : Below wr.heap.size wr w') : Kept w w' d v := by
  obtain ⟨hb0, F, h2, h3, h4⟩ := h
  exact ⟨bnext hb0 hb (Nat.le_refl _), F, h2.below hb, h3, h4⟩
theorem Kept.val {w wr : World} {xs : List Int} {v : Value} (h : Kept w wr (dI xs) v) : ∃ a c, v = .slice a xs.length c ∧ SlI Any wr a xs := by
  obtain ⟨_, F, h2, _, _⟩ := h
  obtain ⟨a, c, rfl⟩ := h2.val
  exact ⟨a, c, rfl, h2.arg⟩
theorem Kept.ofBld {E : Nat} {w w' : World} {v : Value} {xs : List Int} (h : Bld E w' w.heap.size v (xs.map (.int .i64))) (hl : xs.length ≤ maxLen) (hb : Below w.heap.size w w') : Kept w w' (dI xs) v := by
  obtain ⟨u, F, e, h1, h2, h3, h4⟩ := RetD.ofBld h hl hb
  cases e
  exact ⟨h1, F, h2, h3, h4⟩
/- Parts, counts and packings: the reference's functions. -/
theorem askS_bad {kinds : Int} {ps : List (List Int)} (h : allII isBagS ps = false) : askS kinds ps = 1 := by simp [askS, h]
theorem askS_two {kinds : Int} {ps : List (List Int)} (h : allII isBagS ps = true) (h2 : ¬ (ps.length ≤ 8 ∧ allII (fitPart kinds) ps = true)) : askS kinds ps = 2 := by
  unfold askS; rw [if_pos h, if_neg h2]
theorem askS_zero {kinds : Int} {ps : List (List Int)} (h : allII isBagS ps = true) (h1 : ps.length ≤ 8) (h2 : allII (fitPart kinds) ps = true) : askS kinds ps = 0 := by simp [askS, h, h1, h2]
/-- The code of a bag and parts. -/
def asked (xs : List Int) (ps : List (List Int)) : Int := if isBagS xs = true then askS xs.length ps else 1
/- The greedy packing, all packings: what they are. No program is in sight but at the end. -/
theorem timesTo_le {xs ys : List Int} : ∀ (k j : Nat), j < k → 0 < nth xs j → timesTo xs ys k ≤ nth ys j / nth xs j
  | 0, j, h, _ => absurd h (by omega)
  | k + 1, j, h, hp => by
    by_cases e : j = k
    · subst e
      rw [timesTo, if_pos hp]
      unfold minI; split <;> omega
    · have ih := timesTo_le (xs := xs) (ys := ys) k j (by omega) hp
      unfold timesTo
      split
      · unfold minI; split <;> omega
      · exact ih
/-- The numbers are those of a bag. -/
def small (xs : List Int) : Prop := ∀ j, j < xs.length → 0 ≤ nth xs j ∧ nth xs j ≤ 1000
theorem isBagS_small {xs : List Int} (h : isBagS xs = true) : small xs := fun _ hj => isBagS_at h hj
theorem take_bd {r p : List Int} (hl : p.length = r.length) (hr : small r) (hp : small p) {n : Int} (h0 : 0 ≤ n) (h1 : n ≤ timesS p r) :
    ∀ j, j < r.length → nth (plusS r p (-n)) j = nth r j - n * nth p j ∧ 0 ≤ nth r j - n * nth p j ∧ nth r j - n * nth p j ≤ 1000 := by
  intro j hj
  have hr' := hr j hj
  have hp' := hp j (by omega)
  have hm : 0 ≤ n * nth p j ∧ n * nth p j ≤ nth r j := by
    by_cases e : 0 < nth p j
    · have h2 : n ≤ nth r j / nth p j := Int.le_trans h1 (timesTo_le _ j (by omega) e)
      have h3 : n * nth p j ≤ nth r j / nth p j * nth p j := Int.mul_le_mul_of_nonneg_right h2 (by omega)
      have h4 := Int.ediv_mul_le (nth r j) (show nth p j ≠ 0 by omega)
      exact ⟨Int.mul_nonneg h0 hp'.1, by omega⟩
    · rw [show nth p j = 0 from by omega]; simp; exact hr'.1
  refine ⟨?_, by omega, by omega⟩
  rw [plusS, zipF_at hj, addW, Int.neg_mul]
  generalize n * nth p j = m at hm
  unfold wrap64
  omega
theorem take_small {r p : List Int} (hl : p.length = r.length) (hr : small r) (hp : small p) {n : Int} (h0 : 0 ≤ n) (h1 : n ≤ timesS p r) : small (plusS r p (-n)) := fun j hj => by
  rw [plusS_len] at hj
  have := take_bd hl hr hp h0 h1 j hj
  rw [this.1]; exact this.2
theorem timesS_bd {r p : List Int} (hl : p.length = r.length) (hr : small r) : 0 ≤ timesS p r ∧ timesS p r ≤ 1000 := timesTo_bd (fun j hj => hr j (by omega)) _ (Nat.le_refl _)
theorem best_times {p : List Int} (h : isBagS p = true) (h0 : ¬ sumS p = 0) (r : List Int) : bestTo p r p.length = timesS p r := by
  have := someTo_sum h
  rw [show (sumS p == 0) = false from by simpa using h0] at this
  have h2 : someTo p p.length = true := by simpa using this.symm
  rw [bestTo, if_pos h2]; rfl

/-- The first k counts of the greedy packing, and the rest. -/
def greedyTo (b : List Int) (ps : List (List Int)) : Nat → List Int × List Int
  | 0 => ([], b)
  | k + 1 => ((greedyTo b ps k).1 ++ [timesS (nthR ps k) (greedyTo b ps k).2], plusS (greedyTo b ps k).2 (nthR ps k) (-timesS (nthR ps k) (greedyTo b ps k).2))
theorem greedyTo_ok {b : List Int} {ps : List (List Int)} (hb : isBagS b = true) (ha : askS b.length ps = 0) : ∀ k, k ≤ ps.length → (greedyTo b ps k).1.length = k ∧ (greedyTo b ps k).2.length = b.length ∧ small (greedyTo b ps k).2
  | 0, _ => ⟨rfl, rfl, isBagS_small hb⟩
  | k + 1, hk => by
    obtain ⟨h1, h2, h3⟩ := greedyTo_ok hb ha k (by omega)
    obtain ⟨a1, a2, _⟩ := askS_at ha (show k < ps.length by omega)
    have hl : (nthR ps k).length = (greedyTo b ps k).2.length := by omega
    have ht := timesS_bd hl h3
    exact ⟨by simp [greedyTo, h1], by simp [greedyTo, plusS_len, h2], take_small hl h3 (isBagS_small a1) ht.1 (Int.le_refl _)⟩
def greedyS (b : List Int) (ps : List (List Int)) : List Int × Int := if asked b ps = 0 then ((greedyTo b ps ps.length).1, 0) else ([], asked b ps)
theorem asked_ok {b : List Int} {ps : List (List Int)} (h : asked b ps = 0) : isBagS b = true ∧ askS b.length ps = 0 := by
  unfold asked at h
  split at h
  · rename_i hA; exact ⟨hA, h⟩
  · cases h
theorem greedyS_len (b : List Int) (ps : List (List Int)) : (greedyS b ps).1.length ≤ 8 := by
  unfold greedyS
  split
  · rename_i h
    obtain ⟨h1, h2⟩ := asked_ok h
    have := (greedyTo_ok h1 h2 ps.length (Nat.le_refl _)).1
    have := (askS_ok h2).2.1
    simp only; omega
  · simp

/-- All counts of the parts for which what is left has a property. -/
def packs (P : List Int → Bool) : List (List Int) → List Int → List (List Int)
  | [], rest => if P rest = true then [[]] else []
  | p :: ps, rest => (List.range ((timesS p rest).toNat + 1)).flatMap fun (n : Nat) => (packs P ps (plusS rest p (-(n : Int)))).map ((n : Int) :: ·)
theorem packs_len (P : List Int → Bool) : ∀ (ps : List (List Int)) (rest x : List Int), x ∈ packs P ps rest → x.length = ps.length
  | [], rest, x, h => by
    unfold packs at h
    split at h
    · simp at h; subst h; rfl
    · cases h
  | p :: ps, rest, x, h => by
    simp only [packs, List.mem_flatMap, List.mem_map] at h
    obtain ⟨n, _, y, hy, rfl⟩ := h
    simp [packs_len P ps _ y hy]
def packsTo (P : List Int → Bool) (ps : List (List Int)) (p rest c : List Int) (j : Nat) : List (List Int) := (List.range j).flatMap fun (n : Nat) => (packs P ps (plusS rest p (-(n : Int)))).map fun y => c ++ (n : Int) :: y
theorem packsTo_succ (P : List Int → Bool) (ps : List (List Int)) (p rest c : List Int) (j : Nat) : packsTo P ps p rest c (j + 1) = packsTo P ps p rest c j ++ (packs P ps (plusS rest p (-(j : Int)))).map fun y => c ++ (j : Int) :: y := by simp [packsTo, List.range_succ]
theorem packsTo_full (P : List Int → Bool) (ps : List (List Int)) (p rest c : List Int) : packsTo P ps p rest c ((timesS p rest).toNat + 1) = (packs P (p :: ps) rest).map (c ++ ·) := by
  simp [packsTo, packs, List.map_flatMap, List.map_map, Function.comp_def]
theorem packsTo_split (P : List Int → Bool) (ps : List (List Int)) (p rest c : List Int) {j m : Nat} (h : j ≤ m) : ∃ tl, packsTo P ps p rest c m = packsTo P ps p rest c j ++ tl := by
  induction m with
  | zero => exact ⟨[], by rw [show j = 0 from by omega]; simp⟩
  | succ m ih =>
    by_cases e : j = m + 1
    · subst e; exact ⟨[], by simp⟩
    · obtain ⟨tl, e⟩ := ih (by omega)
      exact ⟨_, by rw [packsTo_succ, e, List.append_assoc]⟩
/-- The packings of a bag for whose rests something is so, and a code. -/
def packingsS (P : List (List Int) → List Int → Bool) (b : List Int) (ps : List (List Int)) : List (List Int) × Int :=
  if asked b ps = 0 then (if 16 < sumS b then ([], 3) else lim (packs (P ps) ps b)) else ([], asked b ps)
def maxP (ps : List (List Int)) (rest : List Int) : Bool := fullS rest ps
def exactP (_ps : List (List Int)) (rest : List Int) : Bool := sumS rest == 0
theorem packingsS_cnt (P : List (List Int) → List Int → Bool) (b : List Int) (ps : List (List Int)) : cnt (dII (packingsS P b ps).1) ≤ 16777216 := by
  unfold packingsS
  split
  · rename_i h
    split
    · simp [dII, cnt, cntL]
    · have := (askS_ok (asked_ok h).2).2.1
      exact lim_cnt (m := 8) (by omega) (fun x hx => by rw [packs_len _ _ _ x hx]; exact this)
  · simp [dII, cnt, cntL]
end Go.Proofs.Ytncndnholheemaa
