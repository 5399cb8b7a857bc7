/- What the functions on bags compute: plain lists and numbers. No program is in sight. -/
import Derived.Test.YtdcpdipakglnnaaA
namespace Go.Proofs.Ytdcpdipakglnnaa
open Go.RowKit

/-- The call returns v and leaves the old memory alone. -/
def RetV (w : World) (v : Value) (e : Ending) (w' : World) : Prop := e = .returned v ∧ Below w.heap.size w w'
/-- The call returns v and does nothing. -/
def RetP (w : World) (v : Value) (e : Ending) (w' : World) : Prop := e = .returned v ∧ w = w'
/-- The call returns v and at most draws. -/
def RetQ (w : World) (v : Value) (e : Ending) (w' : World) : Prop := e = .returned v ∧ ∃ n, w' = w.drewN n

theorem ret_bool {a b : Bool} (h : a = b) : Ending.returned (.bool a) = .returned (.bool b) := by rw [h]
theorem ret_int {k : IntKind} {a b : Int} (h : a = b) : Ending.returned (.int k a) = .returned (.int k b) := by rw [h]
theorem below_drewN (B : Nat) (w : World) : ∀ n, Below B w (w.drewN n) := fun _ => ⟨rfl, rfl, rfl, Nat.le_refl _, fun _ _ => rfl⟩
theorem RetV.v {w : World} {v : Value} {e : Ending} {w' : World} (h : RetV w v e w') : RetV w v e w' := h
theorem RetP.v {w : World} {v : Value} {e : Ending} {w' : World} (h : RetP w v e w') : RetV w v e w' := by
  obtain ⟨rfl, rfl⟩ := h; exact ⟨rfl, Below.refl _ _⟩
theorem RetQ.v {w : World} {v : Value} {e : Ending} {w' : World} (h : RetQ w v e w') : RetV w v e w' := by
  obtain ⟨rfl, n, rfl⟩ := h; exact ⟨rfl, below_drewN _ _ _⟩
theorem bnext {w w1 w2 : World} {B : Nat} (h : Below B w w1) (h2 : Below w1.heap.size w1 w2) (hB : B ≤ w.heap.size) : Below B w w2 := h.trans (h2.mono (Nat.le_trans hB h.size))
theorem bcell {W w1 : World} (hb : Below W.heap.size W w1) : (∀ b o, b < W.heap.size → w1.cell? ⟨b, o, none⟩ = W.cell? ⟨b, o, none⟩) ∧ (∀ b o, b < W.heap.size → w1.frozen? ⟨b, o, none⟩ = W.frozen? ⟨b, o, none⟩) :=
  ⟨fun b o h => hb.cell (p := ⟨b, o, none⟩) h, fun b o h => hb.frozen (p := ⟨b, o, none⟩) h⟩
theorem bcell1 {w w' : World} {B b i : Nat} (hb : Below B w w') (h : b < B) : w'.cell? ⟨b, i, none⟩ = w.cell? ⟨b, i, none⟩ := hb.cell (p := ⟨b, i, none⟩) h
theorem below_alloc (w : World) (o : Obj) : Below w.heap.size w (w.alloc o) := (Below.refl _ _).alloc (Nat.le_refl _) o
theorem RetD.from {w w1 w' : World} {d : D} {e : Ending} (hb : Below w.heap.size w w1) (h : RetD w1 d e w') : RetD w d e w' := by
  obtain ⟨v, F, he, h1, h2, h3, h4⟩ := h
  exact ⟨v, F, he, bnext hb h1 (Nat.le_refl _), h2, h3, fun g hg => Nat.le_trans hb.size (h4 g hg)⟩
theorem callFunc_run {P : Program} {f : FuncId} {fn : Func} (h : P.funcs[f]? = some fn) (h2 : (fn.name == "runtime.NumGoroutine") = false) (h3 : fn.body.isNone = false) (args : Array Value) (w : World) :
    (callFunc f args).run P w = .ok (.enter f args) w := by
  have h2' : fn.name ≠ "runtime.NumGoroutine" := by simpa using h2
  have h3' : fn.body ≠ none := fun h => by rw [h] at h3; cases h3
  simp [callFunc, program, h, h2', h3', Sem.run_bind, Sem.run]

theorem upto {k : Nat} {P : Nat → Prop} (h : ∀ j, j < k → P j) (hk : P k) : ∀ j, j < k + 1 → P j := fun j hj => by
  by_cases e : j = k
  · rw [e]; exact hk
  · exact h j (by omega)

/-- The call returns a datum in memory of its own and a code. -/
def RetDC (w : World) (d : D) (code : Int) (e : Ending) (w' : World) : Prop := ∃ v F, e = .returned (.tuple #[v, .int .i64 code]) ∧ Below w.heap.size w w' ∧ Ow w' d v F ∧ F.Nodup ∧ ∀ g, g ∈ F → w.heap.size ≤ g
theorem RetDC.from {w w1 w' : World} {d : D} {code : Int} {e : Ending} (hb : Below w.heap.size w w1) (h : RetDC w1 d code e w') : RetDC w d code e w' := by
  obtain ⟨v, F, he, h1, h2, h3, h4⟩ := h
  exact ⟨v, F, he, bnext hb h1 (Nat.le_refl _), h2, h3, fun g hg => Nat.le_trans hb.size (h4 g hg)⟩
theorem RetDC.ofD {w w' w2 : World} {d : D} {v : Value} {code : Int} (h : RetD w d (.returned v) w') (hb : Below w'.heap.size w' w2) : RetDC w d code (.returned (.tuple #[v, .int .i64 code])) w2 := by
  obtain ⟨u, F, he, h1, h2, h3, h4⟩ := h
  cases he
  exact ⟨v, F, rfl, bnext h1 hb (Nat.le_refl _), Ow.stable d v F (fun k hk => hb.block k (Ow.lt d v F h2 k hk)) h2, h3, h4⟩
theorem Ow_empty (w : World) (a : Option Addr) (c k : Nat) : Ow w (.l k []) (.slice a 0 c) [] := ⟨a, 0, c, rfl, by simp, by simp [maxLen], .inl ⟨rfl, rfl⟩⟩
theorem RetDC.none {w w' : World} (a : Option Addr) (c : Nat) (code : Int) (hb : Below w.heap.size w w') : RetDC w (dI []) code (.returned (.tuple #[.slice a 0 c, .int .i64 code])) w' :=
  ⟨_, [], rfl, hb, Ow_empty _ _ _ _, by simp, by simp⟩
theorem Ow.slI {w : World} {xs : List Int} {v : Value} {F : List Nat} (h : Ow w (dI xs) v F) : ∃ a c, v = .slice a xs.length c ∧ SlI (· ∈ F) w a xs := Rd_I.1 (Ow.rd _ _ _ h)

theorem wrap_64 (n : Int) : IntKind.i64.wrap n = wrap64 n := by rw [IntKind.wrap_i64, wrap64]

/-- n is from low to high. -/
def inRg (n low high : Int) : Bool := decide (low ≤ n) && decide (n ≤ high)
/-- p holds of all. -/
def allB (p : Int → Bool) (xs : List Int) : Bool := xs.all p
theorem allB_true {p : Int → Bool} {xs : List Int} (h : ∀ j, j < xs.length → p (nth xs j) = true) : allB p xs = true := by
  rw [allB, List.all_eq_true]
  intro x hx
  obtain ⟨j, hj, rfl⟩ := List.getElem_of_mem hx
  simpa [nth_lt hj] using h j hj
theorem allB_false {p : Int → Bool} {xs : List Int} {k : Nat} (hk : k < xs.length) (h : p (nth xs k) = false) : allB p xs = false := by
  rw [allB, List.all_eq_false]
  exact ⟨_, List.getElem_mem hk, by simpa [nth_lt hk] using h⟩
theorem allB_at {p : Int → Bool} {xs : List Int} (h : allB p xs = true) {k : Nat} (hk : k < xs.length) : p (nth xs k) = true := by
  rw [allB, List.all_eq_true] at h
  rw [nth_lt hk]; exact h _ (List.getElem_mem hk)

def cntOk (n : Int) : Bool := inRg n 0 1000
/-- A list is a bag. -/
def isBagS (xs : List Int) : Bool := allB cntOk xs && inRg xs.length 1 8
def validBagS (kinds : Int) (xs : List Int) : Bool := isBagS xs && ((xs.length : Int) == kinds)
theorem isBagS_len {xs : List Int} (h : isBagS xs = true) : 1 ≤ xs.length ∧ xs.length ≤ 8 := by
  simp [isBagS, inRg] at h; omega
theorem isBagS_at {xs : List Int} (h : isBagS xs = true) {k : Nat} (hk : k < xs.length) : 0 ≤ nth xs k ∧ nth xs k ≤ 1000 := by
  simp only [isBagS, Bool.and_eq_true] at h
  have := allB_at h.1 hk
  simpa [cntOk, inRg] using this
def twoS (xs ys : List Int) : Int := if isBagS xs = true ∧ isBagS ys = true then (if xs.length = ys.length then 0 else 2) else 1
theorem twoS_ok {xs ys : List Int} (h : twoS xs ys = 0) : isBagS xs = true ∧ isBagS ys = true ∧ xs.length = ys.length := by
  unfold twoS at h
  split at h
  · rename_i hh
    split at h
    · exact ⟨hh.1, hh.2, by assumption⟩
    · cases h
  · cases h

/-- The first place where p holds, or -1. -/
def idxF (p : Int → Bool) (xs : List Int) : Int := match xs.findIdx? p with | some i => (i : Int) | none => -1
theorem idxF_at {p : Int → Bool} {xs : List Int} {k : Nat} (hk : k < xs.length) (h : ∀ j, j < k → p (nth xs j) = false) (hp : p (nth xs k) = true) : idxF p xs = k := by
  have : xs.findIdx? p = some k := by
    rw [List.findIdx?_eq_some_iff_getElem]
    refine ⟨hk, by simpa [nth, hk] using hp, fun j hj => ?_⟩
    have := h j hj
    simpa [nth, show j < xs.length by omega] using this
  simp [idxF, this]
theorem idxF_none {p : Int → Bool} {xs : List Int} (h : ∀ j, j < xs.length → p (nth xs j) = false) : idxF p xs = -1 := by
  have : xs.findIdx? p = none := by
    rw [List.findIdx?_eq_none_iff]
    intro x hx
    obtain ⟨j, hj, rfl⟩ := List.getElem_of_mem hx
    simpa [nth, hj] using h j hj
  simp [idxF, this]
def anyB (p : Int → Bool) (xs : List Int) : Bool := xs.any p
theorem idxF_any (p : Int → Bool) (xs : List Int) : decide (0 ≤ idxF p xs) = anyB p xs := by
  unfold idxF anyB
  cases h : xs.findIdx? p with
  | none =>
    have := List.findIdx?_eq_none_iff.1 h
    have h2 : xs.any p = false := by rw [List.any_eq_false]; intro x hx; simp [this x hx]
    simp [h2]
  | some i =>
    obtain ⟨hi, hp, _⟩ := List.findIdx?_eq_some_iff_getElem.1 h
    have h2 : xs.any p = true := List.any_eq_true.2 ⟨_, List.getElem_mem hi, hp⟩
    simp [h2]
theorem anyB_not (p : Int → Bool) (xs : List Int) : anyB (fun n => !p n) xs = !allB p xs := by
  simp [anyB, allB, List.all_eq_not_any_not]

/-- The sum as the machine reckons it. -/
def sumTo (xs : List Int) : Nat → Int
  | 0 => 0
  | k + 1 => wrap64 (sumTo xs k + nth xs k)
def sumS (xs : List Int) : Int := sumTo xs xs.length

/-- Two lists taken together, place by place. -/
def zipF (g : Int → Int → Int) (xs ys : List Int) (k : Nat) : List Int := (List.range k).map fun i => g (nth xs i) (nth ys i)
theorem zipF_succ (g : Int → Int → Int) (xs ys : List Int) (k : Nat) : (zipF g xs ys k).map (Value.int .i64) ++ [Value.int .i64 (g (nth xs k) (nth ys k))] = (zipF g xs ys (k + 1)).map (Value.int .i64) := by
  simp [zipF, List.range_succ]
theorem zipF_len (g : Int → Int → Int) (xs ys : List Int) (k : Nat) : (zipF g xs ys k).length = k := by simp [zipF]
theorem zipF_at {g : Int → Int → Int} {xs ys : List Int} {k i : Nat} (h : i < k) : nth (zipF g xs ys k) i = g (nth xs i) (nth ys i) := by
  simp [nth, zipF, h]
def mulW (x y : Int) : Int := wrap64 (x * y)
def addW (f x y : Int) : Int := wrap64 (x + wrap64 (f * y))
def minI (x y : Int) : Int := if x < y then x else y
def maxI (x y : Int) : Int := if y < x then x else y
def plusS (xs ys : List Int) (f : Int) : List Int := zipF (addW f) xs ys xs.length
def weighS (xs ws : List Int) : Int := sumS (zipF mulW xs ws xs.length)
/-- No element of the first list is greater. -/
def withinS (xs ys : List Int) : Bool := (List.range xs.length).all fun i => decide (nth xs i ≤ nth ys i)
theorem withinS_true {xs ys : List Int} (h : ∀ j, j < xs.length → nth xs j ≤ nth ys j) : withinS xs ys = true := by
  rw [withinS, List.all_eq_true]; intro j hj; simpa using h j (by simpa using hj)
theorem withinS_false {xs ys : List Int} {k : Nat} (hk : k < xs.length) (h : nth ys k < nth xs k) : withinS xs ys = false := by
  rw [withinS, List.all_eq_false]; exact ⟨k, by simpa using hk, by simpa using h⟩
def bagSizeS (xs : List Int) : Int × Int := if isBagS xs = true then (sumS xs, 0) else (0, 1)
def isWithinS (xs ys : List Int) : Bool × Int := if twoS xs ys = 0 then (withinS xs ys, 0) else (false, twoS xs ys)
def weighBagS (xs ws : List Int) : Int × Int :=
  if isBagS xs = true then (if ws.length = xs.length ∧ allB (fun n => inRg n (-1000) 1000) ws = true then (weighS xs ws, 0) else (0, 2)) else (0, 1)
def joinS (xs ys : List Int) : List Int × Int := if twoS xs ys = 0 then (zipF maxI xs ys xs.length, 0) else ([], twoS xs ys)
def meetS (xs ys : List Int) : List Int × Int := if twoS xs ys = 0 then (zipF minI xs ys xs.length, 0) else ([], twoS xs ys)
def toldS (xs : List Int) : List Int × Int := if isBagS xs = true then (xs, 0) else ([], 3)
def addS (xs ys : List Int) : List Int × Int := if twoS xs ys = 0 then toldS (plusS xs ys 1) else ([], twoS xs ys)
def scaleS (xs : List Int) (f : Int) : List Int × Int :=
  if isBagS xs = true then (if inRg f 0 100 = true then toldS (plusS (List.replicate xs.length 0) xs f) else ([], 2)) else ([], 1)
def takeS (xs ys : List Int) : List Int × Int := if twoS xs ys = 0 then (if withinS ys xs = true then (plusS xs ys (-1), 0) else ([], 4)) else ([], twoS xs ys)
theorem plusS_len (xs ys : List Int) (f : Int) : (plusS xs ys f).length = xs.length := zipF_len _ _ _ _
theorem joinS_len (xs ys : List Int) : (joinS xs ys).1.length ≤ xs.length := by unfold joinS; split <;> simp [zipF_len]
theorem meetS_len (xs ys : List Int) : (meetS xs ys).1.length ≤ xs.length := by unfold meetS; split <;> simp [zipF_len]
theorem toldS_len (xs : List Int) : (toldS xs).1.length ≤ xs.length := by unfold toldS; split <;> simp
theorem scaleS_len (xs : List Int) (f : Int) : (scaleS xs f).1.length ≤ xs.length := by
  unfold scaleS
  split
  · split
    · exact Nat.le_trans (toldS_len _) (by simp [plusS_len])
    · simp
  · simp
theorem addS_len (xs ys : List Int) : (addS xs ys).1.length ≤ xs.length := by
  unfold addS
  split
  · exact Nat.le_trans (toldS_len _) (by simp [plusS_len])
  · simp
theorem takeS_len (xs ys : List Int) : (takeS xs ys).1.length ≤ xs.length := by
  unfold takeS
  split
  · split <;> simp [plusS_len]
  · simp
end Go.Proofs.Ytdcpdipakglnnaa
