/- A region that draws its order: operations that only read, then a tail in the order of the text. No program is in sight. -/
import Derived.Test.YtbnikblhnibgiaaDoorB
import Derived.StillTailTactics
import Derived.Deep.RegionLaw
import Derived.BigRegion
namespace Go.Proofs.YtbnikblhnibgiaaDoor
open Go.RowKit

/-- An operation that yields a value and never calls. -/
def simpleOp : Op → Bool
  | .move _ | .assign _ | .load .. | .binOp .. | .unOp .. | .fieldAddr .. | .field .. | .indexAddr .. | .index .. | .extract .. | .convert .. | .nilCheck _ => true
  | .call c => match c.callee with | .builtin .len => true | _ => false
  | _ => false
theorem run_v {P : Program} (s : Sem Value) (w : World) (f : FuncId) (args : Array Value) (w' : World) : (do pure (Next.value (← s)) : Sem Next).run P w ≠ .ok (.enter f args) w' := by
  rw [Sem.run_bind]
  cases s.run P w <;> simp [Result.andThen, Sem.run_pure]
theorem simple_ne {P : Program} {o : Oper} (h : simpleOp o.op = true) (ρ : Operand → Value) (w : World) (f : FuncId) (args : Array Value) (w' : World) : (execOp ρ o).run P w ≠ .ok (.enter f args) w' := by
  unfold execOp
  cases ho : o.op with
  | move x => simp [Sem.run_pure]
  | assign x => simp [Sem.run_pure]
  | nilCheck x =>
    intro he
    have key : ∀ (s : Sem Next), (∀ w, ∀ r, s.run P w = r → match r with | .ok (.enter _ _) _ => False | _ => True) → ∀ w, s.run P w ≠ .ok (.enter f args) w' := by
      intro s hs w0 e
      have := hs w0 _ e
      exact this
    simp only at he
    split at he
    all_goals first
      | (simp [runtimePanic, program, Sem.run_bind, goPanic, Sem.run] at he; done)
      | (simp at he; done)
      | skip
    split at he
    · simp [runtimePanic, program, Sem.run_bind, goPanic, Sem.run] at he
    · rw [Sem.run_bind] at he
      revert he
      cases (program : Sem Program).run P w with
      | ok p w1 =>
        simp only [Result.andThen_ok]
        rw [Sem.run_bind]
        cases Sem.run P (nilAhead _ _ _ _) w1 with
        | ok b w2 =>
          simp only [Result.andThen_ok]
          split
          · simp [unsupported, Sem.run]
          · simp [Sem.run_pure]
        | halt h w2 => simp [Result.andThen]
      | halt h w1 => simp [Result.andThen]
    · simp [Sem.run_pure] at he
  | call c =>
    rw [ho] at h
    simp only [simpleOp] at h
    cases hc : c.callee with
    | builtin b =>
      rw [hc] at h
      cases b <;> simp at h
      simp only [resolve, hc, Sem.run_bind, Sem.run_pure, Result.andThen_ok, invoke, builtin]
      cases Sem.run P (Builtin.len_ c.argTypes o.type (Array.map ρ c.args)) w <;> simp [Result.andThen]
    | value x => rw [hc] at h; simp at h
    | invoke x m => rw [hc] at h; simp at h
  | _ => first | exact run_v _ _ _ _ _ | (rw [ho] at h; simp [simpleOp] at h; done)

theorem still_of_quiet {P : Program} {ops : Array Oper} {w : World} {Q : Act → Prop} : ∀ (l : List Oper) (a : Act), l.all (fun o => simpleOp o.op) = true →
    wpQuiet P ops (fun w' => ∃ n, w' = w.drewN n) Q l a → wpStill P ops { w with drawn := w.drawn + 1 } Q l a
  | [], _, _, h => h
  | o :: rest, a, hs, h => by
    simp only [List.all_cons, Bool.and_eq_true] at hs
    simp only [wpQuiet, wpStill] at h ⊢
    split
    · rename_i hw
      rw [if_pos hw] at h
      obtain ⟨v, h1, h2⟩ := h
      have h3 := h1 _ ⟨1, rfl⟩
      have h4 := still_of_quiet rest _ hs.2 h2
      unfold Oper.quietAt at h3
      unfold Oper.still
      have hne := simple_ne (P := P) hs.1 a.eval (w.drewN 1)
      revert h3 hne
      show Oper.quietUpon P _ (w.drewN 1) v (Sem.run P (execOp a.eval o) (w.drewN 1)) → _ → Oper.stillUpon P o a (w.drewN 1) _ (Sem.run P (execOp a.eval o) (w.drewN 1))
      cases Sem.run P (execOp a.eval o) (w.drewN 1) with
      | halt x w1 => intro h3 _; exact h3.elim
      | ok x w1 =>
        cases x with
        | value u => rintro ⟨rfl, rfl⟩ _; exact ⟨rfl, h4⟩
        | skip => rintro ⟨rfl, rfl⟩ _; exact ⟨rfl, h4⟩
        | enter f args => intro _ hne; exact absurd rfl (hne f args w1)
        | _ => intro h3 _; exact h3.elim
    · rename_i hw
      rw [if_neg hw] at h
      exact still_of_quiet rest _ hs.2 h

/-- The first n operations only read: they are walked by the quiet walk; what stands behind them is walked in the order of the text. -/
theorem wp_quiet_tail {P : Program} {id : Nat} {Q : Exit → Act → World → Prop} {a : Act} {w : World} {l : List Oper} (n : Nat) (hm : P.follows .mixedOrders = true) (hB : Region.lexTailB .any l.toArray n = true)
    (hs : (l.take n).all (fun o => simpleOp o.op) = true)
    (h : wpQuiet P l.toArray (fun w' => ∃ n, w' = w.drewN n) (fun a' => wpList P l.toArray Q (l.drop n) a' (w.drewN 1)) (l.take n) a) : (Code.region id l.toArray true).wp P Q a w :=
  wp_region_still_tail n hm hB (still_of_quiet _ _ hs h)

/-- 'append(v, y)' at a step of a region that draws its order. -/
theorem step_app {P : Program} {ops : Array Oper} {o : Oper} {ac : Act} {w : World} {K : Act → World → Prop} {Q : Exit → Act → World → Prop} {X : Prop} (hgd : o.guard = none) (s x : Operand) (T : TypeId)
    (ho : o.op = .call { callee := .builtin .append, args := #[s, x], argTypes := #[T, T] }) {E bytes : Nat} {z : Value} (tab : Tab P T E z 1 bytes) (hzs : z.cells.size = 1) (hby : bytes ≤ 1024)
    (B : Nat) (v : Value) (vs : List Value) (hs : ac.eval s = v) (hown : Bld E w B v vs) (g : Nat) (y : Value) (h1 : y.oneCell' = true)
    (hx : ac.eval x = .slice (some ⟨g, 0, none⟩) 1 1) (hc : w.cell? ⟨g, 0, none⟩ = some y) (hlen : vs.length < 4294967296) (hB : B ≤ w.heap.size)
    (hK : ∀ v' w', Bld E w' B v' (vs ++ [y]) → Below B w w' → K (ac.put o.dst v') w') : if Region.wanted o (yielded ops ac.tmps) = true then Oper.wp P o ac w K Q else X := by
  have hw : Region.wanted o (yielded ops ac.tmps) = true := by simp [Region.wanted, hgd]
  rw [if_pos hw]
  obtain ⟨i0, hi, hz0, hz1, hz2⟩ := info_parts tab.info
  refine wp_append_own w s x T ho B E i0 z 1 bytes tab.under hi hz0 hz1 hz2 hzs (by decide) v vs.length vs hs hown ⟨g, 0, none⟩ 1 1 [y] hx rfl ?_ ?_ ?_ ?_ hB ?_
  · intro j u hu
    cases j with
    | zero => simp at hu; subst hu; simpa [Addr.add] using hc
    | succ j => simp at hu
  · intro u hu; simp at hu; subst hu; exact h1
  · unfold maxLen; omega
  · have : (vs.length + 1) * bytes ≤ 4294967296 * 1024 := Nat.mul_le_mul (by omega) hby
    omega
  · intro v' w' h2 h3 _
    refine hK v' w' (by simpa [Bld] using h2) ?_
    have hlt := hown.lt
    exact (Below.refl B w).grown h3 hB fun k hk => (hlt k hk).1

theorem madeCells_one (v : Value) (hv : v.cells = #[v]) (n : Nat) : (madeCells v.cells (n * 1)).toList = List.replicate n v := by
  rw [hv, madeCells, Nat.mul_one]
  apply List.ext_getElem
  · simp
  · intro i h1 h2
    simp [Nat.mod_one]
/-- 'make([]T, n)'. -/
theorem make_one {P : Program} {ops : Array Oper} {rest : List Oper} {o : Oper} {ac : Act} {Q : Exit → Act → World → Prop} {w : World} (hgd : o.guard = none) (l c : Operand) (T : TypeId) (hop : o.op = .makeSlice T l c)
    {E bytes : Nat} {z : Value} (tab : Tab P T E z 1 bytes) (hz : z.cells = #[z]) (hby : bytes ≤ 1024) (n : Nat) (L C : Int) (hl : ac.eval l = .int .i64 L) (hc : ac.eval c = .int .i64 C) (hL : L = n) (hC : C = n) (hn : n ≤ 4294967296) (B : Nat) (hB : B ≤ w.heap.size)
    (K : ∀ w', Bld E w' B (.slice (some ⟨w.heap.size, 0, none⟩) n n) (List.replicate n z) → Below w.heap.size w w' → w.heap.size < w'.heap.size → wpList P ops Q rest (ac.put o.dst (.slice (some ⟨w.heap.size, 0, none⟩) n n)) w') : wpList P ops Q (o :: rest) ac w := by
  obtain ⟨i0, hi, hz0, hz1, hz2⟩ := info_parts tab.info
  refine wpList_make_full w hgd l c T hop B E i0 z 1 tab.under hi hz0 hz1 .i64 .i64 L C n hl hc hL hC ?_ ?_ hB ?_
  · rw [hz2]
    have : bytes * n ≤ 1024 * 4294967296 := Nat.mul_le_mul hby hn
    omega
  · unfold maxLen; omega
  · intro w' h1 h2
    rw [madeCells_one z hz] at h1
    have hlt := (h1.lt w.heap.size rfl).2
    refine K w' (by simpa [Bld] using h1) ⟨h2.os, h2.tape, h2.output, h2.size, fun k hk => h2.block k hk (by simp)⟩ hlt
theorem Bld.cell {E : Nat} {w : World} {B g n c : Nat} {vs : List Value} (h : Bld E w B (.slice (some ⟨g, 0, none⟩) n c) vs) {i : Nat} {v : Value} (hi : vs[i]? = some v) : w.cell? ⟨g, i, none⟩ = some v := by
  have := World.ownsRow.cells (g := g) h rfl i v hi
  rwa [Addr.add_lit, Nat.zero_add] at this
theorem Bld.free {E : Nat} {w : World} {B g n c : Nat} {vs : List Value} (h : Bld E w B (.slice (some ⟨g, 0, none⟩) n c) vs) (i : Nat) : w.frozen? ⟨g, i, none⟩ = false := by
  rcases h.2 with ⟨h1, _⟩ | ⟨g', cap, cur, h1, _, hg, _⟩
  · cases h1
  · cases h1; simp [World.frozen?, hg]
theorem Bld.base {E : Nat} {w : World} {B g n c : Nat} {vs : List Value} (h : Bld E w B (.slice (some ⟨g, 0, none⟩) n c) vs) : B ≤ g ∧ g < w.heap.size := h.lt g rfl
/-- A store into a list of one's own. -/
theorem Bld.set {E : Nat} {w : World} {B g n c : Nat} {vs : List Value} (h : Bld E w B (.slice (some ⟨g, 0, none⟩) n c) vs) (i : Nat) (v : Value) :
    Bld E (w.setCell ⟨g, i, none⟩ v) B (.slice (some ⟨g, 0, none⟩) n c) (vs.set i v) := by
  obtain ⟨h0, h2⟩ := h
  refine ⟨by simp, ?_⟩
  rcases h2 with ⟨h1, _⟩ | ⟨g', cap, cur, h1, hB, hg, hn, hcap, hsz, htake⟩
  · cases h1
  · cases h1
    have h3 : (cur.toList.set i v).take (vs.length * 1) = vs.set i v := by rw [List.take_set, htake]
    refine .inr ⟨g, c, cur.set! i v, by simp, hB, ?_, by simpa using hn, hcap, by simpa using hsz, ?_⟩
    · simp [World.setCell, Array.getElem?_modify, hg]
    · simpa using h3
theorem Ow.ofBld {E : Nat} {w : World} {B : Nat} {v : Value} {xs : List Int} (h : Bld E w B v (xs.map (.int .i64))) (hl : xs.length ≤ maxLen) : ∃ a c F, v = .slice a xs.length c ∧ Ow w (dI xs) (.slice a xs.length c) F ∧ F.Nodup ∧ ∀ g, g ∈ F → B ≤ g := h.ow hl
theorem SlI.ofBld {E : Nat} {w : World} {B : Nat} {a : Option Addr} {n c : Nat} {xs : List Int} (h : Bld E w B (.slice a n c) (xs.map (.int .i64))) (hl : xs.length ≤ maxLen) : SlI (B ≤ ·) w a xs := by
  obtain ⟨a', c', F, e, ho, _, hF⟩ := h.ow hl
  cases e
  obtain ⟨a2, c2, e2, h2⟩ := ho.slI
  cases e2
  exact ⟨h2.len, fun h0 => ⟨hF _ (h2.ptr h0).1, (h2.ptr h0).2⟩, h2.cell⟩

/-- The first k of n places have been filled. -/
def fill (n : Nat) (z : Value) (g : Nat → Value) (k : Nat) : List Value := (List.range n).map fun i => if i < k then g i else z
theorem fill_zero (n : Nat) (z : Value) (g : Nat → Value) : List.replicate n z = fill n z g 0 := by
  apply List.ext_getElem <;> simp [fill]
theorem fill_len (n : Nat) (z : Value) (g : Nat → Value) (k : Nat) : (fill n z g k).length = n := by simp [fill]
theorem fill_at {n : Nat} {z : Value} {g : Nat → Value} {k : Nat} (h : k < n) : (fill n z g k)[k]? = some z := by simp [fill, h]
theorem fill_set {n : Nat} {z : Value} {g : Nat → Value} {k : Nat} : (fill n z g k).set k (g k) = fill n z g (k + 1) := by
  apply List.ext_getElem
  · simp [fill]
  · intro i h1 h2
    simp only [fill, List.getElem_set, List.getElem_map, List.getElem_range]
    by_cases e : k = i
    · subst e; simp
    · rw [if_neg e]
      by_cases e2 : i < k
      · rw [if_pos e2, if_pos (by omega)]
      · rw [if_neg e2, if_neg (by omega)]
theorem fill_full (n : Nat) (z : Value) (g : Nat → Value) : fill n z g n = (List.range n).map g := by
  apply List.map_congr_left
  intro i hi
  rw [if_pos (by simpa using hi)]
theorem fill_ints (z : Value) (xs : List Int) : fill xs.length z (fun i => .int .i64 (nth xs i)) xs.length = xs.map (.int .i64) := by
  rw [fill_full]
  apply List.ext_getElem
  · simp
  · intro i h1 h2
    simp [nth, show i < xs.length by simpa using h2]

/-- Only the blocks in F have changed; none is new. -/
structure Exc (F : List Nat) (w w' : World) : Prop where
  os : w'.os = w.os
  tape : w'.tape = w.tape
  output : w'.output = w.output
  size : w'.heap.size = w.heap.size
  block : ∀ k, k ∉ F → w'.heap[k]? = w.heap[k]?
theorem Exc.refl (F : List Nat) (w : World) : Exc F w w := ⟨rfl, rfl, rfl, rfl, fun _ _ => rfl⟩
theorem Exc.trans {F : List Nat} {w w1 w2 : World} (h : Exc F w w1) (h2 : Exc F w1 w2) : Exc F w w2 :=
  ⟨h2.os.trans h.os, h2.tape.trans h.tape, h2.output.trans h.output, h2.size.trans h.size, fun k hk => (h2.block k hk).trans (h.block k hk)⟩
theorem Exc.wider {F G : List Nat} {w w1 : World} (h : Exc F w w1) (hs : ∀ k, k ∈ F → k ∈ G) : Exc G w w1 := ⟨h.os, h.tape, h.output, h.size, fun k hk => h.block k fun h' => hk (hs k h')⟩
theorem Exc.setCell (w : World) (p : Addr) (v : Value) : Exc [p.block] w (w.setCell p v) :=
  ⟨rfl, rfl, rfl, by simp [World.setCell], fun k hk => Below.heap_setCell _ _ _ _ (by simpa using hk)⟩
theorem Exc.below {F : List Nat} {w w' : World} {B : Nat} (h : Exc F w w') (hF : ∀ g, g ∈ F → B ≤ g) : Below B w w' :=
  ⟨h.os, h.tape, h.output, Nat.le_of_eq h.size.symm, fun k hk => h.block k fun hh => by have := hF k hh; omega⟩
theorem Exc.ow {F G : List Nat} {w w' : World} {d : D} {v : Value} (h : Exc F w w') (ho : Ow w d v G) (hd : ∀ g, g ∈ G → g ∉ F) : Ow w' d v G := Ow.stable d v G (fun k hk => h.block k (hd k hk)) ho

/-- The cells of a list of numbers that is owned. -/
structure OwI (w : World) (a : Option Addr) (xs : List Int) (F : List Nat) : Prop where
  len : xs.length ≤ maxLen
  foot : (xs = [] ∧ F = []) ∨ (xs ≠ [] ∧ (∃ g o, a = some ⟨g, o, none⟩) ∧ F = [blk a])
  cell : ∀ i, i < xs.length → w.cell? (adr a i) = some (.int .i64 (nth xs i))
  free : ∀ i, i < xs.length → w.frozen? (adr a i) = false
theorem OwL_I {w : World} : ∀ (xs : List Int) (g o : Nat) (F : List Nat), OwL w (xs.map .i) g o F ↔ (F = [] ∧ ∀ i, i < xs.length → w.cell? ⟨g, o + i, none⟩ = some (.int .i64 (nth xs i)) ∧ w.frozen? ⟨g, o + i, none⟩ = false)
  | [], g, o, F => by
    constructor
    · intro h; exact ⟨h, fun i hi => absurd hi (by simp)⟩
    · intro h; exact h.1
  | x :: xs, g, o, F => by
    constructor
    · rintro ⟨v, F1, F2, hc, hf, ⟨hv, h1⟩, hr, hF⟩
      obtain ⟨h2, h3⟩ := (OwL_I xs g (o + 1) F2).1 hr
      subst h1 h2
      refine ⟨by simpa using hF, fun i hi => ?_⟩
      cases i with
      | zero => rw [hv] at hc; exact ⟨by simpa [nth] using hc, by simpa using hf⟩
      | succ i =>
        have := h3 i (by simpa using hi)
        rw [show o + 1 + i = o + (i + 1) from by omega] at this
        simpa [nth] using this
    · rintro ⟨hF, h⟩
      refine ⟨.int .i64 x, [], [], by simpa [nth] using (h 0 (by simp)).1, by simpa using (h 0 (by simp)).2, ⟨rfl, rfl⟩, (OwL_I xs g (o + 1) []).2 ⟨rfl, fun i hi => ?_⟩, by simpa using hF⟩
      have := h (i + 1) (by simpa using hi)
      rw [show o + (i + 1) = o + 1 + i from by omega] at this
      simpa [nth] using this
theorem Ow_I {w : World} {xs : List Int} {v : Value} {F : List Nat} : Ow w (dI xs) v F ↔ ∃ a c, v = .slice a xs.length c ∧ xs.length ≤ c ∧ OwI w a xs F := by
  constructor
  · rintro ⟨a, m, c, hv, hl, hm, hp⟩
    have hl' : xs.length = m := by simpa using hl
    subst hl'
    refine ⟨a, c, hv, ?_⟩
    rcases hp with ⟨h1, h2⟩ | ⟨g, o, F', ha, ⟨hne, hcp⟩, hF, hr⟩
    · have h1' : xs = [] := by simpa using h1
      subst h1'
      exact ⟨by simp, hm, .inl ⟨rfl, h2⟩, fun i hi => absurd hi (by simp), fun i hi => absurd hi (by simp)⟩
    · obtain ⟨rfl, h3⟩ := (OwL_I xs g o F').1 hr
      subst ha
      exact ⟨hcp, hm, .inr ⟨by simpa using hne, ⟨g, o, rfl⟩, hF⟩, fun i hi => (h3 i hi).1, fun i hi => (h3 i hi).2⟩
  · rintro ⟨a, c, rfl, hcp, h⟩
    refine ⟨a, xs.length, c, rfl, by simp, h.len, ?_⟩
    rcases h.foot with ⟨rfl, rfl⟩ | ⟨hne, ⟨g, o, rfl⟩, rfl⟩
    · exact .inl ⟨rfl, rfl⟩
    · exact .inr ⟨g, o, [], rfl, ⟨by simpa using hne, hcp⟩, rfl, (OwL_I xs g o []).2 ⟨rfl, fun i hi => ⟨h.cell i hi, h.free i hi⟩⟩⟩
/-- k, k + 1, .. -/
def marks (k : Int) (n : Nat) : List Int := (List.range n).map fun (i : Nat) => k + i
theorem marks_len (k : Int) (n : Nat) : (marks k n).length = n := by simp [marks]
theorem marks_at {k : Int} {n i : Nat} (h : i < n) : nth (marks k n) i = k + i := by simp [nth, marks, h]

/-- Wherever it lies. -/
abbrev Any : Nat → Prop := fun _ => True
theorem SlI.any {S : Nat → Prop} {w : World} {a : Option Addr} {xs : List Int} (h : SlI S w a xs) : SlI Any w a xs := ⟨h.len, fun h0 => ⟨trivial, (h.ptr h0).2⟩, h.cell⟩
theorem Ow.below {w w' : World} {d : D} {v : Value} {F : List Nat} (h : Ow w d v F) (hb : Below w.heap.size w w') : Ow w' d v F := Ow.stable d v F (fun k hk => hb.block k (Ow.lt d v F h k hk)) h
theorem Ow.top {w w' : World} {d : D} {v : Value} {F : List Nat} (h : Ow w d v F) (hz : w.heap.size ≤ w'.heap.size) : ∀ g, g ∈ F → g < w'.heap.size := fun g hg => Nat.lt_of_lt_of_le (Ow.lt d v F h g hg) hz
theorem Ow.arg {w : World} {xs : List Int} {a : Option Addr} {n c : Nat} {F : List Nat} (h : Ow w (dI xs) (.slice a n c) F) : SlI Any w a xs := by
  obtain ⟨a', c', e, h'⟩ := h.slI
  cases e; exact h'.any
theorem Ow.own {w : World} {xs : List Int} {a : Option Addr} {n c : Nat} {F : List Nat} (h : Ow w (dI xs) (.slice a n c) F) : OwI w a xs F := by
  obtain ⟨a', c', e, _, h'⟩ := Ow_I.1 h
  cases e; exact h'
theorem Ow.val {w : World} {xs : List Int} {v : Value} {F : List Nat} (h : Ow w (dI xs) v F) : ∃ a c, v = .slice a xs.length c := by
  obtain ⟨a, c, e, _⟩ := Ow_I.1 h
  exact ⟨a, c, e⟩
/-- Two parts of memory, one behind the other. -/
theorem apart_lt {F G : List Nat} {B : Nat} (hF : ∀ g, g ∈ F → g < B) (hG : ∀ g, g ∈ G → B ≤ g) : (∀ g, g ∈ F → g ∉ G) ∧ (∀ g, g ∈ G → g ∉ F) :=
  ⟨fun g h1 h2 => by have := hF g h1; have := hG g h2; omega, fun g h1 h2 => by have := hF g h2; have := hG g h1; omega⟩
theorem lift_lo {F : List Nat} {B C : Nat} (hF : ∀ g, g ∈ F → C ≤ g) (h : B ≤ C) : ∀ g, g ∈ F → B ≤ g := fun g hg => Nat.le_trans h (hF g hg)

/-- A call that does nothing but return, at a step of a region that draws its order. -/
theorem step_callF {P : Program} {ops : Array Oper} {o : Oper} {ac : Act} {w : World} {K : Act → World → Prop} {Q : Exit → Act → World → Prop} {X : Prop} (hgd : o.guard = none) (f : FuncId) (xs : Array Operand) (ts : Array TypeId)
    (ho : o.op = .call { callee := .value (.func f), args := xs, argTypes := ts }) (hrun : ∀ args w, (callFunc f args).run P w = .ok (.enter f args) w) (vs : Array Value) (hv : xs.map ac.eval = vs) (v : Value)
    (h : Calls P f vs w (RetP w v)) (hK : K (ac.put o.dst v) w) : if Region.wanted o (yielded ops ac.tmps) = true then Oper.wp P o ac w K Q else X := by
  have hw : Region.wanted o (yielded ops ac.tmps) = true := by simp [Region.wanted, hgd]
  rw [if_pos hw]
  unfold Oper.wp execOp
  simp only [ho, resolve, Act.eval, Deferred.ofValue, Sem.run_bind, Sem.run_pure, Result.andThen_ok, invoke, Array.append_empty]
  rw [show xs.map (Act.eval ac) = vs from hv]
  simp only [Array.empty_append, hrun, Oper.upon_enter]
  exact h.mono fun e w' ⟨he, hw'⟩ => by subst he; subst hw'; exact hK
theorem Ow.setCell {w : World} {d : D} {v : Value} {F : List Nat} (h : Ow w d v F) {p : Addr} (hp : p.block ∉ F) (u : Value) : Ow (w.setCell p u) d v F :=
  Ow.stable d v F (fun k hk => Below.heap_setCell w p u k (fun e => hp (e ▸ hk))) h
end Go.Proofs.YtbnikblhnibgiaaDoor
