/- Lists of lists that are collected: copies of lists, what is added, what is told. -/
import Derived.Test.YtbnikblhnibgiaaDoorM
import Derived.Test.YtbnikblhnibgiaaDoorE
namespace Go.Proofs.YtbnikblhnibgiaaDoor
open Go.RowKit

/-- A call that returns a datum of its own, at a step of a region that draws its order. -/
theorem step_callD {P : Program} {ops : Array Oper} {o : Oper} {ac : Act} {w : World} {K : Act → World → Prop} {Q : Exit → Act → World → Prop} {X : Prop} (hgd : o.guard = none) (f : FuncId) (xs : Array Operand) (ts : Array TypeId)
    (ho : o.op = .call { callee := .value (.func f), args := xs, argTypes := ts }) (hrun : ∀ args w, (callFunc f args).run P w = .ok (.enter f args) w) (vs : Array Value) (hv : xs.map ac.eval = vs) (d : D)
    (h : Calls P f vs w (RetD w d)) (hK : ∀ v F w', Below w.heap.size w w' → Ow w' d v F → F.Nodup → (∀ g, g ∈ F → w.heap.size ≤ g) → K (ac.put o.dst v) w') : if Region.wanted o (yielded ops ac.tmps) = true then Oper.wp P o ac w K Q else X := by
  have hw : Region.wanted o (yielded ops ac.tmps) = true := by simp [Region.wanted, hgd]
  rw [if_pos hw]
  unfold Oper.wp execOp
  simp only [ho, resolve, Act.eval, Deferred.ofValue, Sem.run_bind, Sem.run_pure, Result.andThen_ok, invoke, Array.append_empty]
  rw [show xs.map (Act.eval ac) = vs from hv]
  simp only [Array.empty_append, hrun, Oper.upon_enter]
  refine h.mono fun e w' ⟨v, F, he, h1, h2, h3, h4⟩ => ?_
  subst he
  exact hK v F w' h1 h2 h3 h4
theorem make_run {P : Program} {T E k bytes : Nat} {z : Value} (tab : Tab P T E z k bytes) (_hk : 0 < k) (hby : bytes ≤ 1024) (n : Nat) (hn : n ≤ 4294967296) (w : World) :
    (Instr.makeSlice T (.int .i64 n) (.int .i64 n)).run P w = .ok (.slice (some ⟨w.heap.size, 0, none⟩) n n) (w.alloc (.cells (madeCells z.cells (n * k)) E)) := by
  obtain ⟨i0, hi, hz0, hz1, hz2⟩ := info_parts tab.info
  have hb : (i0.bytes : Int) * (n : Int) ≤ 281474976710656 := by
    have h : ((i0.bytes * n : Nat) : Int) ≤ 281474976710656 := by
      rw [hz2]
      have : bytes * n ≤ 1024 * 4294967296 := Nat.mul_le_mul hby hn
      omega
    rwa [Int.natCast_mul] at h
  have hr := run_make (P := P) w T E i0 z tab.under hi hz0 .i64 .i64 n n (by omega) (Int.le_refl _) hb (by omega)
  simp only [Int.toNat_natCast, hz1] at hr
  exact hr
theorem make_run1 {P : Program} {T E bytes : Nat} {z : Value} (tab : Tab P T E z 1 bytes) (hz : z.cells = #[z]) (hby : bytes ≤ 1024) (n : Nat) (hn : n ≤ 4294967296) (w : World) :
    (Instr.makeSlice T (.int .i64 n) (.int .i64 n)).run P w = .ok (.slice (some ⟨w.heap.size, 0, none⟩) n n) (w.alloc (.cells (Array.replicate n z) E)) := by
  rw [make_run tab (by omega) hby n hn w]
  congr 3
  apply Array.ext'
  rw [madeCells_one z hz]
  simp
theorem run_eql_some_nil {P : Program} (w : World) {t e : TypeId} (a : Addr) (n c : Nat) (ht : P.underlying t = some (.slice e)) :
    (binOp .eql t (.slice (some a) n c) (.slice none 0 0)).run P w = .ok (.bool false) w := by
  have h : ∀ d : Nat, (Op.equalIn (d + 1) t (.slice (some a) n c) (.slice none 0 0)).run P w = .ok false w := fun d => by
    simp [Op.equalIn, run_underlying ht]
  simp only [binOp]
  simp [Op.equal, Op.maxDepth, h 9999]
theorem SlI.addr {S : Nat → Prop} {w : World} {a : Option Addr} {xs : List Int} (h : SlI S w a xs) (h0 : 0 < xs.length) : ∃ ad, a = some ad := by
  obtain ⟨g, o, e⟩ := (h.ptr h0).2
  exact ⟨_, e⟩
/-- 'append(v, xs...)' of numbers. -/
theorem app_many {P : Program} {ops : Array Oper} {rest : List Oper} {o : Oper} {ac : Act} {Q : Exit → Act → World → Prop} {w : World} (hgd : o.guard = none) (s x : Operand) (T : TypeId)
    (ho : o.op = .call { callee := .builtin .append, args := #[s, x], argTypes := #[T, T] }) {E bytes : Nat} {z : Value} (tab : Tab P T E z 1 bytes) (hzs : z.cells.size = 1) (hby : bytes ≤ 1024)
    (B : Nat) (v : Value) (vs : List Value) (hs : ac.eval s = v) (hown : Bld E w B v vs) (S : Nat → Prop) (a : Option Addr) (c : Nat) (xs : List Int) (hx : ac.eval x = .slice a xs.length c) (hsl : SlI S w a xs) (ha : ∃ ad, a = some ad) (hlen : vs.length + xs.length < 4294967296) (hB : B ≤ w.heap.size)
    (K : ∀ v' w', Bld E w' B v' (vs ++ xs.map (.int .i64)) → Below B w w' → wpList P ops Q rest (ac.put o.dst v') w') : wpList P ops Q (o :: rest) ac w := by
  obtain ⟨i0, hi, hz0, hz1, hz2⟩ := info_parts tab.info
  have hbytes : (vs.length + xs.length) * bytes ≤ 140737488355328 := by
    have : (vs.length + xs.length) * bytes ≤ 4294967296 * 1024 := Nat.mul_le_mul (by omega) hby
    omega
  have hlt := hown.lt
  obtain ⟨ad, rfl⟩ := ha
  have e0 : xs = [] ∨ ∃ g p, ad = ⟨g, p, none⟩ := by
    cases xs with
    | nil => exact .inl rfl
    | cons y ys =>
      obtain ⟨g, p, e⟩ := (hsl.ptr (by simp)).2
      exact .inr ⟨g, p, by simpa using e⟩
  refine wpList_append_own w hgd s x T ho B E i0 z 1 bytes tab.under hi hz0 hz1 hz2 hzs (by decide) v vs.length vs hs hown ad xs.length c (xs.map (.int .i64)) hx (by simp) ?_ ?_ (by unfold maxLen; omega) hbytes hB ?_
  · intro j u hu
    have hj : j < xs.length := by
      have := (List.getElem?_eq_some_iff.1 hu).1
      simpa using this
    rcases e0 with rfl | ⟨g, p, rfl⟩
    · simp at hj
    · have := hsl.cell j hj
      rw [Addr.add_lit]
      simp only [adr, blk, ofs] at this
      rw [this]
      simp [hj] at hu
      rw [← hu, nth_lt hj]
  · intro u hu
    obtain ⟨y, _, rfl⟩ := List.mem_map.1 hu
    rfl
  · intro v' w' h2 h3 _
    refine K v' w' (by simpa [Bld] using h2) ?_
    exact (Below.refl B w).grown h3 hB fun k hk => (hlt k hk).1
/-- The call returns a list of numbers of its own, to which more can be added. -/
def RetB (E : TypeId) (w : World) (xs : List Int) (e : Ending) (w' : World) : Prop := ∃ v, e = .returned v ∧ Below w.heap.size w w' ∧ Bld E w' w.heap.size v (xs.map (.int .i64))
theorem RetB.d {E : TypeId} {w : World} {xs : List Int} {e : Ending} {w' : World} (h : RetB E w xs e w') (hl : xs.length ≤ maxLen) : RetD w (dI xs) e w' := by
  obtain ⟨v, rfl, hb, hbl⟩ := h
  exact RetD.ofBld hbl hl hb
/-- A call that returns a list of its own, at a step of a region that draws its order. -/
theorem step_callB {P : Program} {ops : Array Oper} {o : Oper} {ac : Act} {w : World} {K : Act → World → Prop} {Q : Exit → Act → World → Prop} {X : Prop} (hgd : o.guard = none) (f : FuncId) (xs : Array Operand) (ts : Array TypeId)
    (ho : o.op = .call { callee := .value (.func f), args := xs, argTypes := ts }) (hrun : ∀ args w, (callFunc f args).run P w = .ok (.enter f args) w) (vs : Array Value) (hv : xs.map ac.eval = vs) {E : TypeId} (ys : List Int)
    (h : Calls P f vs w (RetB E w ys)) (hK : ∀ v w', Below w.heap.size w w' → Bld E w' w.heap.size v (ys.map (.int .i64)) → K (ac.put o.dst v) w') : if Region.wanted o (yielded ops ac.tmps) = true then Oper.wp P o ac w K Q else X := by
  have hw : Region.wanted o (yielded ops ac.tmps) = true := by simp [Region.wanted, hgd]
  rw [if_pos hw]
  unfold Oper.wp execOp
  simp only [ho, resolve, Act.eval, Deferred.ofValue, Sem.run_bind, Sem.run_pure, Result.andThen_ok, invoke, Array.append_empty]
  rw [show xs.map (Act.eval ac) = vs from hv]
  simp only [Array.empty_append, hrun, Oper.upon_enter]
  refine h.mono fun e w' ⟨v, he, h1, h2⟩ => ?_
  subst he
  exact hK v w' h1 h2
/-- The cell at gl holds a list of rows that is being built, in the blocks G. -/
structure Box (E : TypeId) (k : Nat) (w : World) (B gl : Nat) (n : Nat) (ds : List D) (G : List Nat) : Prop where
  free : w.frozen? ⟨gl, 0, none⟩ = false
  has : ∃ v, w.cell? ⟨gl, 0, none⟩ = some v ∧ Lst E k w B v n ds G
  out : gl ∉ G
theorem Box.lt {E : TypeId} {k : Nat} {w : World} {B gl n : Nat} {ds : List D} {G : List Nat} (h : Box E k w B gl n ds G) : gl < w.heap.size ∧ ∀ g, g ∈ G → B ≤ g ∧ g < w.heap.size := by
  obtain ⟨v, h1, h2⟩ := h.has
  exact ⟨World.block_lt_of_cell? w _ h1, h2.lt⟩
theorem Box.keep {E : TypeId} {k : Nat} {w w' : World} {B gl n : Nat} {ds : List D} {G F' : List Nat} (h : Box E k w B gl n ds G) (hc : Chg F' w w') (hd : gl ∉ F' ∧ ∀ g, g ∈ G → g ∉ F') : Box E k w' B gl n ds G := by
  obtain ⟨v, h1, h2⟩ := h.has
  have hl := h.lt.1
  exact ⟨by rw [hc.frozen hl hd.1]; exact h.free, ⟨v, by rw [hc.cell hl hd.1]; exact h1, h2.keep hc hd.2⟩, h.out⟩
/-- What adding a row does to the cell that holds the list. -/
def AddPost (E : TypeId) (k : Nat) (w : World) (B gl n : Nat) (ds rs : List D) (G : List Nat) (e : Ending) (w' : World) : Prop :=
  e = .returned (.bool (decide ((n : Int) + 1 ≤ 2000))) ∧ ∃ G', Box E k w' B gl (n + 1) (ds ++ rs) G' ∧ Chg (gl :: G) w w' ∧ ∀ g, g ∈ G' → g ∈ G ∨ w.heap.size ≤ g
theorem chg_set (w : World) (p : Addr) (v : Value) (F : List Nat) (h : p.block ∈ F) : Chg F w (w.setCell p v) := ((Exc.setCell w p v).wider (fun k hk => by simp at hk; subst hk; exact h)).chg
theorem ob_sub {E : TypeId} {k : Nat} {w : World} {B : Nat} {v : Value} {n : Nat} {ds : List D} {G : List Nat} (h : Lst E k w B v n ds G) : ∀ g, g ∈ ob v → g ∈ G := by
  obtain ⟨vs, F, _, _, _, _, _, rfl⟩ := h
  intro g hg; simp [hg]
