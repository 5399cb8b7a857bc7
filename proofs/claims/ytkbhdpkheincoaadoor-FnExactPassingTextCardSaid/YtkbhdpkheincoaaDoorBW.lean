/- All parts of a bag: the reference's function. -/
import Derived.Test.YtkbhdpkheincoaaDoorBU
namespace Go.Proofs.YtkbhdpkheincoaaDoor
open Go.RowKit

theorem run_app_nil {P : Program} {T E k bytes : Nat} {z : Value} {ty : TypeId} (tab : Tab P T E z k bytes) (w : World) (a : Option Addr) (n c c' : Nat) (hn : n ≤ c) :
    (Builtin.append_ #[T, T] ty #[.slice a n c, .slice none 0 c']).run P w = .ok (.slice a n c) w := by
  obtain ⟨i0, hi, hz0, hz1, hz2⟩ := info_parts tab.info
  have hu := tab.under
  cases a <;> simp [Builtin.append_, run_underlying hu, sizeOf, typeInfo, hi, Sem.run_bind, Builtin.lenOf, Builtin.firstCells, hn, storeCells]
theorem Bld.cap {E : Nat} {w : World} {B : Nat} {v : Value} {vs : List Value} (h : Bld E w B v vs) : ∃ a c, v = .slice a vs.length c ∧ vs.length ≤ c := by
  obtain ⟨_, h2⟩ := h
  rcases h2 with ⟨rfl, h0⟩ | ⟨g, cap, cur, rfl, hB, hg, hn, _⟩
  · have : vs = [] := by simpa using h0
    subst this
    exact ⟨none, 0, rfl, by simp⟩
  · exact ⟨_, cap, rfl, hn⟩
/-- 'append(v, xs...)' of numbers; xs may be nil. -/
theorem app_manyN {P : Program} {ops : Array Oper} {rest : List Oper} {o : Oper} {ac : Act} {Q : Exit → Act → World → Prop} {w : World} (hgd : o.guard = none) (s x : Operand) (T : TypeId)
    (ho : o.op = .call { callee := .builtin .append, args := #[s, x], argTypes := #[T, T] }) {E bytes : Nat} {z : Value} (tab : Tab P T E z 1 bytes) (hzs : z.cells.size = 1) (hby : bytes ≤ 1024)
    (B : Nat) (v : Value) (vs : List Value) (hs : ac.eval s = v) (hown : Bld E w B v vs) (S : Nat → Prop) (a : Option Addr) (c : Nat) (xs : List Int) (hx : ac.eval x = .slice a xs.length c) (hsl : SlI S w a xs) (hlen : vs.length + xs.length < 4294967296) (hB : B ≤ w.heap.size)
    (K : ∀ v' w', Bld E w' B v' (vs ++ xs.map (.int .i64)) → Below B w w' → wpList P ops Q rest (ac.put o.dst v') w') : wpList P ops Q (o :: rest) ac w := by
  cases a with
  | some ad => exact app_many hgd s x T ho tab hzs hby B v vs hs hown S (some ad) c xs hx hsl ⟨ad, rfl⟩ hlen hB K
  | none =>
    have hx0 : xs = [] := by
      cases xs with
      | nil => rfl
      | cons y ys => obtain ⟨g, p, e⟩ := (hsl.ptr (by simp)).2; cases e
    subst hx0
    obtain ⟨a', c', rfl, hc⟩ := hown.cap
    refine wpList_plain hgd fun _ hK => ?_
    have e := run_app_nil (P := P) (ty := o.type) tab w a' vs.length c' c hc
    unfold Oper.wp execOp
    simp only [ho, resolve, invoke, builtin, Sem.run_bind, Sem.run_pure, Result.andThen_ok, List.map_toArray, List.map_cons, List.map_nil, hs, hx]
    simp only [List.length_nil, e, Result.andThen_ok]
    exact hK _ _ (K _ w (by simpa using hown) (Below.refl _ _))
