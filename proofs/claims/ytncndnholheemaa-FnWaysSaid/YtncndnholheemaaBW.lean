/- All parts of a bag: the reference's function. -/
import Derived.Test.YtncndnholheemaaBU
namespace Go.Proofs.Ytncndnholheemaa
open Go.RowKit

theorem run_app_nil {P : Program} {T E k bytes : Nat} {z : Value} {ty : TypeId} (tab : Tab P T E z k bytes) (w : World) (a : Option Addr) (n c c' : Nat) (hn : n ≤ c) :
    (Builtin.append_ #[T, T] ty #[.slice a n c, .slice none 0 c']).run P w = .ok (.slice a n c) w := by
  obtain ⟨i0, hi, hz0, hz1, hz2⟩ := info_parts tab.info
  have hu := tab.under
  cases a <;> simp [Builtin.append_, run_underlying hu, sizeOf, typeInfo, hi, Sem.run_bind, Builtin.lenOf, Builtin.firstCells, hn, storeCells]
theorem Bld.cap {E : Nat} {w : World} {B : Nat} {v : Value} {vs : List Value} (h : Bld E w B v vs) : ∃ a c, v = .slice a vs.length c ∧ vs.length ≤ c := by
  obtain ⟨_, h2⟩ := h
  rcases h2 with ⟨rfl, h0⟩ | ⟨g, cap, cur, rfl, hB, hg, hn, _⟩
  · have : vs = [] := by simpa using h0
    subst this
    exact ⟨none, 0, rfl, by simp⟩
  · exact ⟨_, cap, rfl, hn⟩
/-- 'append(v, xs...)' of numbers; xs may be nil. -/
theorem app_manyN {P : Program} {ops : Array Oper} {rest : List Oper} {o : Oper} {ac : Act} {Q : Exit → Act → World → Prop} {w : World} (hgd : o.guard = none) (s x : Operand) (T : TypeId)
    (ho : o.op = .call { callee := .builtin .append, args := #[s, x], argTypes := #[T, T] }) {E bytes : Nat} {z : Value} (tab : Tab P T E z 1 bytes) (hzs : z.cells.size = 1) (hby : bytes ≤ 1024)
    (B : Nat) (v : Value) (vs : List Value) (hs : ac.eval s = v) (hown : Bld E w B v vs) (S : Nat → Prop) (a : Option Addr) (c : Nat) (xs : List Int) (hx : ac.eval x = .slice a xs.length c) (hsl : SlI S w a xs) (hlen : vs.length + xs.length < 4294967296) (hB : B ≤ w.heap.size)
    (K : ∀ v' w', Bld E w' B v' (vs ++ xs.map (.int .i64)) → Below B w w' → wpList P ops Q rest (ac.put o.dst v') w') : wpList P ops Q (o :: rest) ac w := by
  cases a with
  | some ad => exact app_many hgd s x T ho tab hzs hby B v vs hs hown S (some ad) c xs hx hsl ⟨ad, rfl⟩ hlen hB K
  | none =>
    have hx0 : xs = [] := by
      cases xs with
      | nil => rfl
      | cons y ys => obtain ⟨g, p, e⟩ := (hsl.ptr (by simp)).2; cases e
    subst hx0
    obtain ⟨a', c', rfl, hc⟩ := hown.cap
    refine wpList_plain hgd fun _ hK => ?_
    have e := run_app_nil (P := P) (ty := o.type) tab w a' vs.length c' c hc
    unfold Oper.wp execOp
    simp only [ho, resolve, invoke, builtin, Sem.run_bind, Sem.run_pure, Result.andThen_ok, List.map_toArray, List.map_cons, List.map_nil, hs, hx]
    simp only [List.length_nil, e, Result.andThen_ok]
    exact hK _ _ (K _ w (by simpa using hown) (Below.refl _ _))
set_option maxHeartbeats 400000 in
theorem l00OwnN_c (S : Nat → Prop) (a : Option Addr) (c : Nat) (xs : List Int) (w : World) (hx : SlI S w a xs) (l1 : xs.length < 4294967296) :
    Calls Try.prog 61 #[.slice a xs.length c] w (RetB 2 w xs) := by
  have hbl := Bld.empty 2 w w.heap.size (Nat.le_refl _)
  have hx' := hx.below (below_alloc w (.cells #[] 2))
  go_enter Try.func61, Try.ntmps61
  go_wp2_with (at_builtin; refine app_manyN rfl _ _ 24 rfl tabI rfl (by decide) w.heap.size _ [] rfl hbl S a c xs rfl hx' (by simpa using l1) (by simp) ?_)
  intro v' w1 hbl1 hb1
  replace hbl1 : Bld 2 w1 w.heap.size v' (xs.map (.int .i64)) := hbl1
  go_wp2
  go_ret
  exact ⟨v', rfl, (below_alloc _ _).trans hb1, hbl1⟩
/-- The list of lists as what is read. -/
theorem Lst.slII {E : TypeId} {w : World} {B : Nat} {v : Value} {L : List (List Int)} {G : List Nat} (h : Lst E 1 w B v L.length (L.map dI) G) (hl : L.length ≤ maxLen) : ∃ a c, v = .slice a L.length c ∧ SlII Any w a L := by
  obtain ⟨_, a, c, rfl⟩ := h.val
  obtain ⟨G', ho, _, _⟩ := h.ow (by omega) hl
  exact ⟨a, c, rfl, Ow.argII ho⟩
/-- A list of one empty list. -/
theorem Lst.unit (E0 E : TypeId) (w : World) : Lst E 1 ((w.alloc (.cells #[] E0)).alloc (.cells #[.slice (some ⟨w.heap.size, 0, none⟩) 0 0] E)) w.heap.size (.slice (some ⟨w.heap.size + 1, 0, none⟩) 1 1) 1 [dI []] [w.heap.size + 1] := by
  refine ⟨[.slice (some ⟨w.heap.size, 0, none⟩) 0 0], [], ⟨by simp, .inr ⟨w.heap.size + 1, 1, #[.slice (some ⟨w.heap.size, 0, none⟩) 0 0], rfl, by omega, ?_, by omega, by simp [maxLen], by simp, by simp⟩⟩, ⟨[], [], Ow_empty _ _ _ _, rfl, rfl⟩, by simp, by simp, by simp, rfl⟩
  have := heap_alloc_new (w.alloc (.cells #[] E0)) (.cells #[.slice (some ⟨w.heap.size, 0, none⟩) 0 0] E)
  simpa using this

/-- A list with each of the first numbers behind it. -/
def extS (x : List Int) (n : Nat) : List (List Int) := (List.range n).map fun (n : Nat) => x ++ [(n : Int)]
theorem extS_succ (x : List Int) (n : Nat) : extS x (n + 1) = extS x n ++ [x ++ [(n : Int)]] := by simp [extS, List.range_succ]
theorem extS_len (x : List Int) (n : Nat) : (extS x n).length = n := by simp [extS]
def rowsTo (l : Nat) (L : List (List Int)) (k : Nat) : List (List Int) := (L.take k).flatMap fun x => extS x (l + 1)
theorem rowsTo_succ {l : Nat} {L : List (List Int)} {k : Nat} (h : k < L.length) : rowsTo l L (k + 1) = rowsTo l L k ++ extS (nthR L k) (l + 1) := by
  rw [rowsTo, List.take_succ_eq_append_getElem h, List.flatMap_append, nthR_lt h]; simp [rowsTo]
theorem rowsTo_len (l : Nat) (L : List (List Int)) : ∀ k, k ≤ L.length → (rowsTo l L k).length = k * (l + 1)
  | 0, _ => by simp [rowsTo]
  | k + 1, h => by rw [rowsTo_succ (by omega), List.length_append, rowsTo_len l L k (by omega), extS_len, Nat.add_mul]; omega
/-- All lists within the first i numbers of a list. -/
def lvTo (b : List Int) : Nat → List (List Int)
  | 0 => [[]]
  | i + 1 => (lvTo b i).flatMap fun x => extS x ((nth b i).toNat + 1)
theorem lvTo_succ (b : List Int) (i : Nat) : lvTo b (i + 1) = rowsTo (nth b i).toNat (lvTo b i) (lvTo b i).length := by simp [lvTo, rowsTo]
theorem lvTo_parts (b : List Int) : ∀ i, i ≤ b.length → partsS b = (lvTo b i).flatMap fun x => (partsS (b.drop i)).map (x ++ ·)
  | 0, _ => by simp [lvTo]
  | i + 1, h => by
    rw [lvTo_parts b i (by omega), show b.drop i = nth b i :: b.drop (i + 1) from by rw [nth_lt (by omega), List.drop_eq_getElem_cons (by omega)]]
    simp only [lvTo, partsS, extS, List.flatMap_assoc, List.map_flatMap, List.flatMap_map, List.map_map]
    congr 1; funext x; congr 1; funext n; congr 1; funext y; simp
theorem partsS_ne : ∀ bs : List Int, 1 ≤ (partsS bs).length
  | [] => by simp [partsS]
  | b :: bs => by
    have := partsS_ne bs
    simp only [partsS, List.range_succ_eq_map, List.flatMap_cons, List.length_append, List.length_map]
    omega
theorem flatMap_ge {α β : Type} (f : α → List β) (h : ∀ x, 1 ≤ (f x).length) : ∀ l : List α, l.length ≤ (l.flatMap f).length
  | [] => by simp
  | x :: l => by have := h x; have := flatMap_ge f h l; simp only [List.flatMap_cons, List.length_append, List.length_cons]; omega
theorem lvTo_le (b : List Int) {i : Nat} (h : i ≤ b.length) : (lvTo b i).length ≤ (partsS b).length := by
  rw [lvTo_parts b i h]
  exact flatMap_ge _ (fun x => by have := partsS_ne (b.drop i); simpa using this) _
theorem lvTo_mem (b : List Int) : ∀ (i : Nat) (x : List Int), x ∈ lvTo b i → x.length = i
  | 0, x, h => by simp [lvTo] at h; subst h; rfl
  | i + 1, x, h => by
    simp only [lvTo, extS, List.mem_flatMap, List.mem_map] at h
    obtain ⟨y, hy, n, _, rfl⟩ := h
    simp [lvTo_mem b i y hy]
theorem Lst.lower {E : TypeId} {k : Nat} {w : World} {B B' : Nat} {v : Value} {n : Nat} {ds : List D} {G : List Nat} (h : Lst E k w B v n ds G) (hB : B' ≤ B) : Lst E k w B' v n ds G := by
  obtain ⟨vs, F, ⟨h0, h1⟩, h2, h3, h4, h5, h6⟩ := h
  refine ⟨vs, F, ⟨h0, ?_⟩, h2, h3, fun g hg => Nat.le_trans hB (h4 g hg), h5, h6⟩
  rcases h1 with h1 | ⟨g, cap, cur, e, h7, h8⟩
  · exact .inl h1
  · exact .inr ⟨g, cap, cur, e, Nat.le_trans hB h7, h8⟩
theorem lvTo_full (b : List Int) : lvTo b b.length = partsS b := by
  rw [lvTo_parts b b.length (Nat.le_refl _), List.drop_length]
  simp [partsS]
