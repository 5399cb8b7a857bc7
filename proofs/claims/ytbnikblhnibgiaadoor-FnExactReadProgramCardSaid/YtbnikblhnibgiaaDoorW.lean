/- What an argument of whatever shape reads as: the reader's data turned into data of one's own. -/
import Derived.Test.YtbnikblhnibgiaaDoorP
import Derived.Test.YtbnikblhnibgiaaDoorF
namespace Go.Proofs.YtbnikblhnibgiaaDoor
open Go.ChangeShapes Go.WideShapes Go.ChangeAt Go.RowKit

/-- The shape of a cell. -/
inductive Sh where
  | i
  | b
  | l (es : List Sh)

def fieldsSh (P : Program) (g : TypeId → Option (List Sh)) : List Field → Nat → Option (List Sh)
  | [], _ => some []
  | f :: fs, o =>
    match g f.type with
    | none => none
    | some es => if f.offset = o ∧ P.cellsOf f.type = es.length then (match fieldsSh P g fs (o + es.length) with | some r => some (es ++ r) | none => none) else none
/-- The shapes of a type's cells. -/
def shapeOf (P : Program) : Nat → TypeId → Option (List Sh)
  | 0, _ => none
  | n + 1, t =>
    match P.underlying t with
    | some (.int .i64) => some [.i]
    | some .bool => some [.b]
    | some (.slice e) => match shapeOf P n e with
      | some es => if P.cellsOf e = es.length ∧ 0 < es.length then some [.l es] else none
      | none => none
    | some (.struct fs) => match fieldsSh P (shapeOf P n) fs.toList 0 with
      | some es => if P.cellsOf t = es.length then some es else none
      | none => none
    | _ => none

mutual
/-- A datum has a shape. -/
def Fit : Sh → D → Prop
  | .i, d => ∃ n, d = .i n
  | .b, d => ∃ x, d = .b x
  | .l es, d => ∃ rows : List (List D), d = .l es.length rows.flatten ∧ ∀ r, r ∈ rows → FitL es r
def FitL : List Sh → List D → Prop
  | [], ds => ds = []
  | e :: es, ds => ∃ d r, ds = d :: r ∧ Fit e d ∧ FitL es r
end
/-- Cells read as data, one by one. -/
def RdAll (S : Nat → Prop) (w : World) : List D → List Value → Prop
  | [], vs => vs = []
  | d :: ds, vs => ∃ v r, vs = v :: r ∧ Rd S w d v ∧ RdAll S w ds r
theorem FitL.len : ∀ (es : List Sh) (ds : List D), FitL es ds → ds.length = es.length
  | [], _, h => by rw [show _ = [] from h]; rfl
  | e :: es, ds, h => by
    obtain ⟨d, r, rfl, _, hr⟩ := h
    simp [FitL.len es r hr]
theorem FitL.app : ∀ (es es' : List Sh) (ds ds' : List D), FitL es ds → FitL es' ds' → FitL (es ++ es') (ds ++ ds')
  | [], es', ds, ds', h, h' => by rw [show ds = [] from h]; exact h'
  | e :: es, es', ds, ds', h, h' => by
    obtain ⟨d, r, rfl, hd, hr⟩ := h
    exact ⟨d, r ++ ds', rfl, hd, FitL.app es es' r ds' hr h'⟩
theorem RdAll.app {S : Nat → Prop} {w : World} : ∀ (ds ds' : List D) (vs vs' : List Value), RdAll S w ds vs → RdAll S w ds' vs' → RdAll S w (ds ++ ds') (vs ++ vs')
  | [], ds', vs, vs', h, h' => by rw [show vs = [] from h]; exact h'
  | d :: ds, ds', vs, vs', h, h' => by
    obtain ⟨v, r, rfl, hd, hr⟩ := h
    exact ⟨v, r ++ vs', rfl, hd, RdAll.app ds ds' r vs' hr h'⟩
theorem RdAll.get {S : Nat → Prop} {w : World} : ∀ (ds : List D) (vs : List Value), RdAll S w ds vs → ∀ (j : Nat) (d : D), ds[j]? = some d → ∃ v, vs[j]? = some v ∧ Rd S w d v
  | [], _, _, j, d, hd => by simp at hd
  | d0 :: ds, vs, h, j, d, hd => by
    obtain ⟨v, r, rfl, h0, hr⟩ := h
    cases j with
    | zero => simp at hd; subst hd; exact ⟨v, rfl, h0⟩
    | succ j => simpa using RdAll.get ds r hr j d (by simpa using hd)
theorem flatten_get {k : Nat} : ∀ (rows : List (List D)), (∀ r, r ∈ rows → r.length = k) → ∀ i j, j < k → rows.flatten[i * k + j]? = (rows[i]?).bind (·[j]?)
  | [], _, i, j, _ => by simp
  | r :: rows, h, 0, j, hj => by
    have hr := h r (by simp)
    simp only [List.flatten_cons, Nat.zero_mul, Nat.zero_add]
    rw [List.getElem?_append_left (by omega)]; simp
  | r :: rows, h, i + 1, j, hj => by
    have hr := h r (by simp)
    simp only [List.flatten_cons]
    rw [List.getElem?_append_right (by rw [hr, Nat.add_mul]; omega), hr, show (i + 1) * k + j - k = i * k + j from by rw [Nat.add_mul]; omega,
      flatten_get rows (fun r hr => h r (by simp [hr])) i j hj]
    simp
theorem flatten_len {k : Nat} : ∀ (rows : List (List D)), (∀ r, r ∈ rows → r.length = k) → rows.flatten.length = rows.length * k
  | [], _ => by simp
  | r :: rows, h => by
    simp only [List.flatten_cons, List.length_append, List.length_cons, h r (by simp), flatten_len rows (fun r hr => h r (by simp [hr])), Nat.add_mul]; omega

theorem cells_some {w : World} {a : Addr} {n : Nat} {cs : List Value} (h : w.cells? 0 a n = some cs) : cs.length = n ∧ ∀ j, j < n → w.cell? (a.add j) = cs[j]? := by
  unfold World.cells? at h
  rw [if_pos (Nat.zero_le _)] at h
  have mlen : ∀ (l : List Nat) (r : List Value), l.mapM (fun i => w.cell? (a.add i)) = some r → r.length = l.length := by
    intro l
    induction l with
    | nil => intro r hr; simp at hr; subst hr; rfl
    | cons y l ih =>
      intro r hr
      rw [List.mapM_cons] at hr
      simp only [Option.bind_eq_bind, Option.bind_eq_some_iff, Option.pure_def, Option.some.injEq] at hr
      obtain ⟨v, hv, r', hr', rfl⟩ := hr
      simp [ih r' hr']
  have hl := mlen _ _ h
  refine ⟨by simpa using hl, fun j hj => ?_⟩
  have key : ∀ (l : List Nat) (r : List Value), l.mapM (fun i => w.cell? (a.add i)) = some r → ∀ (j x : Nat), l[j]? = some x → w.cell? (a.add x) = r[j]? := by
    intro l
    induction l with
    | nil => intro r _ j x hx; simp at hx
    | cons y l ih =>
      intro r hr j x hx
      rw [List.mapM_cons] at hr
      simp only [Option.bind_eq_bind, Option.bind_eq_some_iff, Option.pure_def, Option.some.injEq] at hr
      obtain ⟨v, hv, r', hr', rfl⟩ := hr
      cases j with
      | zero => simp at hx; subst hx; simpa using hv
      | succ j => simpa using ih r' hr' j x (by simpa using hx)
  exact key _ _ h j j (by simp [hj])
theorem spot_none {w : World} {a : Addr} {v : Value} (h : w.cell? (a.add 0) = some v) : a = ⟨a.block, a.off, none⟩ := by
  rw [show a.add 0 = a from rfl] at h
  obtain ⟨b, o, s⟩ := a
  cases s with
  | none => rfl
  | some x =>
    simp only [World.cell?] at h
    split at h
    · simp at h
    · cases h

theorem trod_rd {H : Type} {enc : TypeId × Value → H} {P : Program} {W : World} {sp : Nat → Bool} {held : Bool} : ∀ (n fuel : Nat) (t : TypeId) (cs : List Value) (sh : List Sh) (x : DataW H × List MemPlace),
    shapeOf P n t = some sh → DataW.trod enc P W 0 sp held fuel t cs = some x → ∃ ds, FitL sh ds ∧ RdAll (· < W.heap.size) W ds cs
  | 0, _, _, _, _, _, h, _ => by simp [shapeOf] at h
  | n + 1, 0, _, _, _, _, _, h => by simp [DataW.trod] at h
  | n + 1, fuel + 1, t, cs, sh, x, hs, h => by
    have ih := trod_rd (H := H) (enc := enc) (P := P) (W := W) (sp := sp) (held := held) n
    unfold shapeOf at hs
    split at hs
    · rename_i hu
      cases hs
      obtain ⟨m, hcs, _, _⟩ := DataW.trod_int hu h
      subst hcs
      exact ⟨[.i m], ⟨_, _, rfl, ⟨m, rfl⟩, rfl⟩, _, _, rfl, rfl, rfl⟩
    · rename_i hu
      cases hs
      unfold DataW.trod at h
      rw [hu] at h
      split at h <;> simp_all
      rename_i m
      exact ⟨[.b m], ⟨_, _, rfl, ⟨m, rfl⟩, rfl⟩, _, _, rfl, rfl, rfl⟩
    · rename_i e hu
      split at hs
      · rename_i es he
        split at hs
        · rename_i hk
          cases hs
          rcases DataW.trod_slice hu h with ⟨rfl, _⟩ | ⟨a, len, cap, elems, rest, m, _, rfl, _, _, hlc, hcm, hel, hget, _⟩
          · exact ⟨[.l es.length []], ⟨_, _, rfl, ⟨[], rfl, by simp⟩, rfl⟩, _, _, rfl, ⟨none, 0, 0, rfl, by simp, by simp [maxLen], .inl rfl, trivial⟩, rfl⟩
          · have hrow : ∀ i, i < len → ∃ ds cl, FitL es ds ∧ RdAll (· < W.heap.size) W ds cl ∧ W.cells? 0 (a.add (i * P.cellsOf e)) (P.cellsOf e) = some cl := fun i hi => by
              have := hget i hi
              rw [List.getElem?_eq_getElem (by omega)] at this
              obtain ⟨cl, hcl, ht⟩ := Option.bind_eq_some_iff.1 this
              obtain ⟨ds, hf, hr⟩ := ih m e cl es _ he ht
              exact ⟨ds, cl, hf, hr, hcl⟩
            have hch : ∃ f : Nat → List D × List Value, ∀ i, i < len → FitL es (f i).1 ∧ RdAll (· < W.heap.size) W (f i).1 (f i).2 ∧ W.cells? 0 (a.add (i * P.cellsOf e)) (P.cellsOf e) = some (f i).2 := by
              refine ⟨fun i => if h : i < len then ((Classical.choose (hrow i h)), Classical.choose (Classical.choose_spec (hrow i h))) else ([], []), fun i hi => ?_⟩
              simp only [hi, dif_pos]
              exact Classical.choose_spec (Classical.choose_spec (hrow i hi))
            obtain ⟨f, hf⟩ := hch
            have hlen : ∀ r, r ∈ (List.range len).map (fun i => (f i).1) → r.length = es.length := fun r hr => by
              obtain ⟨i, hi, rfl⟩ := List.mem_map.1 hr
              exact FitL.len _ _ (hf i (by simpa using hi)).1
            have hcell : ∀ i j d, i < len → j < es.length → (f i).1[j]? = some d → ∃ v, W.cell? (a.add (i * es.length + j)) = some v ∧ Rd (· < W.heap.size) W d v := fun i j d hi hj hd => by
              obtain ⟨h1, h2, h3⟩ := hf i hi
              obtain ⟨v, hv, hr⟩ := RdAll.get _ _ h2 j d hd
              obtain ⟨h4, h5⟩ := cells_some h3
              have := h5 j (by omega)
              rw [hv, hk.1] at this
              refine ⟨v, ?_, hr⟩
              rw [← this]
              unfold Addr.add
              by_cases e1 : i * es.length = 0 <;> by_cases e2 : j = 0 <;> simp [e1, e2, Nat.add_assoc]
            refine ⟨[.l es.length ((List.range len).map (fun i => (f i).1)).flatten], ⟨_, _, rfl, ⟨_, rfl, fun r hr => ?_⟩, rfl⟩, _, _, rfl, ⟨some a, len, cap, rfl, ?_, by omega, ?_, ?_⟩, rfl⟩
            · obtain ⟨i, hi, rfl⟩ := List.mem_map.1 hr
              exact (hf i (by simpa using hi)).1
            · rw [flatten_len _ hlen]; simp
            · by_cases h0 : len = 0
              · subst h0; exact .inl (by simp)
              · right
                have hfl : 0 < (f 0).1.length := by rw [FitL.len _ _ (hf 0 (by omega)).1]; exact hk.2
                obtain ⟨v, hv, _⟩ := hcell 0 0 (f 0).1[0] (by omega) hk.2 (by simp [hfl])
                rw [Nat.zero_mul, Nat.zero_add] at hv
                have hb := World.block_lt_of_cell? W _ hv
                exact ⟨hb, _, _, congrArg some (spot_none hv)⟩
            · refine RdL.mk _ _ _ fun q d hd => ?_
              have hq := (List.getElem?_eq_some_iff.1 hd).1
              rw [flatten_len _ hlen] at hq
              simp only [List.length_map, List.length_range] at hq
              have hk0 := hk.2
              obtain ⟨i, j, rfl, hj⟩ : ∃ i j, q = i * es.length + j ∧ j < es.length := ⟨q / es.length, q % es.length, by rw [Nat.mul_comm]; exact (Nat.div_add_mod q _).symm, Nat.mod_lt _ hk0⟩
              have hi : i < len := by
                rcases Nat.lt_or_ge i len with h1 | h1
                · exact h1
                · have := Nat.mul_le_mul_right es.length h1
                  omega
              rw [flatten_get _ hlen i j hj] at hd
              simp [hi] at hd
              obtain ⟨v, hv, hr⟩ := hcell i j d hi hj hd
              refine ⟨v, ?_, hr⟩
              have h00 : ∃ u, W.cell? (a.add 0) = some u := by
                have hfl : 0 < (f 0).1.length := by rw [FitL.len _ _ (hf 0 (by omega)).1]; exact hk.2
                obtain ⟨u, hu, _⟩ := hcell 0 0 (f 0).1[0] (by omega) hk.2 (by simp [hfl])
                exact ⟨u, by simpa using hu⟩
              obtain ⟨u, hu⟩ := h00
              have ea := spot_none hu
              rw [ea, Addr.add_lit] at hv
              exact hv
        · cases hs
      · cases hs
    · rename_i fs hu
      split at hs
      · rename_i es he
        split at hs
        · rename_i hk
          cases hs
          unfold DataW.trod at h
          rw [hu] at h
          have hcl : cs.length = P.cellsOf t ∧ ∃ xs, (fs.toList.mapM fun f => DataW.trod enc P W 0 sp held fuel f.type ((cs.drop f.offset).take (P.cellsOf f.type))) = some xs := by
            split at h <;> simp_all
            obtain ⟨_, a, ha, _⟩ := h
            exact ⟨a, ha⟩
          obtain ⟨hcl, xs, hxs⟩ := hcl
          have key : ∀ (l : List Field) (o : Nat) (es : List Sh) (xs : List (DataW H × List MemPlace)), fieldsSh P (shapeOf P n) l o = some es → o + es.length ≤ cs.length →
              l.mapM (fun f => DataW.trod enc P W 0 sp held fuel f.type ((cs.drop f.offset).take (P.cellsOf f.type))) = some xs → ∃ ds, FitL es ds ∧ RdAll (· < W.heap.size) W ds ((cs.drop o).take es.length) := by
            intro l
            induction l with
            | nil => intro o es xs h1 _ _; simp [fieldsSh] at h1; subst h1; exact ⟨[], rfl, by simp [RdAll]⟩
            | cons f l ihl =>
              intro o es xs h1 h2 h3
              rw [List.mapM_cons] at h3
              simp only [Option.bind_eq_bind, Option.bind_eq_some_iff, Option.pure_def, Option.some.injEq] at h3
              obtain ⟨y, hy, ys, hys, _⟩ := h3
              unfold fieldsSh at h1
              split at h1
              · cases h1
              · rename_i e1 hg
                split at h1
                · rename_i hof
                  split at h1
                  · rename_i r hr
                    cases h1
                    rw [List.length_append] at h2
                    obtain ⟨d1, a1, b1⟩ := ih fuel f.type _ e1 _ hg hy
                    obtain ⟨d2, a2, b2⟩ := ihl _ _ _ hr (by omega) hys
                    refine ⟨d1 ++ d2, FitL.app _ _ _ _ a1 a2, ?_⟩
                    rw [hof.1, hof.2] at b1
                    have := RdAll.app _ _ _ _ b1 b2
                    rwa [show (cs.drop o).take e1.length ++ (cs.drop (o + e1.length)).take r.length = (cs.drop o).take (e1 ++ r).length from by
                      rw [List.length_append, List.take_add, List.drop_drop]] at this
                  · cases h1
                · cases h1
          obtain ⟨ds, a1, b1⟩ := key _ _ _ _ he (by omega) hxs
          refine ⟨ds, a1, ?_⟩
          rw [List.drop_zero, List.take_of_length_le (by omega)] at b1
          exact b1
        · cases hs
      · cases hs
    · cases hs

theorem rows_ord : ∀ (rows : List (List D)), (∀ r, r ∈ rows → FitL [.i, .i, .i, .i] r) → ∃ os : List Ord, rows.flatten = os.flatMap Ord.ds
  | [], _ => ⟨[], rfl⟩
  | r :: rows, h => by
    obtain ⟨os, e⟩ := rows_ord rows (fun r hr => h r (by simp [hr]))
    obtain ⟨d0, r0, rfl, ⟨n0, rfl⟩, d1, r1, rfl, ⟨n1, rfl⟩, d2, r2, rfl, ⟨n2, rfl⟩, d3, r3, rfl, ⟨n3, rfl⟩, h4⟩ := h r (by simp)
    rw [show r3 = [] from h4]
    exact ⟨⟨n0, n1, n2, n3⟩ :: os, by simp [e, Ord.ds]⟩
/-- A parameter that is a program. -/
theorem open_P {H : Type} {enc : TypeId × Value → H} {P : Program} {W : World} {T : TypeId} {fs : Array Field} (hT : P.underlying T = some (.struct fs)) (hS : shapeOf P 6 T = some [.i, .l [.i, .i, .i, .i]]) {v : Value} {d : DataW H} {p : List MemPlace} {base : Nat}
    (hval : Value.okWide P W .any base T v) (h : DataW.Trod enc P W 0 (fun _ => true) true T v d p) : ∃ R a n c, v = .agg #[.int .i64 R, .slice a n c] ∧ n ≤ maxLen ∧ ∃ os : List Ord, os.length = n ∧ SlO (· < W.heap.size) W a os := by
  obtain ⟨cs, rfl, _⟩ := okWide_struct hT hval
  obtain ⟨fuel, hf⟩ := h
  obtain ⟨ds, h1, h2⟩ := trod_rd 6 fuel T _ _ _ hS hf
  obtain ⟨d0, r0, rfl, ⟨R, rfl⟩, d1, r1, rfl, ⟨rows, rfl, hrows⟩, h3⟩ := h1
  rw [show r1 = [] from h3] at h2
  obtain ⟨v0, vr0, e0, hv0, v1, vr1, e1, hv1, e2⟩ := h2
  obtain ⟨os, eo⟩ := rows_ord rows hrows
  rw [eo] at hv1
  obtain ⟨a, c, e3, ho⟩ := Rd_O.1 hv1
  refine ⟨R, a, os.length, c, ?_, ho.len, os, rfl, ho⟩
  rw [show v0 = _ from hv0] at e0
  rw [e3] at e1
  rw [show vr1 = [] from e2] at e1
  rw [e1] at e0
  obtain ⟨l⟩ := cs
  simp only [Value.cells] at e0
  rw [e0]
end Go.Proofs.YtbnikblhnibgiaaDoor
