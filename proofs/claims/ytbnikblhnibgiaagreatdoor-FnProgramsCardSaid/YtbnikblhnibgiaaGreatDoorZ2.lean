/- What an argument of whatever shape reads as: the reader's data turned into data of one's own. -/
import Derived.Test.YtbnikblhnibgiaaGreatDoorZ1
namespace Go.Proofs.YtbnikblhnibgiaaGreatDoor
open Go.ChangeShapes Go.WideShapes Go.ChangeAt Go.RowKit

/-- The shape of a cell. -/
inductive Sh where
  | i
  | b
  | l (es : List Sh)

def fieldsSh (P : Program) (g : TypeId → Option (List Sh)) : List Field → Nat → Option (List Sh)
  | [], _ => some []
  | f :: fs, o =>
    match g f.type with
    | none => none
    | some es => if f.offset = o ∧ P.cellsOf f.type = es.length then (match fieldsSh P g fs (o + es.length) with | some r => some (es ++ r) | none => none) else none
/-- The shapes of a type's cells. -/
def shapeOf (P : Program) : Nat → TypeId → Option (List Sh)
  | 0, _ => none
  | n + 1, t =>
    match P.underlying t with
    | some (.int .i64) => some [.i]
    | some .bool => some [.b]
    | some (.slice e) => match shapeOf P n e with
      | some es => if P.cellsOf e = es.length ∧ 0 < es.length then some [.l es] else none
      | none => none
    | some (.struct fs) => match fieldsSh P (shapeOf P n) fs.toList 0 with
      | some es => if P.cellsOf t = es.length then some es else none
      | none => none
    | _ => none

mutual
/-- A datum has a shape. -/
def Fit : Sh → D → Prop
  | .i, d => ∃ n, d = .i n
  | .b, d => ∃ x, d = .b x
  | .l es, d => ∃ rows : List (List D), d = .l es.length rows.flatten ∧ ∀ r, r ∈ rows → FitL es r
def FitL : List Sh → List D → Prop
  | [], ds => ds = []
  | e :: es, ds => ∃ d r, ds = d :: r ∧ Fit e d ∧ FitL es r
end
/-- Cells read as data, one by one. -/
def RdAll (S : Nat → Prop) (w : World) : List D → List Value → Prop
  | [], vs => vs = []
  | d :: ds, vs => ∃ v r, vs = v :: r ∧ Rd S w d v ∧ RdAll S w ds r
theorem FitL.len : ∀ (es : List Sh) (ds : List D), FitL es ds → ds.length = es.length
  | [], _, h => by rw [show _ = [] from h]; rfl
  | e :: es, ds, h => by
    obtain ⟨d, r, rfl, _, hr⟩ := h
    simp [FitL.len es r hr]
theorem FitL.app : ∀ (es es' : List Sh) (ds ds' : List D), FitL es ds → FitL es' ds' → FitL (es ++ es') (ds ++ ds')
  | [], es', ds, ds', h, h' => by rw [show ds = [] from h]; exact h'
  | e :: es, es', ds, ds', h, h' => by
    obtain ⟨d, r, rfl, hd, hr⟩ := h
    exact ⟨d, r ++ ds', rfl, hd, FitL.app es es' r ds' hr h'⟩
theorem RdAll.app {S : Nat → Prop} {w : World} : ∀ (ds ds' : List D) (vs vs' : List Value), RdAll S w ds vs → RdAll S w ds' vs' → RdAll S w (ds ++ ds') (vs ++ vs')
  | [], ds', vs, vs', h, h' => by rw [show vs = [] from h]; exact h'
  | d :: ds, ds', vs, vs', h, h' => by
    obtain ⟨v, r, rfl, hd, hr⟩ := h
    exact ⟨v, r ++ vs', rfl, hd, RdAll.app ds ds' r vs' hr h'⟩
theorem RdAll.get {S : Nat → Prop} {w : World} : ∀ (ds : List D) (vs : List Value), RdAll S w ds vs → ∀ (j : Nat) (d : D), ds[j]? = some d → ∃ v, vs[j]? = some v ∧ Rd S w d v
  | [], _, _, j, d, hd => by simp at hd
  | d0 :: ds, vs, h, j, d, hd => by
    obtain ⟨v, r, rfl, h0, hr⟩ := h
    cases j with
    | zero => simp at hd; subst hd; exact ⟨v, rfl, h0⟩
    | succ j => simpa using RdAll.get ds r hr j d (by simpa using hd)
theorem flatten_get {k : Nat} : ∀ (rows : List (List D)), (∀ r, r ∈ rows → r.length = k) → ∀ i j, j < k → rows.flatten[i * k + j]? = (rows[i]?).bind (·[j]?)
  | [], _, i, j, _ => by simp
  | r :: rows, h, 0, j, hj => by
    have hr := h r (by simp)
    simp only [List.flatten_cons, Nat.zero_mul, Nat.zero_add]
    rw [List.getElem?_append_left (by omega)]; simp
  | r :: rows, h, i + 1, j, hj => by
    have hr := h r (by simp)
    simp only [List.flatten_cons]
    rw [List.getElem?_append_right (by rw [hr, Nat.add_mul]; omega), hr, show (i + 1) * k + j - k = i * k + j from by rw [Nat.add_mul]; omega,
      flatten_get rows (fun r hr => h r (by simp [hr])) i j hj]
    simp
theorem flatten_len {k : Nat} : ∀ (rows : List (List D)), (∀ r, r ∈ rows → r.length = k) → rows.flatten.length = rows.length * k
  | [], _ => by simp
  | r :: rows, h => by
    simp only [List.flatten_cons, List.length_append, List.length_cons, h r (by simp), flatten_len rows (fun r hr => h r (by simp [hr])), Nat.add_mul]; omega

theorem cells_some {w : World} {a : Addr} {n : Nat} {cs : List Value} (h : w.cells? 0 a n = some cs) : cs.length = n ∧ ∀ j, j < n → w.cell? (a.add j) = cs[j]? := by
  unfold World.cells? at h
  rw [if_pos (Nat.zero_le _)] at h
  have mlen : ∀ (l : List Nat) (r : List Value), l.mapM (fun i => w.cell? (a.add i)) = some r → r.length = l.length := by
    intro l
    induction l with
    | nil => intro r hr; simp at hr; subst hr; rfl
    | cons y l ih =>
      intro r hr
      rw [List.mapM_cons] at hr
      simp only [Option.bind_eq_bind, Option.bind_eq_some_iff, Option.pure_def, Option.some.injEq] at hr
      obtain ⟨v, hv, r', hr', rfl⟩ := hr
      simp [ih r' hr']
  have hl := mlen _ _ h
  refine ⟨by simpa using hl, fun j hj => ?_⟩
  have key : ∀ (l : List Nat) (r : List Value), l.mapM (fun i => w.cell? (a.add i)) = some r → ∀ (j x : Nat), l[j]? = some x → w.cell? (a.add x) = r[j]? := by
    intro l
    induction l with
    | nil => intro r _ j x hx; simp at hx
    | cons y l ih =>
      intro r hr j x hx
      rw [List.mapM_cons] at hr
      simp only [Option.bind_eq_bind, Option.bind_eq_some_iff, Option.pure_def, Option.some.injEq] at hr
      obtain ⟨v, hv, r', hr', rfl⟩ := hr
      cases j with
      | zero => simp at hx; subst hx; simpa using hv
      | succ j => simpa using ih r' hr' j x (by simpa using hx)
  exact key _ _ h j j (by simp [hj])
theorem spot_none {w : World} {a : Addr} {v : Value} (h : w.cell? (a.add 0) = some v) : a = ⟨a.block, a.off, none⟩ := by
  rw [show a.add 0 = a from rfl] at h
  obtain ⟨b, o, s⟩ := a
  cases s with
  | none => rfl
  | some x =>
    simp only [World.cell?] at h
    split at h
    · simp at h
    · cases h

theorem trod_rd {H : Type} {enc : TypeId × Value → H} {P : Program} {W : World} {sp : Nat → Bool} {held : Bool} : ∀ (n fuel : Nat) (t : TypeId) (cs : List Value) (sh : List Sh) (x : DataW H × List MemPlace),
    shapeOf P n t = some sh → DataW.trod enc P W 0 sp held fuel t cs = some x → ∃ ds, FitL sh ds ∧ RdAll (· < W.heap.size) W ds cs
  | 0, _, _, _, _, _, h, _ => by simp [shapeOf] at h
  | n + 1, 0, _, _, _, _, _, h => by simp [DataW.trod] at h
  | n + 1, fuel + 1, t, cs, sh, x, hs, h => by
    have ih := trod_rd (H := H) (enc := enc) (P := P) (W := W) (sp := sp) (held := held) n
    unfold shapeOf at hs
    split at hs
    · rename_i hu
      cases hs
      obtain ⟨m, hcs, _, _⟩ := DataW.trod_int hu h
      subst hcs
      exact ⟨[.i m], ⟨_, _, rfl, ⟨m, rfl⟩, rfl⟩, _, _, rfl, rfl, rfl⟩
    · rename_i hu
      cases hs
      unfold DataW.trod at h
      rw [hu] at h
      split at h <;> simp_all
      rename_i m
      exact ⟨[.b m], ⟨_, _, rfl, ⟨m, rfl⟩, rfl⟩, _, _, rfl, rfl, rfl⟩
    · rename_i e hu
      split at hs
      · rename_i es he
        split at hs
        · rename_i hk
          cases hs
          rcases DataW.trod_slice hu h with ⟨rfl, _⟩ | ⟨a, len, cap, elems, rest, m, _, rfl, _, _, hlc, hcm, hel, hget, _⟩
          · exact ⟨[.l es.length []], ⟨_, _, rfl, ⟨[], rfl, by simp⟩, rfl⟩, _, _, rfl, ⟨none, 0, 0, rfl, by simp, by simp [maxLen], .inl rfl, trivial⟩, rfl⟩
          · have hrow : ∀ i, i < len → ∃ ds cl, FitL es ds ∧ RdAll (· < W.heap.size) W ds cl ∧ W.cells? 0 (a.add (i * P.cellsOf e)) (P.cellsOf e) = some cl := fun i hi => by
              have := hget i hi
              rw [List.getElem?_eq_getElem (by omega)] at this
              obtain ⟨cl, hcl, ht⟩ := Option.bind_eq_some_iff.1 this
              obtain ⟨ds, hf, hr⟩ := ih m e cl es _ he ht
              exact ⟨ds, cl, hf, hr, hcl⟩
            have hch : ∃ f : Nat → List D × List Value, ∀ i, i < len → FitL es (f i).1 ∧ RdAll (· < W.heap.size) W (f i).1 (f i).2 ∧ W.cells? 0 (a.add (i * P.cellsOf e)) (P.cellsOf e) = some (f i).2 := by
              refine ⟨fun i => if h : i < len then ((Classical.choose (hrow i h)), Classical.choose (Classical.choose_spec (hrow i h))) else ([], []), fun i hi => ?_⟩
              simp only [hi, dif_pos]
              exact Classical.choose_spec (Classical.choose_spec (hrow i hi))
            obtain ⟨f, hf⟩ := hch
            have hlen : ∀ r, r ∈ (List.range len).map (fun i => (f i).1) → r.length = es.length := fun r hr => by
              obtain ⟨i, hi, rfl⟩ := List.mem_map.1 hr
              exact FitL.len _ _ (hf i (by simpa using hi)).1
            have hcell : ∀ i j d, i < len → j < es.length → (f i).1[j]? = some d → ∃ v, W.cell? (a.add (i * es.length + j)) = some v ∧ Rd (· < W.heap.size) W d v := fun i j d hi hj hd => by
              obtain ⟨h1, h2, h3⟩ := hf i hi
              obtain ⟨v, hv, hr⟩ := RdAll.get _ _ h2 j d hd
              obtain ⟨h4, h5⟩ := cells_some h3
              have := h5 j (by omega)
              rw [hv, hk.1] at this
              refine ⟨v, ?_, hr⟩
              rw [← this]
              unfold Addr.add
              by_cases e1 : i * es.length = 0 <;> by_cases e2 : j = 0 <;> simp [e1, e2, Nat.add_assoc]
            refine ⟨[.l es.length ((List.range len).map (fun i => (f i).1)).flatten], ⟨_, _, rfl, ⟨_, rfl, fun r hr => ?_⟩, rfl⟩, _, _, rfl, ⟨some a, len, cap, rfl, ?_, by omega, ?_, ?_⟩, rfl⟩
            · obtain ⟨i, hi, rfl⟩ := List.mem_map.1 hr
              exact (hf i (by simpa using hi)).1
            · rw [flatten_len _ hlen]; simp
            · by_cases h0 : len = 0
              · subst h0; exact .inl (by simp)
              · right
                have hfl : 0 < (f 0).1.length := by rw [FitL.len _ _ (hf 0 (by omega)).1]; exact hk.2
                obtain ⟨v, hv, _⟩ := hcell 0 0 (f 0).1[0] (by omega) hk.2 (by simp [hfl])
                rw [Nat.zero_mul, Nat.zero_add] at hv
                have hb := World.block_lt_of_cell? W _ hv
                exact ⟨hb, _, _, congrArg some (spot_none hv)⟩
            · refine RdL.mk _ _ _ fun q d hd => ?_
              have hq := (List.getElem?_eq_some_iff.1 hd).1
              rw [flatten_len _ hlen] at hq
              simp only [List.length_map, List.length_range] at hq
              have hk0 := hk.2
              obtain ⟨i, j, rfl, hj⟩ : ∃ i j, q = i * es.length + j ∧ j < es.length := ⟨q / es.length, q % es.length, by rw [Nat.mul_comm]; exact (Nat.div_add_mod q _).symm, Nat.mod_lt _ hk0⟩
              have hi : i < len := by
                rcases Nat.lt_or_ge i len with h1 | h1
                · exact h1
                · have := Nat.mul_le_mul_right es.length h1
                  omega
              rw [flatten_get _ hlen i j hj] at hd
              simp [hi] at hd
              obtain ⟨v, hv, hr⟩ := hcell i j d hi hj hd
              refine ⟨v, ?_, hr⟩
              have h00 : ∃ u, W.cell? (a.add 0) = some u := by
                have hfl : 0 < (f 0).1.length := by rw [FitL.len _ _ (hf 0 (by omega)).1]; exact hk.2
                obtain ⟨u, hu, _⟩ := hcell 0 0 (f 0).1[0] (by omega) hk.2 (by simp [hfl])
                exact ⟨u, by simpa using hu⟩
              obtain ⟨u, hu⟩ := h00
              have ea := spot_none hu
              rw [ea, Addr.add_lit] at hv
              exact hv
        · cases hs
      · cases hs
    · rename_i fs hu
      split at hs
      · rename_i es he
        split at hs
        · rename_i hk
          cases hs
          unfold DataW.trod at h
          rw [hu] at h
          have hcl : cs.length = P.cellsOf t ∧ ∃ xs, (fs.toList.mapM fun f => DataW.trod enc P W 0 sp held fuel f.type ((cs.drop f.offset).take (P.cellsOf f.type))) = some xs := by
            split at h <;> simp_all
            obtain ⟨_, a, ha, _⟩ := h
            exact ⟨a, ha⟩
          obtain ⟨hcl, xs, hxs⟩ := hcl
          have key : ∀ (l : List Field) (o : Nat) (es : List Sh) (xs : List (DataW H × List MemPlace)), fieldsSh P (shapeOf P n) l o = some es → o + es.length ≤ cs.length →
              l.mapM (fun f => DataW.trod enc P W 0 sp held fuel f.type ((cs.drop f.offset).take (P.cellsOf f.type))) = some xs → ∃ ds, FitL es ds ∧ RdAll (· < W.heap.size) W ds ((cs.drop o).take es.length) := by
            intro l
            induction l with
            | nil => intro o es xs h1 _ _; simp [fieldsSh] at h1; subst h1; exact ⟨[], rfl, by simp [RdAll]⟩
            | cons f l ihl =>
              intro o es xs h1 h2 h3
              rw [List.mapM_cons] at h3
              simp only [Option.bind_eq_bind, Option.bind_eq_some_iff, Option.pure_def, Option.some.injEq] at h3
              obtain ⟨y, hy, ys, hys, _⟩ := h3
              unfold fieldsSh at h1
              split at h1
              · cases h1
              · rename_i e1 hg
                split at h1
                · rename_i hof
                  split at h1
                  · rename_i r hr
                    cases h1
                    rw [List.length_append] at h2
                    obtain ⟨d1, a1, b1⟩ := ih fuel f.type _ e1 _ hg hy
                    obtain ⟨d2, a2, b2⟩ := ihl _ _ _ hr (by omega) hys
                    refine ⟨d1 ++ d2, FitL.app _ _ _ _ a1 a2, ?_⟩
                    rw [hof.1, hof.2] at b1
                    have := RdAll.app _ _ _ _ b1 b2
                    rwa [show (cs.drop o).take e1.length ++ (cs.drop (o + e1.length)).take r.length = (cs.drop o).take (e1 ++ r).length from by
                      rw [List.length_append, List.take_add, List.drop_drop]] at this
                  · cases h1
                · cases h1
          obtain ⟨ds, a1, b1⟩ := key _ _ _ _ he (by omega) hxs
          refine ⟨ds, a1, ?_⟩
          rw [List.drop_zero, List.take_of_length_le (by omega)] at b1
          exact b1
        · cases hs
      · cases hs
    · cases hs

theorem rows_ord : ∀ (rows : List (List D)), (∀ r, r ∈ rows → FitL [.i, .i, .i, .i] r) → ∃ os : List Ord, rows.flatten = os.flatMap Ord.ds
  | [], _ => ⟨[], rfl⟩
  | r :: rows, h => by
    obtain ⟨os, e⟩ := rows_ord rows (fun r hr => h r (by simp [hr]))
    obtain ⟨d0, r0, rfl, ⟨n0, rfl⟩, d1, r1, rfl, ⟨n1, rfl⟩, d2, r2, rfl, ⟨n2, rfl⟩, d3, r3, rfl, ⟨n3, rfl⟩, h4⟩ := h r (by simp)
    rw [show r3 = [] from h4]
    exact ⟨⟨n0, n1, n2, n3⟩ :: os, by simp [e, Ord.ds]⟩
/-- A parameter that is a program. -/
theorem open_P {H : Type} {enc : TypeId × Value → H} {P : Program} {W : World} {T : TypeId} {fs : Array Field} (hT : P.underlying T = some (.struct fs)) (hS : shapeOf P 6 T = some [.i, .l [.i, .i, .i, .i]]) {v : Value} {d : DataW H} {p : List MemPlace} {base : Nat}
    (hval : Value.okWide P W .any base T v) (h : DataW.Trod enc P W 0 (fun _ => true) true T v d p) : ∃ R a n c, v = .agg #[.int .i64 R, .slice a n c] ∧ n ≤ maxLen ∧ ∃ os : List Ord, os.length = n ∧ SlO (· < W.heap.size) W a os := by
  obtain ⟨cs, rfl, _⟩ := okWide_struct hT hval
  obtain ⟨fuel, hf⟩ := h
  obtain ⟨ds, h1, h2⟩ := trod_rd 6 fuel T _ _ _ hS hf
  obtain ⟨d0, r0, rfl, ⟨R, rfl⟩, d1, r1, rfl, ⟨rows, rfl, hrows⟩, h3⟩ := h1
  rw [show r1 = [] from h3] at h2
  obtain ⟨v0, vr0, e0, hv0, v1, vr1, e1, hv1, e2⟩ := h2
  obtain ⟨os, eo⟩ := rows_ord rows hrows
  rw [eo] at hv1
  obtain ⟨a, c, e3, ho⟩ := Rd_O.1 hv1
  refine ⟨R, a, os.length, c, ?_, ho.len, os, rfl, ho⟩
  rw [show v0 = _ from hv0] at e0
  rw [e3] at e1
  rw [show vr1 = [] from e2] at e1
  rw [e1] at e0
  obtain ⟨l⟩ := cs
  simp only [Value.cells] at e0
  rw [e0]
end Go.Proofs.YtbnikblhnibgiaaGreatDoor

/- Contracts of the laws' own functions on lists of numbers: copy, compare, mark, look at marks. -/
namespace Go.Proofs.YtbnikblhnibgiaaGreatDoor
open Go.RowKit

/-- Behind k marks. -/
structure Mkd (F : List Nat) (w wr : World) (a : Option Addr) (xs : List Int) (m : Int) (k : Nat) : Prop where
  exc : Exc F w wr
  done : ∀ i, i < k → wr.cell? (adr a i) = some (.int .i64 (m + i))
  rest : ∀ i, k ≤ i → i < xs.length → wr.cell? (adr a i) = some (.int .i64 (nth xs i))
  free : ∀ i, i < xs.length → wr.frozen? (adr a i) = false
theorem adr_ne {a : Option Addr} {i j : Nat} (h : i ≠ j) : adr a i ≠ adr a j := by
  intro e; simp [adr] at e; omega
theorem Mkd.next {F : List Nat} {w wr : World} {a : Option Addr} {xs : List Int} {m : Int} {k : Nat} (h : Mkd F w wr a xs m k) (hk : k < xs.length) (hF : blk a ∈ F) : Mkd F w (wr.setCell (adr a k) (.int .i64 (m + k))) a xs m (k + 1) :=
  ⟨h.exc.trans ((Exc.setCell wr (adr a k) _).wider (by intro g hg; simp at hg; subst hg; exact hF)), fun i hi => by
      by_cases e : i = k
      · subst e; exact World.cell?_setCell_same wr _ _ (h.rest i (Nat.le_refl _) hk)
      · rw [World.cell?_setCell_other _ _ _ _ (adr_ne (Ne.symm e))]; exact h.done i (by omega),
    fun i hi hx => by rw [World.cell?_setCell_other _ _ _ _ (adr_ne (by omega))]; exact h.rest i (by omega) hx,
    fun i hi => by rw [World.frozen?_setCell]; exact h.free i hi⟩
theorem eq_of_nth {xs ys : List Int} (hl : xs.length = ys.length) (h : ∀ j, j < xs.length → nth xs j = nth ys j) : xs = ys := by
  refine List.ext_getElem hl fun i h1 h2 => ?_
  have := h i h1
  rwa [nth_lt h1, nth_lt h2] at this
theorem eq_of_nthR {xs ys : List (List Int)} (hl : xs.length = ys.length) (h : ∀ j, j < xs.length → nthR xs j = nthR ys j) : xs = ys := by
  refine List.ext_getElem hl fun i h1 h2 => ?_
  have := h i h1
  rwa [nthR_lt h1, nthR_lt h2] at this
theorem stillP {P : Program} {f : FuncId} {args : Array Value} {w : World} {n : Nat} {v : Value} (h : Calls P f args (w.drewN n) (RetP (w.drewN n) v)) : Calls P f args (w.drewN n) fun e w'' => e = .returned v ∧ ∃ m, w'' = w.drewN m :=
  h.mono fun _ _ ⟨he, hm⟩ => ⟨he, n, hm.symm⟩
theorem stillQ {P : Program} {f : FuncId} {args : Array Value} {w : World} {n : Nat} {v : Value} (h : Calls P f args (w.drewN n) (RetQ (w.drewN n) v)) : Calls P f args (w.drewN n) fun e w'' => e = .returned v ∧ ∃ m, w'' = w.drewN m :=
  h.mono fun _ _ ⟨he, m, hm⟩ => ⟨he, n + m, by rw [hm, World.drewN_drewN]⟩
theorem stillP2 {P : Program} {f : FuncId} {args : Array Value} {w : World} {n a : Nat} {v : Value} (h : Calls P f args (w.drewN (n + a)) (RetP (w.drewN (n + a)) v)) : Calls P f args (w.drewN (n + a)) fun e w'' => e = .returned v ∧ ∃ m, w'' = w.drewN (n + m) :=
  h.mono fun _ _ ⟨he, hm⟩ => ⟨he, a, hm.symm⟩
theorem stillQ2 {P : Program} {f : FuncId} {args : Array Value} {w : World} {n a : Nat} {v : Value} (h : Calls P f args (w.drewN (n + a)) (RetQ (w.drewN (n + a)) v)) : Calls P f args (w.drewN (n + a)) fun e w'' => e = .returned v ∧ ∃ m, w'' = w.drewN (n + m) :=
  h.mono fun _ _ ⟨he, m, hm⟩ => ⟨he, a + m, by rw [hm, World.drewN_drewN, Nat.add_assoc]⟩
/-- Are two lists the same? -/
def eqI (xs ys : List Int) : Bool := decide (xs = ys)
def eqII (xs ys : List (List Int)) : Bool := decide (xs = ys)
theorem eqI_len {xs ys : List Int} (h : ¬ xs.length = ys.length) : eqI xs ys = false := decide_eq_false fun e => h (by rw [e])
theorem eqI_false {xs ys : List Int} {j : Nat} (h : ¬ nth xs j = nth ys j) : eqI xs ys = false := decide_eq_false fun e => h (by rw [e])
theorem eqI_true {xs ys : List Int} (hl : xs.length = ys.length) (h : ∀ j, j < xs.length → nth xs j = nth ys j) : eqI xs ys = true := decide_eq_true (eq_of_nth hl h)
theorem eqI_refl (xs : List Int) : eqI xs xs = true := decide_eq_true rfl
theorem eqI_eq {xs ys : List Int} (h : eqI xs ys = true) : xs = ys := of_decide_eq_true h
theorem eqI_ne {xs ys : List Int} (h : eqI xs ys = false) : xs ≠ ys := of_decide_eq_false h
theorem eqII_len {xs ys : List (List Int)} (h : ¬ xs.length = ys.length) : eqII xs ys = false := decide_eq_false fun e => h (by rw [e])
theorem eqII_false {xs ys : List (List Int)} {j : Nat} (h : eqI (nthR xs j) (nthR ys j) = false) : eqII xs ys = false := decide_eq_false fun e => eqI_ne h (by rw [e])
theorem eqII_true {xs ys : List (List Int)} (hl : xs.length = ys.length) (h : ∀ j, j < xs.length → eqI (nthR xs j) (nthR ys j) = true) : eqII xs ys = true := decide_eq_true (eq_of_nthR hl fun j hj => eqI_eq (h j hj))
theorem eqII_refl (xs : List (List Int)) : eqII xs xs = true := decide_eq_true rfl
theorem eqII_eq {xs ys : List (List Int)} (h : eqII xs ys = true) : xs = ys := of_decide_eq_true h
set_option maxHeartbeats 400000 in
theorem slicesEqualI_c (S T : Nat → Prop) (a b : Option Addr) (c c' : Nat) (xs ys : List Int) (w : World) (hx : SlI S w a xs) (hy : SlI T w b ys) :
    Calls Tryz.prog 39 #[.slice a xs.length c, .slice b ys.length c'] w (RetQ w (.bool (eqI xs ys))) := by
  have l1 := hx.len
  have l2 := hy.len
  unfold maxLen at l1 l2
  cases hl : ((xs.length : Int) != ys.length)
  · have hq : xs.length = ys.length := by simp at hl; omega
    have HQ := Lib.hid hq
    clear hq
    have i1 := hx.ix tabI.under tabI.size c
    have i2 := hy.ix tabI.under tabI.size c'
    go_enter Tryz.func39, Tryz.ntmps39
    go_wp2
    go_loopw [5, 13] (fun _ i wr => ∃ k n : Nat, k ≤ xs.length ∧ i = .int .i64 k ∧ wr = w.drewN n ∧ (∀ j, j < k → nth xs j = nth ys j)) (fun _ i _ => xs.length - (intOf i).toNat)
    case atStart => exact ⟨0, 0, Nat.zero_le _, rfl, rfl, by omega⟩
    case round =>
        obtain ⟨k, n, hk, rfl, rfl, hj⟩ := hrel
        have HJ := Lib.hid hj
        clear hj
        by_cases hlt : k < xs.length
        · have hlt2 : k < ys.length := by have := HQ.out; omega
          have k2 : (k : Int) < ys.length := by omega
          have g1 := hx.cell k hlt
          have g2 := hy.cell k hlt2
          by_cases hp : nth xs k = nth ys k
          · have HP := Lib.hid hp
            rw [hp] at g1
            clear hp
            go_wp2
            go_quiet (fail)
            go_wp2
            go_roundw
            case rel => exact ⟨k + 1, _, by omega, by go_num, rfl, upto HJ.out HP.out⟩
            case measure => simp [intOf]; omega
          · go_wp2
            go_quiet (fail)
            go_wp2
            go_ret
            exact ⟨ret_bool (eqI_false hp).symm, _, by rw [World.drewN_drewN]⟩
        · go_wp2
          go_ret
          have e : k = xs.length := by omega
          exact ⟨ret_bool (eqI_true HQ.out (e ▸ HJ.out)).symm, n, rfl⟩
  · have hq : ¬ xs.length = ys.length := by simp at hl; omega
    have HQ := Lib.hid hq
    clear hq
    go_enter Tryz.func39, Tryz.ntmps39
    go_wp2
    go_ret
    exact ⟨ret_bool (eqI_len HQ.out).symm, 0, rfl⟩
/-- What is left when lists have been weighed, one by one; -1 if it isn't enough. -/
def szNext (left : Int) (xs : List Int) : Int := if left < xs.length then -1 else left - xs.length
def szII (left : Int) (xs : List (List Int)) : Int := if left < xs.length then -1 else (xs.foldl (fun l r => if l < 0 then l else szNext l r) (left - xs.length))
end Go.Proofs.YtbnikblhnibgiaaGreatDoor

/- A block that is filled element by element with data of their own; the laws' functions on lists of lists. -/
namespace Go.Proofs.YtbnikblhnibgiaaGreatDoor
open Go.RowKit

theorem OwL.setCell {w : World} : ∀ (ds : List D) (g o : Nat) (F : List Nat), OwL w ds g o F → g ∉ F → ∀ (i : Nat) (u : Value), o + ds.length ≤ i → OwL (w.setCell ⟨g, i, none⟩ u) ds g o F
  | [], _, _, _, r, _, _, _, _ => r
  | d :: ds, g, o, F, r, hg, i, u, hi => by
    obtain ⟨v, F1, F2, hc, hf, hd, hr, hF⟩ := r
    subst hF
    simp only [List.length_cons] at hi
    refine ⟨v, F1, F2, ?_, ?_, Ow.setCell hd (by intro h; exact hg (List.mem_append_left _ h)) u, OwL.setCell ds g (o + 1) F2 hr (fun h => hg (by simp [h])) i u (by omega), rfl⟩
    · rw [World.cell?_setCell_other _ _ _ _ (by intro e; simp at e <;> omega)]; exact hc
    · rw [World.frozen?_setCell]; exact hf
theorem OwL.snoc {w : World} {d : D} {v : Value} {F' : List Nat} : ∀ (ds : List D) (g o : Nat) (F : List Nat), OwL w ds g o F → w.cell? ⟨g, o + ds.length, none⟩ = some v → w.frozen? ⟨g, o + ds.length, none⟩ = false → Ow w d v F' → OwL w (ds ++ [d]) g o (F ++ F')
  | [], g, o, F, r, hc, hf, hd => by
    have r' : F = [] := r
    subst r'
    exact ⟨v, F', [], by simpa using hc, by simpa using hf, hd, rfl, by simp⟩
  | d0 :: ds, g, o, F, r, hc, hf, hd => by
    obtain ⟨v0, F1, F2, hc0, hf0, hd0, hr, hF⟩ := r
    subst hF
    refine ⟨v0, F1, F2 ++ F', hc0, hf0, hd0, OwL.snoc ds g (o + 1) F2 hr ?_ ?_ hd, by simp⟩
    · rw [show o + 1 + ds.length = o + (d0 :: ds).length from by simp; omega]; exact hc
    · rw [show o + 1 + ds.length = o + (d0 :: ds).length from by simp; omega]; exact hf
theorem OwL.below {w w' : World} {ds : List D} {g o : Nat} {F : List Nat} (h : OwL w ds g o F) (hb : Below w.heap.size w w') (hg : g < w.heap.size) : OwL w' ds g o F :=
  OwL.stable ds g o F (hb.block g hg) (fun k hk => hb.block k (OwL.lt ds g o F h k hk)) h
/-- Block g (made since w) holds the data ds in its first cells, each in memory of its own; n cells can be written. -/
structure Fil (w wr : World) (g n : Nat) (ds : List D) (F : List Nat) : Prop where
  below : Below w.heap.size w wr
  base : w.heap.size ≤ g
  lt : g < wr.heap.size
  own : OwL wr ds g 0 F
  out : g ∉ F
  nodup : F.Nodup
  fresh : ∀ x, x ∈ F → w.heap.size ≤ x
  has : ∀ i, i < n → ∃ v, wr.cell? ⟨g, i, none⟩ = some v
  free : ∀ i, wr.frozen? ⟨g, i, none⟩ = false
theorem Fil.carry {w wr w' : World} {g n : Nat} {ds : List D} {F : List Nat} (h : Fil w wr g n ds F) (hb : Below wr.heap.size wr w') : Fil w w' g n ds F := by
  have e : ∀ i, w'.cell? ⟨g, i, none⟩ = wr.cell? ⟨g, i, none⟩ := fun i => hb.cell (p := ⟨g, i, none⟩) h.lt
  exact ⟨bnext h.below hb (Nat.le_refl _), h.base, Nat.lt_of_lt_of_le h.lt hb.size, h.own.below hb h.lt, h.out, h.nodup, h.fresh, fun i hi => by rw [e]; exact h.has i hi, fun i => by rw [hb.frozen (p := ⟨g, i, none⟩) h.lt]; exact h.free i⟩
/-- One datum more. -/
theorem Fil.next {w wr w' : World} {g n : Nat} {ds : List D} {F : List Nat} {d : D} {v : Value} {F' : List Nat} (h : Fil w wr g n ds F) (hb : Below wr.heap.size wr w') (ho : Ow w' d v F') (hn : F'.Nodup) (hl : ∀ x, x ∈ F' → wr.heap.size ≤ x) (hk : ds.length < n) :
    Fil w (w'.setCell ⟨g, ds.length, none⟩ v) g n (ds ++ [d]) (F ++ F') := by
  have hc := h.carry hb
  have hg' : g ∉ F' := fun e => by have := hl g e; have := h.lt; omega
  obtain ⟨u, hu⟩ := hc.has _ hk
  refine ⟨hc.below.setCell hc.base _, hc.base, by rw [show (w'.setCell ⟨g, ds.length, none⟩ v).heap.size = w'.heap.size from (Exc.setCell w' ⟨g, ds.length, none⟩ v).size]; exact hc.lt, ?_, ?_, ?_, ?_, fun i hi => ?_, fun i => by rw [World.frozen?_setCell]; exact hc.free i⟩
  · exact OwL.snoc ds g 0 F (OwL.setCell ds g 0 F hc.own hc.out _ _ (by omega)) (by rw [Nat.zero_add]; exact World.cell?_setCell_same w' _ _ hu) (by rw [World.frozen?_setCell]; exact hc.free _) (Ow.setCell ho hg' v)
  · intro e; rcases List.mem_append.1 e with e | e
    · exact hc.out e
    · exact hg' e
  · refine List.nodup_append.2 ⟨hc.nodup, hn, fun a ha b hb' e => ?_⟩
    subst e
    have h1 := OwL.lt ds g 0 F h.own a ha
    have h2 := hl a hb'
    omega
  · intro x hx; rcases List.mem_append.1 hx with hx | hx
    · exact hc.fresh x hx
    · have := hl x hx; have := h.below.size; omega
  · by_cases e : i = ds.length
    · subst e; exact ⟨v, World.cell?_setCell_same w' _ _ hu⟩
    · obtain ⟨u', hu'⟩ := hc.has i hi
      exact ⟨u', by rw [World.cell?_setCell_other _ _ _ _ (by intro e'; simp at e' <;> omega)]; exact hu'⟩
theorem Fil.start {E : Nat} {w w0 : World} {n c : Nat} {z : Value} (h : Bld E w0 w.heap.size (.slice (some ⟨w.heap.size, 0, none⟩) n c) (List.replicate n z)) (hb : Below w.heap.size w w0) (hz : w.heap.size < w0.heap.size) : Fil w w0 w.heap.size n [] [] :=
  ⟨hb, Nat.le_refl _, hz, rfl, by simp, by simp, by simp, fun i hi => ⟨z, h.cell (by simp [hi])⟩, fun i => h.free i⟩
theorem Fil.ret {w wr : World} {g n : Nat} {ds : List D} {F : List Nat} (h : Fil w wr g n ds F) (hn : ds.length = n) (hm : n ≤ maxLen) : RetD w (.l 1 ds) (.returned (.slice (some ⟨g, 0, none⟩) n n)) wr := by
  by_cases e : ds = []
  · subst e
    simp at hn; subst hn
    exact ⟨_, [], rfl, h.below, Ow_empty _ _ _ _, by simp, by simp⟩
  · refine ⟨_, g :: F, rfl, h.below, ⟨_, n, n, rfl, by omega, hm, .inr ⟨g, 0, F, rfl, ⟨e, Nat.le_refl _⟩, rfl, h.own⟩⟩, List.nodup_cons.2 ⟨h.out, h.nodup⟩, fun x hx => ?_⟩
    rcases List.mem_cons.1 hx with rfl | hx
    · exact h.base
    · exact h.fresh x hx
theorem take_succ_II {xss : List (List Int)} {k : Nat} (h : k < xss.length) : (xss.take k).map dI ++ [dI (nthR xss k)] = (xss.take (k + 1)).map dI := by
  rw [nthR_lt h, List.take_succ_eq_append_getElem h, List.map_append]; rfl
theorem SlII.any {S : Nat → Prop} {w : World} {a : Option Addr} {xs : List (List Int)} (h : SlII S w a xs) : SlII Any w a xs := ⟨h.len, fun h0 => ⟨trivial, (h.ptr h0).2⟩, fun i hi => by obtain ⟨a', c', h1, h2⟩ := h.cell i hi; exact ⟨a', c', h1, h2.any⟩⟩
theorem Ow.valII {w : World} {xs : List (List Int)} {v : Value} {F : List Nat} (h : Ow w (dII xs) v F) : ∃ a c, v = .slice a xs.length c := by
  obtain ⟨a, c, e, _⟩ := Rd_II.1 (Ow.rd _ _ _ h); exact ⟨a, c, e⟩
theorem Ow.argII {w : World} {xs : List (List Int)} {a : Option Addr} {n c : Nat} {F : List Nat} (h : Ow w (dII xs) (.slice a n c) F) : SlII Any w a xs := by
  obtain ⟨a', c', e, h'⟩ := Rd_II.1 (Ow.rd _ _ _ h); cases e; exact h'.any
/-- The law's measure of an argument: what is left of left; if that isn't below 0, P. -/
def RetSz (w : World) (left : Int) (p : Prop) (e : Ending) (w' : World) : Prop := ∃ L : Int, e = .returned (.int .i64 L) ∧ Below w.heap.size w w' ∧ -1 ≤ L ∧ L ≤ left ∧ (0 ≤ L → p)
def fitI (left : Int) (xs : List Int) : Prop := (xs.length : Int) ≤ left
def fitII (left : Int) (xs : List (List Int)) : Prop := (xs.length : Int) ≤ left ∧ ∀ j, j < xs.length → ((nthR xs j).length : Int) ≤ left
/- The laws' functions on struct values whose fields are numbers and slices: measure, copy, compare. Written by structgen.py. -/
theorem fitI.mono {l m : Int} {xs : List Int} (h : fitI l xs) (hl : l ≤ m) : fitI m xs := by unfold fitI at *; omega
theorem fitII.mono {l m : Int} {xs : List (List Int)} (h : fitII l xs) (hl : l ≤ m) : fitII m xs := ⟨by have := h.1; omega, fun j hj => by have := h.2 j hj; omega⟩
theorem fitI.to {xs : List Int} (h : fitI 1048576 xs) : xs.length ≤ 4294967296 := by unfold fitI at h; omega
theorem fitII.to {xs : List (List Int)} (h : fitII 1048576 xs) : xs.length ≤ 4294967296 ∧ ∀ j, j < xs.length → (nthR xs j).length ≤ 4294967296 := ⟨by have := h.1; omega, fun j hj => by have := h.2 j hj; omega⟩
theorem Ow.box {w : World} {d : D} {v : Value} {F : List Nat} {B : Nat} (h : Ow w d v F) (hF : ∀ g, g ∈ F → B < g) (i : Nat) (u : Value) : Ow (w.setCell ⟨B, i, none⟩ u) d v F :=
  Ow.setCell h (fun hg => Nat.lt_irrefl _ (hF _ hg)) u
/-- The values hold the data, one by one, in the blocks F. -/
def OwA (w : World) : List D → List Value → List Nat → Prop
  | [], [], F => F = []
  | d :: ds, v :: vs, F => ∃ F1 F2, Ow w d v F1 ∧ OwA w ds vs F2 ∧ F = F1 ++ F2
  | _, _, _ => False
/-- The call returns a struct whose fields' data lie in memory of their own. -/
def RetA (w : World) (ds : List D) (e : Ending) (w' : World) : Prop := ∃ vs F, e = .returned (.agg ⟨vs⟩) ∧ Below w.heap.size w w' ∧ OwA w' ds vs F ∧ F.Nodup ∧ ∀ g, g ∈ F → w.heap.size ≤ g
theorem nodup_next {F G : List Nat} (B : Nat) (h1 : F.Nodup) (h2 : G.Nodup) (hF : ∀ g, g ∈ F → g < B) (hG : ∀ g, g ∈ G → B ≤ g) : (F ++ G).Nodup :=
  List.nodup_append.2 ⟨h1, h2, fun a ha b hb e => by subst e; have := hF a ha; have := hG a hb; omega⟩
end Go.Proofs.YtbnikblhnibgiaaGreatDoor

/- Data of whatever shape: how much there is of them; their marks, cell by cell. No program is in sight. -/
namespace Go.Proofs.YtbnikblhnibgiaaGreatDoor
open Go.RowKit

mutual
/-- How many cells a datum's marks take. -/
def cnt : D → Nat
  | .i _ => 1
  | .b _ => 1
  | .s _ => 1
  | .l _ ds => cntL ds
def cntL : List D → Nat
  | [] => 0
  | d :: ds => cnt d + cntL ds
end
mutual
/-- The datum with its cells marked from m on. -/
def mkD : Int → D → D
  | m, .i _ => .i m
  | m, .b _ => .b (m % 3 == 0)
  | _, .s t => .s t
  | m, .l k ds => .l k (mkL m ds)
def mkL : Int → List D → List D
  | _, [] => []
  | m, d :: ds => mkD m d :: mkL (m + cnt d) ds
end
mutual
/-- How many cells a datum has behind its own. -/
def vol : D → Nat
  | .i _ => 0
  | .b _ => 0
  | .s _ => 0
  | .l _ ds => volL ds
def volL : List D → Nat
  | [] => 0
  | d :: ds => 1 + vol d + volL ds
end
mutual
theorem cnt_le : ∀ d : D, cnt d ≤ 1 + vol d
  | .i _ => by simp [cnt]
  | .b _ => by simp [cnt]
  | .s _ => by simp [cnt]
  | .l _ ds => by have := cntL_le ds; simp only [cnt, vol]; omega
theorem cntL_le : ∀ ds : List D, cntL ds ≤ volL ds
  | [] => by simp [cntL]
  | d :: ds => by have := cnt_le d; have := cntL_le ds; simp only [cntL, volL]; omega
end
theorem mkL_len : ∀ (ds : List D) (m : Int), (mkL m ds).length = ds.length
  | [], _ => rfl
  | d :: ds, m => by simp [mkL, mkL_len ds]
theorem cntL_app : ∀ (xs bs : List D), cntL (xs ++ bs) = cntL xs + cntL bs
  | [], _ => by simp [cntL]
  | a :: xs, bs => by simp only [List.cons_append, cntL, cntL_app xs bs]; omega
theorem volL_app : ∀ (xs bs : List D), volL (xs ++ bs) = volL xs + volL bs
  | [], _ => by simp [volL]
  | a :: xs, bs => by simp only [List.cons_append, volL, volL_app xs bs]; omega
theorem volL_len : ∀ ds : List D, ds.length ≤ volL ds
  | [] => by simp [volL]
  | d :: ds => by have := volL_len ds; simp only [List.length_cons, volL]; omega
theorem volL_at : ∀ (ds : List D) (q : Nat) (d : D), ds[q]? = some d → 1 + vol d ≤ volL ds
  | [], q, d, h => by simp at h
  | d0 :: ds, 0, d, h => by simp at h; subst h; simp only [volL]; omega
  | d0 :: ds, q + 1, d, h => by have := volL_at ds q d (by simpa using h); simp only [volL]; omega
theorem mkL_app : ∀ (xs bs : List D) (m : Int), mkL m (xs ++ bs) = mkL m xs ++ mkL (m + cntL xs) bs
  | [], bs, m => by simp [mkL, cntL]
  | a :: xs, bs, m => by
    simp only [List.cons_append, mkL, cntL, mkL_app xs bs]
    rw [show m + (cnt a : Int) + (cntL xs : Int) = m + ((cnt a + cntL xs : Nat) : Int) from by omega]
mutual
theorem cnt_mk : ∀ (d : D) (m : Int), cnt (mkD m d) = cnt d
  | .i _, _ => rfl
  | .b _, _ => rfl
  | .s _, _ => rfl
  | .l _ ds, m => by simp only [mkD, cnt, cntL_mk ds]
theorem cntL_mk : ∀ (ds : List D) (m : Int), cntL (mkL m ds) = cntL ds
  | [], _ => rfl
  | d :: ds, m => by simp only [mkL, cntL, cnt_mk d, cntL_mk ds]
end
theorem mkL_get : ∀ (ds : List D) (m : Int) (q : Nat) (d : D), ds[q]? = some d → (mkL m ds)[q]? = some (mkD (m + cntL (ds.take q)) d)
  | [], _, q, d, h => by simp at h
  | d0 :: ds, m, 0, d, h => by simp at h; subst h; simp [mkL, cntL]
  | d0 :: ds, m, q + 1, d, h => by
    simp only [mkL, List.getElem?_cons_succ, List.take_succ_cons, cntL]
    rw [mkL_get ds _ q d (by simpa using h)]
    congr 2; omega
theorem take_succ_get {ds : List D} {q : Nat} {d : D} (h : ds[q]? = some d) : ds.take (q + 1) = ds.take q ++ [d] := by
  obtain ⟨hq, e⟩ := List.getElem?_eq_some_iff.1 h
  rw [List.take_succ_eq_append_getElem hq, e]
theorem cntL_take {ds : List D} {q : Nat} {d : D} (h : ds[q]? = some d) : cntL (ds.take (q + 1)) = cntL (ds.take q) + cnt d := by
  rw [take_succ_get h, cntL_app]; simp [cntL]
theorem cntL_take_le (ds : List D) (q : Nat) : cntL (ds.take q) ≤ cntL ds := by
  have := cntL_app (ds.take q) (ds.drop q)
  rw [List.take_append_drop] at this; omega
theorem mk_ints (xs : List Int) (m : Int) : mkL m (xs.map .i) = (marks m xs.length).map .i := by
  apply List.ext_getElem?
  intro i
  have key : ∀ (ys : List Int) (m : Int), cntL (ys.map .i) = ys.length := by
    intro ys _
    induction ys with
    | nil => rfl
    | cons y ys ih => simp only [List.map_cons, cntL, ih, cnt, List.length_cons]; omega
  by_cases hi : i < xs.length
  · have h1 : (xs.map D.i)[i]? = some (.i xs[i]) := by simp [hi]
    rw [mkL_get _ m i _ h1]
    simp only [mkD, List.getElem?_map]
    rw [← List.map_take, key _ 0]
    simp [marks, hi]; omega
  · rw [List.getElem?_eq_none (by rw [mkL_len]; simp; omega), List.getElem?_eq_none (by simp [marks]; omega)]
theorem mk_dI (xs : List Int) (m : Int) : mkD m (dI xs) = dI (marks m xs.length) := by
  simp only [dI, mkD, mk_ints]
theorem cntL_ints (xs : List Int) : cntL (xs.map .i) = xs.length := by
  induction xs with
  | nil => rfl
  | cons y ys ih => simp only [List.map_cons, cntL, ih, cnt, List.length_cons]; omega
theorem cntL_bools (xs : List Bool) : cntL (xs.map .b) = xs.length := by
  induction xs with
  | nil => rfl
  | cons y ys ih => simp only [List.map_cons, cntL, ih, cnt, List.length_cons]; omega
theorem volL_ints (xs : List Int) : volL (xs.map .i) = xs.length := by
  induction xs with
  | nil => rfl
  | cons y ys ih => simp only [List.map_cons, volL, ih, vol, List.length_cons]; omega
theorem volL_bools (xs : List Bool) : volL (xs.map .b) = xs.length := by
  induction xs with
  | nil => rfl
  | cons y ys ih => simp only [List.map_cons, volL, ih, vol, List.length_cons]; omega
theorem cnt_dI (xs : List Int) : cnt (dI xs) = xs.length := cntL_ints xs
theorem cnt_dB (xs : List Bool) : cnt (dB xs) = xs.length := cntL_bools xs
theorem vol_dI (xs : List Int) : vol (dI xs) = xs.length := volL_ints xs
theorem vol_dB (xs : List Bool) : vol (dB xs) = xs.length := volL_bools xs

/-- The first q cells have been marked. -/
def part (m : Int) (ds : List D) (q : Nat) : List D := mkL m (ds.take q) ++ ds.drop q
theorem part_zero (m : Int) (ds : List D) : part m ds 0 = ds := by simp [part, mkL]
theorem part_full (m : Int) (ds : List D) : part m ds ds.length = mkL m ds := by simp [part]
theorem part_len (m : Int) (ds : List D) (q : Nat) (h : q ≤ ds.length) : (part m ds q).length = ds.length := by simp [part, mkL_len]; omega
theorem part_at {m : Int} {ds : List D} {q : Nat} {d : D} (h : ds[q]? = some d) : (part m ds q)[q]? = some d := by
  have hq := (List.getElem?_eq_some_iff.1 h).1
  unfold part
  rw [List.getElem?_append_right (by rw [mkL_len]; simp; omega), mkL_len, List.length_take, Nat.min_eq_left (by omega), Nat.sub_self, List.getElem?_drop, Nat.add_zero, h]
theorem part_succ {m : Int} {ds : List D} {q : Nat} {d : D} (h : ds[q]? = some d) : (part m ds q).set q (mkD (m + cntL (ds.take q)) d) = part m ds (q + 1) := by
  have hq := (List.getElem?_eq_some_iff.1 h).1
  have hl : (mkL m (ds.take q)).length = q := by rw [mkL_len]; simp; omega
  unfold part
  rw [take_succ_get h, mkL_app, List.append_assoc]
  rw [show (mkL m (ds.take q) ++ ds.drop q).set q (mkD (m + cntL (ds.take q)) d) = mkL m (ds.take q) ++ (ds.drop q).set 0 (mkD (m + cntL (ds.take q)) d) from by
    rw [List.set_append_right _ _ (by omega), hl, Nat.sub_self]]
  congr 1
  obtain ⟨_, e⟩ := List.getElem?_eq_some_iff.1 h
  rw [List.drop_eq_getElem_cons hq, e]
  simp [mkL]

/-- A cell of an owned row. -/
theorem OwL.at {w : World} : ∀ (ds : List D) (g o : Nat) (F : List Nat), OwL w ds g o F → g ∉ F → F.Nodup → ∀ (q : Nat) (d : D), ds[q]? = some d →
    ∃ v Fk, w.cell? ⟨g, o + q, none⟩ = some v ∧ w.frozen? ⟨g, o + q, none⟩ = false ∧ Ow w d v Fk ∧ Fk.Nodup ∧ (∀ x, x ∈ Fk → x ∈ F) ∧
      ∀ (w' : World) (d' : D), Exc Fk w w' → Ow w' d' v Fk → OwL w' (ds.set q d') g o F
  | [], _, _, _, _, _, _, q, d, h => by simp at h
  | d0 :: ds, g, o, F, r, hg, hn, q, d, h => by
    obtain ⟨v, F1, F2, hc, hf, hd, hr, hF⟩ := r
    subst hF
    have hn' := List.nodup_append.1 hn
    have hg1 : g ∉ F1 := fun e => hg (List.mem_append_left _ e)
    have hg2 : g ∉ F2 := fun e => hg (List.mem_append_right _ e)
    cases q with
    | zero =>
      simp at h; subst h
      refine ⟨v, F1, by simpa using hc, by simpa using hf, hd, hn'.1, fun x hx => List.mem_append_left _ hx, fun w' d' he ho => ?_⟩
      have hb := he.block g hg1
      refine ⟨v, F1, F2, by rw [World.cell?_of_block (w := w) hb]; exact hc, by rw [World.frozen?_of_block (w := w) hb]; exact hf, ho, ?_, rfl⟩
      exact OwL.stable ds g (o + 1) F2 hb (fun k hk => he.block k fun hk' => hn'.2.2 k hk' k hk rfl) hr
    | succ q =>
      obtain ⟨u, Fk, h1, h2, h3, h4, h5, h6⟩ := OwL.at ds g (o + 1) F2 hr hg2 hn'.2.1 q d (by simpa using h)
      rw [show o + 1 + q = o + (q + 1) from by omega] at h1 h2
      refine ⟨u, Fk, h1, h2, h3, h4, fun x hx => List.mem_append_right _ (h5 x hx), fun w' d' he ho => ?_⟩
      have hb := he.block g (fun e => hg2 (h5 g e))
      refine ⟨v, F1, F2, by rw [World.cell?_of_block (w := w) hb]; exact hc, by rw [World.frozen?_of_block (w := w) hb]; exact hf, ?_, h6 w' d' he ho, rfl⟩
      exact Ow.stable d0 v F1 (fun k hk => he.block k fun hk' => hn'.2.2 k hk k (h5 k hk') rfl) hd
theorem OwL.put {w : World} {u : Value} {d' : D} : ∀ (ds : List D) (g o : Nat) (F : List Nat), OwL w ds g o F → g ∉ F → ∀ (q : Nat) (d : D), ds[q]? = some d → (∀ w v F, Ow w d v F → F = []) → (∀ w, Ow w d' u []) →
    OwL (w.setCell ⟨g, o + q, none⟩ u) (ds.set q d') g o F
  | [], _, _, _, _, _, q, d, h, _, _ => by simp at h
  | d0 :: ds, g, o, F, r, hg, q, d, h, hs, hu => by
    obtain ⟨v, F1, F2, hc, hf, hd, hr, hF⟩ := r
    subst hF
    have hg1 : g ∉ F1 := fun e => hg (List.mem_append_left _ e)
    have hg2 : g ∉ F2 := fun e => hg (List.mem_append_right _ e)
    cases q with
    | zero =>
      simp at h; subst h
      have := hs _ _ _ hd
      subst this
      refine ⟨u, [], F2, by rw [Nat.add_zero]; exact World.cell?_setCell_same w _ _ hc, by rw [World.frozen?_setCell]; exact hf, hu _, ?_, rfl⟩
      have key : ∀ (ds : List D) (p : Nat) (F : List Nat), OwL w ds g p F → g ∉ F → o < p → OwL (w.setCell ⟨g, o + 0, none⟩ u) ds g p F := by
        intro ds
        induction ds with
        | nil => intro p F r _ _; exact r
        | cons d1 ds ih =>
          intro p F r hg hp
          obtain ⟨v, F1, F2, hc, hf, hd, hr, hF⟩ := r
          subst hF
          refine ⟨v, F1, F2, ?_, by rw [World.frozen?_setCell]; exact hf, Ow.setCell hd (fun e => hg (List.mem_append_left _ e)) u, ih (p + 1) F2 hr (fun e => hg (List.mem_append_right _ e)) (by omega), rfl⟩
          rw [World.cell?_setCell_other _ _ _ _ (by intro e; simp at e <;> omega)]; exact hc
      exact key ds (o + 1) F2 hr hg2 (by omega)
    | succ q =>
      have := OwL.put ds g (o + 1) F2 hr hg2 q d (by simpa using h) hs hu
      rw [show o + 1 + q = o + (q + 1) from by omega] at this
      refine ⟨v, F1, F2, ?_, by rw [World.frozen?_setCell]; exact hf, Ow.setCell hd hg1 u, this, rfl⟩
      rw [World.cell?_setCell_other _ _ _ _ (by intro e; simp at e)]; exact hc

/-- Behind q marks of a row. -/
structure Mks (w wr : World) (a : Option Addr) (ds : List D) (F G : List Nat) (m K : Int) (q : Nat) : Prop where
  num : K = m + cntL (ds.take q)
  foot : (ds = [] ∧ G = []) ∨ (ds ≠ [] ∧ G = blk a :: F)
  exc : Exc G w wr
  own : OwL wr (part m ds q) (blk a) (ofs a) F
  out : blk a ∉ F
  nodup : F.Nodup
theorem Mks.le {w wr : World} {a : Option Addr} {ds : List D} {F G : List Nat} {m K : Int} {q : Nat} (h : Mks w wr a ds F G m K q) : m ≤ K ∧ K ≤ m + cntL ds := by
  have := h.num; have := cntL_take_le ds q; omega
theorem Mks.has {w wr : World} {a : Option Addr} {ds : List D} {F G : List Nat} {m K : Int} {q : Nat} (h : Mks w wr a ds F G m K q) {q' : Nat} {d : D} (hd : ds[q']? = some d) : G = blk a :: F := by
  rcases h.foot with ⟨rfl, _⟩ | ⟨_, h⟩
  · simp at hd
  · exact h
/-- The cell that is marked next: a number or a bool. -/
theorem Mks.cell {w wr : World} {a : Option Addr} {ds : List D} {F G : List Nat} {m K : Int} {q : Nat} (h : Mks w wr a ds F G m K q) {d : D} (hd : ds[q]? = some d) : (∃ v, wr.cell? (adr a q) = some v) ∧ wr.frozen? (adr a q) = false := by
  obtain ⟨v, Fk, h1, h2, _⟩ := OwL.at _ _ _ _ h.own h.out h.nodup q d (part_at hd)
  exact ⟨⟨v, h1⟩, h2⟩
theorem part_from {m : Int} {ds : List D} {q q' : Nat} (hq : q ≤ q') {d : D} (h : ds[q']? = some d) : (part m ds q)[q']? = some d := by
  have hl := (List.getElem?_eq_some_iff.1 h).1
  unfold part
  rw [List.getElem?_append_right (by rw [mkL_len]; simp; omega), mkL_len, List.length_take, Nat.min_eq_left (by omega), List.getElem?_drop, show q + (q' - q) = q' from by omega, h]
/-- A cell that is marked later. -/
theorem Mks.celln {w wr : World} {a : Option Addr} {ds : List D} {F G : List Nat} {m K : Int} {q : Nat} (h : Mks w wr a ds F G m K q) {q' : Nat} (hq : q ≤ q') {d : D} (hd : ds[q']? = some d) : (∃ v, wr.cell? (adr a q') = some v) ∧ wr.frozen? (adr a q') = false := by
  obtain ⟨v, Fk, h1, h2, _⟩ := OwL.at _ _ _ _ h.own h.out h.nodup q' d (part_from hq hd)
  exact ⟨⟨v, h1⟩, h2⟩
theorem Mks.int {w wr : World} {a : Option Addr} {ds : List D} {F G : List Nat} {m K : Int} {q : Nat} (h : Mks w wr a ds F G m K q) {x : Int} (hd : ds[q]? = some (.i x)) : Mks w (wr.setCell (adr a q) (.int .i64 K)) a ds F G m (K + 1) (q + 1) := by
  refine ⟨by rw [cntL_take hd, h.num]; simp [cnt]; omega, h.foot, h.exc.trans ((Exc.setCell wr (adr a q) _).wider (by intro x hx; simp at hx; subst hx; rw [h.has hd]; simp [adr])), ?_, h.out, h.nodup⟩
  rw [← part_succ hd]
  have := OwL.put (u := .int .i64 K) (d' := .i K) _ _ _ _ h.own h.out q _ (part_at hd) (fun _ _ _ r => r.2) (fun _ => ⟨rfl, rfl⟩)
  rw [show mkD (m + cntL (ds.take q)) (.i x) = .i K from by rw [h.num]; rfl]
  exact this
theorem Mks.bool {w wr : World} {a : Option Addr} {ds : List D} {F G : List Nat} {m K : Int} {q : Nat} (h : Mks w wr a ds F G m K q) {x : Bool} (hd : ds[q]? = some (.b x)) : Mks w (wr.setCell (adr a q) (.bool (K % 3 == 0))) a ds F G m (K + 1) (q + 1) := by
  refine ⟨by rw [cntL_take hd, h.num]; simp [cnt]; omega, h.foot, h.exc.trans ((Exc.setCell wr (adr a q) _).wider (by intro x hx; simp at hx; subst hx; rw [h.has hd]; simp [adr])), ?_, h.out, h.nodup⟩
  rw [← part_succ hd]
  have := OwL.put (u := .bool (K % 3 == 0)) (d' := .b (K % 3 == 0)) _ _ _ _ h.own h.out q _ (part_at hd) (fun _ _ _ r => r.2) (fun _ => ⟨rfl, rfl⟩)
  rw [show mkD (m + cntL (ds.take q)) (.b x) = .b (K % 3 == 0) from by rw [h.num]; rfl]
  exact this
/-- The call has marked a datum from m on. -/
def RetMk (w : World) (F : List Nat) (m : Int) (d : D) (v : Value) (e : Ending) (w' : World) : Prop := e = .returned (.int .i64 (m + cnt d)) ∧ Exc F w w' ∧ Ow w' (mkD m d) v F
/-- The cell that is marked next: a list. -/
theorem Mks.list {w wr : World} {a : Option Addr} {ds : List D} {F G : List Nat} {m K : Int} {q : Nat} (h : Mks w wr a ds F G m K q) {d : D} (hd : ds[q]? = some d) :
    ∃ v Fk, wr.cell? (adr a q) = some v ∧ Ow wr d v Fk ∧ Fk.Nodup ∧ Hid (∀ w', Exc Fk wr w' → Ow w' (mkD K d) v Fk → Mks w w' a ds F G m (K + cnt d) (q + 1)) := by
  obtain ⟨v, Fk, h1, h2, h3, h4, h5, h6⟩ := OwL.at _ _ _ _ h.own h.out h.nodup q d (part_at hd)
  refine ⟨v, Fk, h1, h3, h4, Lib.hid fun w' he ho => ⟨by rw [cntL_take hd, h.num]; omega, h.foot, h.exc.trans (he.wider fun k hk => by rw [h.has hd]; exact List.mem_cons_of_mem _ (h5 k hk)), ?_, h.out, h.nodup⟩⟩
  rw [← part_succ hd]
  rw [h.num] at ho
  exact h6 w' _ he ho
theorem Ow.mks {w : World} {k n : Nat} {ds : List D} {v : Value} {F : List Nat} (h : Ow w (.l k ds) v F) (hnd : F.Nodup) (hn : ds.length = n * k) (hk : 0 < k) :
    ∃ a c F', v = .slice a n c ∧ n ≤ maxLen ∧ (0 < n → ∃ g o, a = some ⟨g, o, none⟩) ∧ n ≤ c ∧ ∀ m, Mks w w a ds F' F m m 0 := by
  obtain ⟨a, n', c, hv, hl, hm, hp⟩ := h
  have e : n' = n := Nat.eq_of_mul_eq_mul_right hk (hl.symm.trans hn)
  subst e
  rcases hp with ⟨rfl, rfl⟩ | ⟨g, o, F', rfl, ⟨hne, hcp⟩, rfl, hr⟩
  · have h0 : n' = 0 := by
      rcases Nat.mul_eq_zero.1 hl.symm with h | h
      · exact h
      · omega
    subst h0
    exact ⟨a, c, [], hv, hm, fun h => absurd h (by omega), by omega, fun m => ⟨by simp [cntL], .inl ⟨rfl, rfl⟩, Exc.refl _ _, rfl, by simp, by simp⟩⟩
  · obtain ⟨h1, h2⟩ := List.nodup_cons.1 hnd
    exact ⟨_, c, F', hv, hm, fun _ => ⟨g, o, rfl⟩, hcp, fun m => ⟨by simp [cntL], .inr ⟨hne, rfl⟩, Exc.refl _ _, by rw [part_zero]; exact hr, h1, h2⟩⟩
theorem Mks.done {w wr : World} {a : Option Addr} {k n c : Nat} {ds : List D} {F G : List Nat} {m K : Int} (h : Mks w wr a ds F G m K ds.length) (ha : 0 < n → ∃ g o, a = some ⟨g, o, none⟩) (hm : n ≤ maxLen) (hl : ds.length = n * k) (hcp : n ≤ c) :
    RetMk w G m (.l k ds) (.slice a n c) (.returned (.int .i64 K)) wr := by
  refine ⟨by rw [h.num, List.take_length]; rfl, h.exc, ?_⟩
  rcases h.foot with ⟨rfl, rfl⟩ | ⟨hne, rfl⟩
  · exact ⟨_, n, c, rfl, by simpa [mkL] using hl, hm, .inl ⟨rfl, rfl⟩⟩
  · have h0 : 0 < n := Nat.pos_of_ne_zero fun e => hne (List.eq_nil_of_length_eq_zero (by rw [hl, e, Nat.zero_mul]))
    obtain ⟨g, o, rfl⟩ := ha h0
    refine ⟨_, n, c, rfl, by rw [mkL_len]; exact hl, hm, .inr ⟨g, o, F, rfl, ⟨fun e => hne ?_, hcp⟩, rfl, ?_⟩⟩
    · have := congrArg List.length e
      rw [mkL_len] at this
      exact List.eq_nil_of_length_eq_zero this
    · have := h.own
      rw [part_full] at this
      exact this

/-- A list's cells, wherever the old memory is left alone. -/
theorem Rd.row {S : Nat → Prop} {w : World} {k n : Nat} {ds : List D} {v : Value} (h : Rd S w (.l k ds) v) (hn : ds.length = n * k) (hk : 0 < k) :
    ∃ a c, v = .slice a n c ∧ n ≤ maxLen ∧ (0 < n → ∃ g o, a = some ⟨g, o, none⟩) ∧ Hid (∀ wr, Below w.heap.size w wr → ∀ q d, ds[q]? = some d → ∃ u, wr.cell? (adr a q) = some u ∧ Rd S wr d u) := by
  have h' := h
  obtain ⟨a, n', c, rfl, hl, hm, hp, hr⟩ := h
  have e : n' = n := Nat.eq_of_mul_eq_mul_right hk (hl.symm.trans hn)
  subst e
  refine ⟨a, c, rfl, hm, fun h0 => ?_, Lib.hid fun wr hb q d hd => ?_⟩
  · rcases hp with hp | hp
    · subst hp
      have : 0 < n' * k := Nat.mul_pos h0 hk
      simp at hl; omega
    · exact hp.2
  · obtain ⟨a2, n2, c2, e2, _, _, _, hr2⟩ := h'.below hb
    cases e2
    exact RdL.get _ _ _ hr2 q d hd
theorem Rd.any {S : Nat → Prop} {w : World} {d : D} {v : Value} (h : Rd S w d v) : Rd Any w d v := Rd.wider (fun _ _ _ => trivial) d v h
theorem Ow.rdA {w : World} {d : D} {v : Value} {F : List Nat} (h : Ow w d v F) : Rd Any w d v := (Ow.rd d v F h).any
theorem Fit.rows {es : List Sh} {d : D} {k : Nat} (hk : es.length = k) (h : Fit (.l es) d) : ∃ ds, d = .l k ds ∧ ∃ n, ds.length = n * k ∧ Hid (∀ i, i < n → ∀ j e, es[j]? = some e → ∃ x, ds[i * k + j]? = some x ∧ Fit e x) := by
  subst hk
  obtain ⟨rows, rfl, hr⟩ := h
  have hlen : ∀ r, r ∈ rows → r.length = es.length := fun r h => FitL.len _ _ (hr r h)
  refine ⟨_, rfl, rows.length, flatten_len rows hlen, Lib.hid fun i hi j e he => ?_⟩
  have hj := (List.getElem?_eq_some_iff.1 he).1
  have hget : ∀ (es : List Sh) (ds : List D), FitL es ds → ∀ (j : Nat) (e : Sh), es[j]? = some e → ∃ x, ds[j]? = some x ∧ Fit e x := by
    intro es
    induction es with
    | nil => intro ds _ j e h; simp at h
    | cons e0 es ih =>
      intro ds h j e he
      obtain ⟨d, r, rfl, hd, hr⟩ := h
      cases j with
      | zero => simp at he; subst he; exact ⟨d, rfl, hd⟩
      | succ j => simpa using ih r hr j e (by simpa using he)
  obtain ⟨x, h1, h2⟩ := hget es rows[i] (hr _ (List.getElem_mem hi)) j e he
  refine ⟨x, ?_, h2⟩
  rw [flatten_get rows hlen i j hj, List.getElem?_eq_getElem hi]
  exact h1
theorem Fit.sliceR {es : List Sh} {d : D} {S : Nat → Prop} {w : World} {v : Value} (h : Fit (.l es) d) (r : Rd S w d v) : ∃ a n c, v = .slice a n c := by
  obtain ⟨rows, rfl, _⟩ := h
  obtain ⟨a, n, c, hv, _⟩ := r
  exact ⟨a, n, c, hv⟩
theorem Fit.sliceM {es : List Sh} {d : D} {S : Nat → Prop} {w : World} {v : Value} {m : Int} (h : Fit (.l es) d) (r : Rd S w (mkD m d) v) : ∃ a n c, v = .slice a n c := by
  obtain ⟨rows, rfl, _⟩ := h
  rw [mkD] at r
  obtain ⟨a, n, c, hv, _⟩ := r
  exact ⟨a, n, c, hv⟩
theorem Fit.sliceO {es : List Sh} {d : D} {w : World} {v : Value} {F : List Nat} (h : Fit (.l es) d) (r : Ow w d v F) : ∃ a n c, v = .slice a n c := by
  obtain ⟨rows, rfl, _⟩ := h
  obtain ⟨a, n, c, hv, _⟩ := r
  exact ⟨a, n, c, hv⟩
/-- How much the elements have, their own cells left out. -/
def svol (ds : List D) : Nat := volL ds - ds.length
theorem volL_svol (ds : List D) : volL ds = ds.length + svol ds := by have := volL_len ds; unfold svol; omega
theorem svol_take {ds : List D} {q : Nat} {d : D} (h : ds[q]? = some d) : svol (ds.take (q + 1)) = svol (ds.take q) + vol d := by
  have h1 := volL_svol (ds.take (q + 1))
  have h2 := volL_svol (ds.take q)
  rw [take_succ_get h, volL_app] at h1
  have h3 : volL [d] = 1 + vol d := by simp [volL]
  rw [take_succ_get h]
  simp only [List.length_append, List.length_cons, List.length_nil] at h1 ⊢
  omega
theorem svol_zero : ∀ ds : List D, (∀ (q : Nat) (d : D), ds[q]? = some d → vol d = 0) → svol ds = 0
  | [], _ => by simp [svol, volL]
  | d :: ds, h => by
    have h0 := h 0 d (by simp)
    have := svol_zero ds (fun q d hd => h (q + 1) d (by simpa using hd))
    have h1 := volL_svol ds
    have h2 := volL_svol (d :: ds)
    simp only [volL, List.length_cons] at h2
    omega
theorem cntL_at : ∀ (ds : List D) (q : Nat) (d : D), ds[q]? = some d → cnt d ≤ cntL ds
  | [], q, d, h => by simp at h
  | d0 :: ds, 0, d, h => by simp at h; subst h; simp only [cntL]; omega
  | d0 :: ds, q + 1, d, h => by have := cntL_at ds q d (by simpa using h); simp only [cntL]; omega
theorem owA_len {w : World} : ∀ (ds : List D) (vs : List Value) (F : List Nat), OwA w ds vs F → vs.length = ds.length
  | [], [], _, _ => rfl
  | _ :: ds, _ :: vs, _, h => by obtain ⟨F1, F2, _, h2, _⟩ := h; simp [owA_len ds vs F2 h2]
  | [], _ :: _, _, h => h.elim
  | _ :: _, [], _, h => h.elim
/-- What is left of left by the law's measure; if that isn't below 0, what there is is not much. -/
def RetSv (w : World) (left : Int) (V : Nat) (e : Ending) (w' : World) : Prop := ∃ L : Int, e = .returned (.int .i64 L) ∧ Below w.heap.size w w' ∧ -1 ≤ L ∧ L ≤ left ∧ (0 ≤ L → (V : Int) + 16 * L ≤ 16 * left)
theorem excell {F : List Nat} {w w' : World} (h : Exc F w w') {b : Nat} (hb : b ∉ F) (i : Nat) : w'.cell? ⟨b, i, none⟩ = w.cell? ⟨b, i, none⟩ := World.cell?_of_block (w := w) (h.block b hb)
theorem take_full {α : Type} {ds : List α} {q : Nat} (h : ds.length = q) : ds.take q = ds := by rw [← h, List.take_length]
/-- Only old blocks in F have changed. -/
structure Chg (F : List Nat) (w w' : World) : Prop where
  os : w'.os = w.os
  tape : w'.tape = w.tape
  output : w'.output = w.output
  size : w.heap.size ≤ w'.heap.size
  block : ∀ k, k < w.heap.size → k ∉ F → w'.heap[k]? = w.heap[k]?
theorem Exc.chg {F : List Nat} {w w' : World} (h : Exc F w w') : Chg F w w' := ⟨h.os, h.tape, h.output, Nat.le_of_eq h.size.symm, fun k _ hk => h.block k hk⟩
theorem Chg.trans {F : List Nat} {w w1 w2 : World} (h : Chg F w w1) (h2 : Chg F w1 w2) : Chg F w w2 :=
  ⟨h2.os.trans h.os, h2.tape.trans h.tape, h2.output.trans h.output, Nat.le_trans h.size h2.size, fun k hk hF => (h2.block k (Nat.lt_of_lt_of_le hk h.size) hF).trans (h.block k hk hF)⟩
theorem Chg.wider {F G : List Nat} {w w1 : World} (h : Chg F w w1) (hs : ∀ k, k ∈ F → k ∈ G) : Chg G w w1 := ⟨h.os, h.tape, h.output, h.size, fun k hk hG => h.block k hk fun h' => hG (hs k h')⟩
theorem Chg.ofBelow {F : List Nat} {w w1 : World} (h : Below w.heap.size w w1) : Chg F w w1 := ⟨h.os, h.tape, h.output, h.size, fun k hk _ => h.block k hk⟩
theorem Chg.below {F : List Nat} {w w' : World} {B : Nat} (h : Chg F w w') (hB : B ≤ w.heap.size) (hF : ∀ g, g ∈ F → B ≤ g) : Below B w w' :=
  ⟨h.os, h.tape, h.output, h.size, fun k hk => h.block k (Nat.lt_of_lt_of_le hk hB) fun hh => by have := hF k hh; omega⟩
theorem Chg.ow {F G : List Nat} {w w' : World} {d : D} {v : Value} (h : Chg F w w') (ho : Ow w d v G) (hd : ∀ g, g ∈ G → g ∉ F) : Ow w' d v G := Ow.stable d v G (fun k hk => h.block k (Ow.lt d v G ho k hk) (hd k hk)) ho
/-- The cells of a new row are stored one by one. -/
def setRow (w : World) (g q : Nat) : List Value → World
  | [] => w
  | v :: vs => setRow (w.setCell ⟨g, q, none⟩ v) g (q + 1) vs
theorem Fil.put {w wr : World} {g n : Nat} {ds : List D} {F : List Nat} {d : D} {v : Value} {F' : List Nat} (hc : Fil w wr g n ds F) (ho : Ow wr d v F') (hn : F'.Nodup) (hg' : g ∉ F') (hd : ∀ x, x ∈ F → x ∉ F') (hl : ∀ x, x ∈ F' → w.heap.size ≤ x) (hk : ds.length < n) :
    Fil w (wr.setCell ⟨g, ds.length, none⟩ v) g n (ds ++ [d]) (F ++ F') := by
  obtain ⟨u, hu⟩ := hc.has _ hk
  refine ⟨hc.below.setCell hc.base _, hc.base, by rw [show (wr.setCell ⟨g, ds.length, none⟩ v).heap.size = wr.heap.size from (Exc.setCell wr ⟨g, ds.length, none⟩ v).size]; exact hc.lt, ?_, ?_, ?_, ?_, fun i hi => ?_, fun i => by rw [World.frozen?_setCell]; exact hc.free i⟩
  · exact OwL.snoc ds g 0 F (OwL.setCell ds g 0 F hc.own hc.out _ _ (by omega)) (by rw [Nat.zero_add]; exact World.cell?_setCell_same wr _ _ hu) (by rw [World.frozen?_setCell]; exact hc.free _) (Ow.setCell ho hg' v)
  · intro e; rcases List.mem_append.1 e with e | e
    · exact hc.out e
    · exact hg' e
  · refine List.nodup_append.2 ⟨hc.nodup, hn, fun a ha b hb' e => ?_⟩
    subst e
    exact hd a ha hb'
  · intro x hx; rcases List.mem_append.1 hx with hx | hx
    · exact hc.fresh x hx
    · exact hl x hx
  · by_cases e : i = ds.length
    · subst e; exact ⟨v, World.cell?_setCell_same wr _ _ hu⟩
    · obtain ⟨u', hu'⟩ := hc.has i hi
      exact ⟨u', by rw [World.cell?_setCell_other _ _ _ _ (by intro e'; simp at e' <;> omega)]; exact hu'⟩
theorem OwA.setCell {w : World} {p : Addr} {u : Value} : ∀ (ds : List D) (vs : List Value) (F : List Nat), OwA w ds vs F → p.block ∉ F → OwA (w.setCell p u) ds vs F
  | [], [], _, h, _ => h
  | d :: ds, v :: vs, F, h, hp => by
    obtain ⟨F1, F2, h1, h2, rfl⟩ := h
    exact ⟨F1, F2, Ow.setCell h1 (fun e => hp (List.mem_append_left _ e)) u, OwA.setCell ds vs F2 h2 (fun e => hp (List.mem_append_right _ e)), rfl⟩
  | [], _ :: _, _, h, _ => h.elim
  | _ :: _, [], _, h, _ => h.elim
theorem Fil.rowAux {w : World} {g n : Nat} : ∀ (rs : List D) (vs : List Value) (wr : World) (ds : List D) (F F' : List Nat), Fil w wr g n ds F → OwA wr rs vs F' → F'.Nodup → g ∉ F' → (∀ x, x ∈ F → x ∉ F') → (∀ x, x ∈ F' → w.heap.size ≤ x) → ds.length + rs.length ≤ n →
    Fil w (setRow wr g ds.length vs) g n (ds ++ rs) (F ++ F')
  | [], [], wr, ds, F, F', h, ho, _, _, _, _, _ => by
    rw [show F' = [] from ho, List.append_nil, List.append_nil]; exact h
  | d :: rs, v :: vs, wr, ds, F, F', h, ho, hn, hg, hd, hl, hk => by
    obtain ⟨F1, F2, h1, h2, rfl⟩ := ho
    obtain ⟨n1, n2, n3⟩ := List.nodup_append.1 hn
    simp only [List.length_cons] at hk
    have hp := h.put h1 n1 (fun e => hg (List.mem_append_left _ e)) (fun x hx e => hd x hx (List.mem_append_left _ e)) (fun x hx => hl x (List.mem_append_left _ hx)) (by omega)
    have := Fil.rowAux rs vs _ (ds ++ [d]) (F ++ F1) F2 hp (OwA.setCell rs vs F2 h2 (fun e => hg (List.mem_append_right _ e))) n2 (fun e => hg (List.mem_append_right _ e)) (fun x hx e => by
      rcases List.mem_append.1 hx with hx | hx
      · exact hd x hx (List.mem_append_right _ e)
      · exact n3 x hx x e rfl) (fun x hx => hl x (List.mem_append_right _ hx)) (by simp; omega)
    rw [List.append_assoc, List.append_assoc, List.length_append] at this
    exact this
  | [], _ :: _, _, _, _, _, _, ho, _, _, _, _, _ => ho.elim
  | _ :: _, [], _, _, _, _, _, ho, _, _, _, _, _ => ho.elim
/-- One row more. -/
theorem Fil.row {w wr w' : World} {g n : Nat} {ds rs : List D} {vs : List Value} {F F' : List Nat} (h : Fil w wr g n ds F) (hb : Below wr.heap.size wr w') (ho : OwA w' rs vs F') (hn : F'.Nodup) (hl : ∀ x, x ∈ F' → wr.heap.size ≤ x) (hk : ds.length + rs.length ≤ n) :
    Fil w (setRow w' g ds.length vs) g n (ds ++ rs) (F ++ F') :=
  Fil.rowAux rs vs w' ds F F' (h.carry hb) ho hn (fun e => by have := hl g e; have := h.lt; omega) (fun x hx e => by have := OwL.lt ds g 0 F h.own x hx; have := hl x e; omega) (fun x hx => by have := hl x hx; have := h.below.size; omega) hk
theorem Fil.startRow {E k : Nat} {w w0 : World} {n c : Nat} {cs : List Value} (h : w0.ownsRow w.heap.size E k (.slice (some ⟨w.heap.size, 0, none⟩) n c) n cs) (hb : Below w.heap.size w w0) : Fil w w0 w.heap.size (n * k) [] [] := by
  refine ⟨hb, Nat.le_refl _, (h.lt _ rfl).2, rfl, by simp, by simp, by simp, fun i hi => ?_, fun i => ?_⟩
  · have hl := h.1
    have := World.ownsRow.cells (g := w.heap.size) h rfl i cs[i] (by simp [hl, hi])
    rw [Addr.add_lit, Nat.zero_add] at this
    exact ⟨_, this⟩
  · rcases h.2 with ⟨h1, _⟩ | ⟨g', cap, cur, h1, _, hg', _⟩
    · cases h1
    · cases h1; simp [World.frozen?, hg']
theorem Fil.retRow {w wr : World} {g n k : Nat} {ds : List D} {F : List Nat} (h : Fil w wr g (n * k) ds F) (hn : ds.length = n * k) (hm : n ≤ maxLen) : RetD w (.l k ds) (.returned (.slice (some ⟨g, 0, none⟩) n n)) wr := by
  by_cases e : ds = []
  · subst e
    exact ⟨_, [], rfl, h.below, ⟨_, n, n, rfl, hn, hm, .inl ⟨rfl, rfl⟩⟩, by simp, by simp⟩
  · refine ⟨_, g :: F, rfl, h.below, ⟨_, n, n, rfl, hn, hm, .inr ⟨g, 0, F, rfl, ⟨e, Nat.le_refl _⟩, rfl, h.own⟩⟩, List.nodup_cons.2 ⟨h.out, h.nodup⟩, fun x hx => ?_⟩
    rcases List.mem_cons.1 hx with rfl | hx
    · exact h.base
    · exact h.fresh x hx
/-- The rows of a list, cell by cell. -/
theorem row_get {τ : Type} (f : τ → List D) (k : Nat) (hk : ∀ x, (f x).length = k) : ∀ (xs : List τ) (i j : Nat) (x : τ), xs[i]? = some x → j < k → (xs.flatMap f)[i * k + j]? = (f x)[j]?
  | [], i, j, x, h, _ => by simp at h
  | x0 :: xs, 0, j, x, h, hj => by
    simp at h; subst h
    rw [List.flatMap_cons, List.getElem?_append_left (by rw [hk]; omega)]; simp
  | x0 :: xs, i + 1, j, x, h, hj => by
    rw [List.flatMap_cons, List.getElem?_append_right (by rw [hk]; rw [Nat.add_mul]; omega)]
    have := row_get f k hk xs i j x (by simpa using h) hj
    rw [show (i + 1) * k + j - (f x0).length = i * k + j from by rw [hk, Nat.add_mul]; omega, this]
theorem row_len {τ : Type} (f : τ → List D) (k : Nat) (hk : ∀ x, (f x).length = k) (xs : List τ) : (xs.flatMap f).length = xs.length * k := by
  induction xs with
  | nil => simp
  | cons x xs ih => rw [List.flatMap_cons, List.length_append, ih, hk, List.length_cons, Nat.add_mul]; omega
end Go.Proofs.YtbnikblhnibgiaaGreatDoor

/- Lists of bools: copied, compared, measured. -/
namespace Go.Proofs.YtbnikblhnibgiaaGreatDoor
open Go.RowKit

def nthB (xs : List Bool) (i : Nat) : Bool := xs.getD i false
theorem nthB_lt {xs : List Bool} {i : Nat} (h : i < xs.length) : nthB xs i = xs[i] := by simp [nthB, h]
/-- Cells of a list of bools. -/
structure SlB (S : Nat → Prop) (w : World) (a : Option Addr) (xs : List Bool) : Prop where
  len : xs.length ≤ maxLen
  ptr : 0 < xs.length → S (blk a) ∧ ∃ g o, a = some ⟨g, o, none⟩
  cell : ∀ i, i < xs.length → w.cell? (adr a i) = some (.bool (nthB xs i))
theorem Rd_B {S : Nat → Prop} {w : World} {xs : List Bool} {v : Value} : Rd S w (dB xs) v ↔ ∃ a c, v = .slice a xs.length c ∧ SlB S w a xs := by
  constructor
  · rintro ⟨a, m, c, hv, hl, hm, hp, hr⟩
    have hl' : xs.length = m := by simpa using hl
    subst hl'
    refine ⟨a, c, hv, hm, fun h0 => ?_, fun i hi => ?_⟩
    · rcases hp with hp | hp
      · simp at hp; subst hp; simp at h0
      · exact hp
    · obtain ⟨u, hc, hu⟩ := RdL.get _ _ _ hr i (.b (nthB xs i)) (by simp [nthB, hi])
      rw [show u = _ from hu] at hc; exact hc
  · rintro ⟨a, c, rfl, h⟩
    refine ⟨a, xs.length, c, rfl, by simp, h.len, ?_, ?_⟩
    · cases xs with
      | nil => exact .inl rfl
      | cons x xs => exact .inr (h.ptr (by simp))
    · refine RdL.mk _ _ _ fun i d hd => ?_
      simp only [List.getElem?_map, Option.map_eq_some_iff] at hd
      obtain ⟨x, hx, rfl⟩ := hd
      have hi := (List.getElem?_eq_some_iff.1 hx).1
      refine ⟨_, h.cell i hi, ?_⟩
      show Value.bool (nthB xs i) = .bool x
      simp [nthB, List.getD, hx]

theorem SlB.below {S : Nat → Prop} {w w' : World} {a : Option Addr} {xs : List Bool} (h : SlB S w a xs) (hb : Below w.heap.size w w') : SlB S w' a xs := by
  obtain ⟨a', c', e, h'⟩ := Rd_B.1 ((Rd_B.2 ⟨a, 0, rfl, h⟩).below hb)
  cases e; exact h'
theorem SlB.ix {P : Program} {T E : Nat} {S : Nat → Prop} {w : World} {a : Option Addr} {xs : List Bool} (h : SlB S w a xs) (hT : P.underlying T = some (.slice E)) (hE : (P.info? E).map (·.size) = some 1)
   (c : Nat) (i : Int) (w' : World) (h0 : 0 ≤ i) (h1 : i < xs.length) : (Instr.indexAt T (.slice a xs.length c) (.int .i64 i)).run P w' = .ok (.pointer (some (adr a i.toNat))) w' := by
  rw [ix_of hT hE (fun h0 => (h.ptr h0).2) c i w' h0 h1, Nat.mul_one]
theorem eq_of_nthB {xs ys : List Bool} (hl : xs.length = ys.length) (h : ∀ j, j < xs.length → nthB xs j = nthB ys j) : xs = ys := by
  refine List.ext_getElem hl fun i h1 h2 => ?_
  have := h i h1
  rwa [nthB_lt h1, nthB_lt h2] at this
def eqB (xs ys : List Bool) : Bool := decide (xs = ys)
theorem eqB_len {xs ys : List Bool} (h : ¬ xs.length = ys.length) : eqB xs ys = false := decide_eq_false fun e => h (by rw [e])
theorem eqB_false {xs ys : List Bool} {j : Nat} (h : ¬ nthB xs j = nthB ys j) : eqB xs ys = false := decide_eq_false fun e => h (by rw [e])
theorem eqB_true {xs ys : List Bool} (hl : xs.length = ys.length) (h : ∀ j, j < xs.length → nthB xs j = nthB ys j) : eqB xs ys = true := decide_eq_true (eq_of_nthB hl h)
def fitB (left : Int) (xs : List Bool) : Prop := (xs.length : Int) ≤ left
theorem fitB.mono {l m : Int} {xs : List Bool} (h : fitB l xs) (hl : l ≤ m) : fitB m xs := by unfold fitB at *; omega
theorem fitB.to {xs : List Bool} (h : fitB 1048576 xs) : xs.length ≤ 4294967296 := by unfold fitB at h; omega
theorem SlB.any {S : Nat → Prop} {w : World} {a : Option Addr} {xs : List Bool} (h : SlB S w a xs) : SlB Any w a xs := ⟨h.len, fun h0 => ⟨trivial, (h.ptr h0).2⟩, h.cell⟩
theorem Ow.valB {w : World} {xs : List Bool} {v : Value} {F : List Nat} (h : Ow w (dB xs) v F) : ∃ a c, v = .slice a xs.length c := by
  obtain ⟨a, c, e, _⟩ := Rd_B.1 (Ow.rd _ _ _ h); exact ⟨a, c, e⟩
theorem Ow.argB {w : World} {xs : List Bool} {a : Option Addr} {n c : Nat} {F : List Nat} (h : Ow w (dB xs) (.slice a n c) F) : SlB Any w a xs := by
  obtain ⟨a', c', e, h'⟩ := Rd_B.1 (Ow.rd _ _ _ h); cases e; exact h'.any
theorem take_succ_B {xs : List Bool} {k : Nat} (h : k < xs.length) : (xs.take k).map D.b ++ [.b (nthB xs k)] = (xs.take (k + 1)).map D.b := by
  rw [nthB_lt h, List.take_succ_eq_append_getElem h, List.map_append]; rfl
end Go.Proofs.YtbnikblhnibgiaaGreatDoor

/- The laws' functions on lists of numbers and of bools: by shape. Written by tygen.py. -/
namespace Go.Proofs.YtbnikblhnibgiaaGreatDoor
open Go.RowKit

theorem fitD_I {d : D} (h : Fit (.l [.i]) d) : ∃ xs, d = dI xs := by
  obtain ⟨rows, rfl, hr⟩ := h
  have key : ∀ rows : List (List D), (∀ r, r ∈ rows → FitL [.i] r) → ∃ xs : List Int, rows.flatten = xs.map .i := by
    intro rows
    induction rows with
    | nil => intro _; exact ⟨[], rfl⟩
    | cons r rows ih =>
      intro h
      obtain ⟨xs, e⟩ := ih (fun r hr => h r (by simp [hr]))
      obtain ⟨d0, r0, rfl, ⟨n0, rfl⟩, h4⟩ := h r (by simp)
      rw [show r0 = [] from h4]
      exact ⟨n0 :: xs, by simp [e]⟩
  obtain ⟨xs, e⟩ := key rows hr
  exact ⟨xs, by rw [e]; rfl⟩
theorem fitD_B {d : D} (h : Fit (.l [.b]) d) : ∃ xs, d = dB xs := by
  obtain ⟨rows, rfl, hr⟩ := h
  have key : ∀ rows : List (List D), (∀ r, r ∈ rows → FitL [.b] r) → ∃ xs : List Bool, rows.flatten = xs.map .b := by
    intro rows
    induction rows with
    | nil => intro _; exact ⟨[], rfl⟩
    | cons r rows ih =>
      intro h
      obtain ⟨xs, e⟩ := ih (fun r hr => h r (by simp [hr]))
      obtain ⟨d0, r0, rfl, ⟨n0, rfl⟩, h4⟩ := h r (by simp)
      rw [show r0 = [] from h4]
      exact ⟨n0 :: xs, by simp [e]⟩
  obtain ⟨xs, e⟩ := key rows hr
  exact ⟨xs, by rw [e]; rfl⟩
theorem fitD_II {d : D} (h : Fit (.l [.l [.i]]) d) : ∃ xs, d = dII xs := by
  obtain ⟨rows, rfl, hr⟩ := h
  have key : ∀ rows : List (List D), (∀ r, r ∈ rows → FitL [.l [.i]] r) → ∃ xs : List (List Int), rows.flatten = xs.map dI := by
    intro rows
    induction rows with
    | nil => intro _; exact ⟨[], rfl⟩
    | cons r rows ih =>
      intro h
      obtain ⟨xs, e⟩ := ih (fun r hr => h r (by simp [hr]))
      obtain ⟨d0, r0, rfl, h0, h4⟩ := h r (by simp)
      obtain ⟨n0, rfl⟩ := fitD_I h0
      rw [show r0 = [] from h4]
      exact ⟨n0 :: xs, by simp [e]⟩
  obtain ⟨xs, e⟩ := key rows hr
  exact ⟨xs, by rw [e]; rfl⟩
theorem fit_dI (xs : List Int) : Fit (.l [.i]) (dI xs) := by
  refine ⟨xs.map fun x => [.i x], ?_, fun r hr => ?_⟩
  · simp only [dI]; congr 1; induction xs with
    | nil => rfl
    | cons x xs ih => simp [ih]
  · obtain ⟨x, _, rfl⟩ := List.mem_map.1 hr
    exact ⟨_, _, rfl, ⟨x, rfl⟩, rfl⟩
theorem fit_dB (xs : List Bool) : Fit (.l [.b]) (dB xs) := by
  refine ⟨xs.map fun x => [.b x], ?_, fun r hr => ?_⟩
  · simp only [dB]; congr 1; induction xs with
    | nil => rfl
    | cons x xs ih => simp [ih]
  · obtain ⟨x, _, rfl⟩ := List.mem_map.1 hr
    exact ⟨_, _, rfl, ⟨x, rfl⟩, rfl⟩
theorem fit_dII (xs : List (List Int)) : Fit (.l [.l [.i]]) (dII xs) := by
  refine ⟨xs.map fun x => [dI x], ?_, fun r hr => ?_⟩
  · simp only [dII]; congr 1; induction xs with
    | nil => rfl
    | cons x xs ih => simp [ih]
  · obtain ⟨x, _, rfl⟩ := List.mem_map.1 hr
    exact ⟨_, _, rfl, fit_dI x, rfl⟩
end Go.Proofs.YtbnikblhnibgiaaGreatDoor

/- Arguments of any shape, opened. -/
namespace Go.Proofs.YtbnikblhnibgiaaGreatDoor
open Go.ChangeShapes Go.WideShapes Go.ChangeAt Go.RowKit

theorem cnt_le_vol {es : List Sh} {d : D} (h : Fit (.l es) d) : cnt d ≤ vol d := by
  obtain ⟨rows, rfl, _⟩ := h
  exact cntL_le _
/-- A parameter that is a struct. -/
theorem open_A {H : Type} {enc : TypeId × Value → H} {P : Program} {W : World} {T : TypeId} {fs : Array Field} (es : List Sh) (hT : P.underlying T = some (.struct fs)) (hS : shapeOf P 6 T = some es) {v : Value} {d : DataW H} {p : List MemPlace} {base : Nat}
    (hval : Value.okWide P W .any base T v) (h : DataW.Trod enc P W 0 (fun _ => true) true T v d p) : ∃ (vs : List Value) (ds : List D), v = .agg ⟨vs⟩ ∧ FitL es ds ∧ RdAll (· < W.heap.size) W ds vs := by
  obtain ⟨⟨cs⟩, rfl, _⟩ := okWide_struct hT hval
  obtain ⟨fuel, hf⟩ := h
  obtain ⟨ds, h1, h2⟩ := trod_rd 6 fuel T _ _ _ hS hf
  exact ⟨cs, ds, rfl, h1, by simpa only [Value.cells] using h2⟩
/-- A parameter that is a slice. -/
theorem open_L {H : Type} {enc : TypeId × Value → H} {P : Program} {W : World} {T E : TypeId} {es : List Sh} (hT : P.underlying T = some (.slice E)) (hS : shapeOf P 6 T = some [.l es]) {v : Value} {d : DataW H} {p : List MemPlace} {base : Nat}
    (hval : Value.okWide P W .any base T v) (h : DataW.Trod enc P W 0 (fun _ => true) true T v d p) : ∃ d : D, Fit (.l es) d ∧ Rd (· < W.heap.size) W d v := by
  obtain ⟨a, n, c, rfl⟩ := okWide_slice hT hval
  obtain ⟨fuel, hf⟩ := h
  obtain ⟨ds, h1, h2⟩ := trod_rd 6 fuel T _ _ _ hS hf
  obtain ⟨d0, r0, rfl, f0, h3⟩ := h1
  rw [show r0 = [] from h3] at h2
  obtain ⟨v0, vr0, e0, hv0, _⟩ := h2
  simp only [Value.cells] at e0
  refine ⟨d0, f0, ?_⟩
  have : v0 = .slice a n c := by
    have := congrArg (·[0]?) e0
    simpa using this.symm
  rw [← this]; exact hv0
/-- A parameter that is a text. -/
theorem open_S {H : Type} {enc : TypeId × Value → H} {P : Program} {W : World} {T : TypeId} (hT : P.underlying T = some .string) {v : Value} {d : DataW H} {p : List MemPlace} {base : Nat}
    (hval : Value.okWide P W .any base T v) (h : DataW.Trod enc P W 0 (fun _ => true) true T v d p) : ∃ s, v = .string s ∧ s.size ≤ maxLen := by
  obtain ⟨s, rfl⟩ := okWide_string hT hval
  obtain ⟨fuel, hf⟩ := h
  cases fuel with
  | zero => simp [DataW.trod] at hf
  | succ fuel =>
    obtain ⟨s', h1, _, h3⟩ := DataW.trod_string hT hf
    have : s = s' := by
      have := congrArg (·[0]?) h1
      simpa [Value.cells] using this
    subst this
    exact ⟨s, rfl, h3⟩
end Go.Proofs.YtbnikblhnibgiaaGreatDoor

/- Configs, as data. Written by rowtype.py. No program is in sight. -/
namespace Go.Proofs.YtbnikblhnibgiaaGreatDoor
open Go.RowKit

/-- A config. -/
structure Cfg where
  pc : Int
  regs : List Int
def Cfg.ds (r : Cfg) : List D := [.i r.pc, dI r.regs]
def zCfg : Cfg := ⟨0, []⟩
def nthCfg (rs : List Cfg) (i : Nat) : Cfg := rs.getD i zCfg
theorem nthCfg_lt {rs : List Cfg} {i : Nat} (h : i < rs.length) : nthCfg rs i = rs[i] := by simp [nthCfg, h]
theorem nthCfg_get {rs : List Cfg} {i : Nat} (h : i < rs.length) : rs[i]? = some (nthCfg rs i) := by simp [nthCfg, h]
def dCS (rs : List Cfg) : D := .l 2 (rs.flatMap Cfg.ds)
/-- The cells of a list of them. -/
structure SlCS (S : Nat → Prop) (w : World) (a : Option Addr) (rs : List Cfg) : Prop where
  len : rs.length ≤ maxLen
  ptr : 0 < rs.length → ∃ g o, a = some ⟨g, o, none⟩
  c0 : ∀ i, i < rs.length → w.cell? (adr a (i * 2)) = some (.int .i64 (nthCfg rs i).pc)
  c1 : ∀ i, i < rs.length → ∃ a' c', w.cell? (adr a (i * 2 + 1)) = some (.slice a' (nthCfg rs i).regs.length c') ∧ SlI S w a' (nthCfg rs i).regs
theorem dCS_len (rs : List Cfg) : (rs.flatMap Cfg.ds).length = rs.length * 2 := row_len Cfg.ds 2 (fun _ => rfl) rs
theorem Rd_CS {S : Nat → Prop} {w : World} {rs : List Cfg} {v : Value} (h : Rd S w (dCS rs) v) : ∃ a c, v = .slice a rs.length c ∧ SlCS S w a rs := by
  obtain ⟨a, c, rfl, hm, hp, HG⟩ := h.row (dCS_len rs) (by omega)
  have key : ∀ i j d, i < rs.length → j < 2 → (nthCfg rs i).ds[j]? = some d → ∃ u, w.cell? (adr a (i * 2 + j)) = some u ∧ Rd S w d u := fun i j d hi hj hd => HG.out w (Below.refl _ _) _ _ (by rw [row_get Cfg.ds 2 (fun _ => rfl) rs i j _ (nthCfg_get hi) hj]; exact hd)
  refine ⟨a, c, rfl, hm, hp, fun i hi => ?_, fun i hi => ?_⟩
  · obtain ⟨u, h1, h2⟩ := key i 0 _ hi (by omega) rfl
    rw [show u = _ from h2] at h1; exact h1
  · obtain ⟨u, h1, h2⟩ := key i 1 _ hi (by omega) rfl
    obtain ⟨a', c', rfl, h3⟩ := Rd_I.1 h2
    exact ⟨a', c', h1, h3⟩
theorem fitD_CS {d : D} (h : Fit (.l [.i, .l [.i]]) d) : ∃ rs, d = dCS rs := by
  obtain ⟨rows, rfl, hr⟩ := h
  have key : ∀ rows : List (List D), (∀ r, r ∈ rows → FitL [.i, .l [.i]] r) → ∃ rs : List Cfg, rows.flatten = rs.flatMap Cfg.ds := by
    intro rows
    induction rows with
    | nil => intro _; exact ⟨[], rfl⟩
    | cons r rows ih =>
      intro h
      obtain ⟨rs, e⟩ := ih (fun r hr => h r (by simp [hr]))
      obtain ⟨_, r0, e0, ⟨n0, rfl⟩, h0⟩ := h r (by simp)
      subst e0
      obtain ⟨_, r1, e1, f1, h1⟩ := h0
      subst e1
      obtain ⟨n1, rfl⟩ := fitD_I f1
      rw [show r1 = [] from h1]
      exact ⟨⟨n0, n1⟩ :: rs, by simp [e, Cfg.ds]⟩
  obtain ⟨rs, e⟩ := key rows hr
  exact ⟨rs, by rw [e]; rfl⟩
theorem fit_dCS (rs : List Cfg) : Fit (.l [.i, .l [.i]]) (dCS rs) := by
  refine ⟨rs.map Cfg.ds, ?_, fun r hr => ?_⟩
  · simp only [dCS]; congr 1
  · obtain ⟨x, _, rfl⟩ := List.mem_map.1 hr
    exact ⟨_, _, rfl, ⟨_, rfl⟩, ⟨_, _, rfl, fit_dI _, rfl⟩⟩
end Go.Proofs.YtbnikblhnibgiaaGreatDoor

/- The laws' functions on orders, programs and configs: by shape. Written by tygen.py. -/
namespace Go.Proofs.YtbnikblhnibgiaaGreatDoor
open Go.RowKit

theorem tabOrderSM : Tab Tryz.prog 24 66 (.agg #[.int .i64 0, .int .i64 0, .int .i64 0, .int .i64 0]) 4 32 := ⟨by kernel_rfl, by kernel_rfl⟩
theorem tabConfigSM : Tab Tryz.prog 41 35 (.agg #[.int .i64 0, .slice none 0 0]) 2 32 := ⟨by kernel_rfl, by kernel_rfl⟩
end Go.Proofs.YtbnikblhnibgiaaGreatDoor

/- A region that draws its order and whose calls leave the old memory alone, whatever they make: one walk in the order of the text. No program is in sight. -/
namespace Go.Proofs.YtbnikblhnibgiaaGreatDoor
open Go.RowKit

/-- The worlds in which the old memory is as it was. -/
def Wd (w : World) : Type := { w' : World // Below w.heap.size w w' }
instance (w : World) : Nonempty (Wd w) := ⟨⟨w, Below.refl _ _⟩⟩
def wat {w : World} (x : Wd w) : World := x.1
theorem wat_below {w : World} (x : Wd w) : Below w.heap.size w (wat x) := x.2
theorem wp_quiet_wd {P : Program} {id : Nat} {Q : Exit → Act → World → Prop} {a : Act} {w : World} {l : List Oper} (hm : P.follows .mixedOrders = true) (hB : Region.lexB .any l.toArray = true)
    (h : wpQuiet P l.toArray (fun w' => ∃ x : Wd w, w' = wat x) (fun a' => ∀ w', (∃ x : Wd w, w' = wat x) → Q .normal a' w') l a) : (Code.region id l.toArray true).wp P Q a w :=
  wp_region_quiet (C := fun w' => ∃ x : Wd w, w' = wat x) hm hB ⟨⟨{ w with drawn := w.drawn + 1 }, (Below.refl _ w).drew⟩, rfl⟩ (by simpa using h)
theorem wat_cell {w : World} {p : Addr} {v : Value} (h : w.cell? p = some v) : ∀ x : Wd w, (wat x).cell? p = some v := fun x => (x.2.cell (World.block_lt_of_cell? w _ h)).trans h
theorem wdV {P : Program} {f : FuncId} {args : Array Value} {w : World} {x : Wd w} {v : Value} (h : Calls P f args (wat x) (RetV (wat x) v)) : Calls P f args (wat x) fun e w'' => e = .returned v ∧ ∃ y : Wd w, w'' = wat y :=
  h.mono fun _ w'' ⟨he, hb⟩ => ⟨he, ⟨w'', bnext x.2 hb (Nat.le_refl _)⟩, rfl⟩
theorem callsP {P : Program} {f : FuncId} {args : Array Value} {w : World} {v : Value} (h : Calls P f args w (RetP w v)) : Calls P f args w (RetV w v) := h.mono fun _ _ h => h.v
theorem callsQ {P : Program} {f : FuncId} {args : Array Value} {w : World} {v : Value} (h : Calls P f args w (RetQ w v)) : Calls P f args w (RetV w v) := h.mono fun _ _ h => h.v
end Go.Proofs.YtbnikblhnibgiaaGreatDoor

/- Contracts of the exported functions on bags (first part). -/
namespace Go.Proofs.YtbnikblhnibgiaaGreatDoor
open Go.RowKit

/-- What becomes of a list that must be a bag. -/
def Told (w : World) (a : Option Addr) (xs : List Int) (c : Nat) (e : Ending) (w' : World) : Prop :=
  Below w.heap.size w w' ∧ ((isBagS xs = true ∧ e = .returned (.tuple #[.slice a xs.length c, .int .i64 0])) ∨ (isBagS xs = false ∧ ∃ a' c', e = .returned (.tuple #[.slice a' 0 c', .int .i64 3])))
theorem Told.dc {w0 w w' : World} {a : Option Addr} {xs : List Int} {c : Nat} {e : Ending} {F : List Nat} (h : Told w a xs c e w') (ho : Ow w (dI xs) (.slice a xs.length c) F) (hn : F.Nodup) (hF : ∀ g, g ∈ F → w0.heap.size ≤ g) (hb : Below w0.heap.size w0 w) :
    RetDC w0 (dI (toldS xs).1) (toldS xs).2 e w' := by
  obtain ⟨h1, ⟨h2, rfl⟩ | ⟨h2, a', c', rfl⟩⟩ := h
  · simp only [toldS, h2, if_true]
    exact ⟨_, F, rfl, bnext hb h1 (Nat.le_refl _), Ow.stable _ _ F (fun k hk => h1.block k (Ow.lt _ _ F ho k hk)) ho, hn, hF⟩
  · simp only [toldS, h2, Bool.false_eq_true, if_false]
    exact RetDC.none a' c' 3 (bnext hb h1 (Nat.le_refl _))
end Go.Proofs.YtbnikblhnibgiaaGreatDoor

/- Contracts of the exported functions on bags (third part): add, take, times. -/
namespace Go.Proofs.YtbnikblhnibgiaaGreatDoor
open Go.RowKit

/-- How often a list is in another one, over the first k places. -/
def timesTo (xs ys : List Int) : Nat → Int
  | 0 => 1000
  | k + 1 => if 0 < nth xs k then minI (timesTo xs ys k) (nth ys k / nth xs k) else timesTo xs ys k
def timesS (xs ys : List Int) : Int := timesTo xs ys xs.length
/-- Is there an object in the first k places? -/
def someTo (xs : List Int) (k : Nat) : Bool := (List.range k).any fun i => decide (0 < nth xs i)
/-- The reference's way. -/
def bestTo (xs ys : List Int) (k : Nat) : Int := if someTo xs k = true then timesTo xs ys k else -1
theorem someTo_succ (xs : List Int) (k : Nat) : someTo xs (k + 1) = (someTo xs k || decide (0 < nth xs k)) := by simp [someTo, List.range_succ]
theorem timesTo_bd {xs ys : List Int} (hy : ∀ j, j < xs.length → 0 ≤ nth ys j ∧ nth ys j ≤ 1000) : ∀ k, k ≤ xs.length → 0 ≤ timesTo xs ys k ∧ timesTo xs ys k ≤ 1000
  | 0, _ => by simp [timesTo]
  | k + 1, hk => by
    have ih := timesTo_bd hy k (by omega)
    have h1 := hy k (by omega)
    unfold timesTo
    split
    · rename_i h
      have h2 : 0 ≤ nth ys k / nth xs k := Int.ediv_nonneg h1.1 (by omega)
      unfold minI
      split <;> omega
    · exact ih
theorem div_bd {x y : Int} (hx : 0 < x) (hy : 0 ≤ y ∧ y ≤ 1000) : 0 ≤ y / x ∧ y / x ≤ 1000 :=
  ⟨Int.ediv_nonneg hy.1 (by omega), Int.le_trans (Int.ediv_le_self _ hy.1) hy.2⟩
theorem bestTo_skip {xs ys : List Int} {k : Nat} (h : ¬ 0 < nth xs k) : bestTo xs ys (k + 1) = bestTo xs ys k := by
  unfold bestTo
  rw [someTo_succ, show timesTo xs ys (k + 1) = timesTo xs ys k from by rw [timesTo, if_neg h], show decide (0 < nth xs k) = false from by simpa using h, Bool.or_false]
theorem bestTo_first {xs ys : List Int} {k : Nat} (hy : ∀ j, j < xs.length → 0 ≤ nth ys j ∧ nth ys j ≤ 1000) (hk : k < xs.length) (h : 0 < nth xs k) (hs : someTo xs k = false) : bestTo xs ys (k + 1) = nth ys k / nth xs k := by
  have h1000 : ∀ j, someTo xs j = false → timesTo xs ys j = 1000 := by
    intro j
    induction j with
    | zero => intro _; rfl
    | succ j ih =>
      intro hj
      rw [someTo_succ, Bool.or_eq_false_iff] at hj
      unfold timesTo
      rw [if_neg (by simpa using hj.2)]
      exact ih hj.1
  have hd := div_bd h (hy k hk)
  unfold bestTo timesTo
  rw [someTo_succ, h1000 k hs, if_pos h, show decide (0 < nth xs k) = true from by simpa using h, Bool.or_true, if_pos rfl]
  unfold minI
  split <;> omega
theorem bestTo_more {xs ys : List Int} {k : Nat} (h : 0 < nth xs k) (hs : someTo xs k = true) : bestTo xs ys (k + 1) = if nth ys k / nth xs k < bestTo xs ys k then nth ys k / nth xs k else bestTo xs ys k := by
  unfold bestTo
  rw [someTo_succ, hs]
  simp only [Bool.true_or, if_true]
  rw [timesTo, if_pos h, minI]
  split <;> split <;> omega
theorem someTo_sum {xs : List Int} (h : isBagS xs = true) : (sumS xs == 0) = !someTo xs xs.length := by
  have key : ∀ k, k ≤ xs.length → (0 ≤ sumTo xs k ∧ sumTo xs k ≤ 1000 * k) ∧ ((sumTo xs k = 0) ↔ someTo xs k = false) := by
    intro k
    induction k with
    | zero => intro _; simp [sumTo, someTo]
    | succ k ih =>
      intro hk
      obtain ⟨⟨h1, h2⟩, h3⟩ := ih (by omega)
      have hb := isBagS_at h (k := k) (by omega)
      have hl := (isBagS_len h).2
      have e : sumTo xs (k + 1) = sumTo xs k + nth xs k := by
        rw [sumTo, wrap64]; omega
      rw [e, someTo_succ]
      refine ⟨⟨by omega, by push_cast; omega⟩, ?_⟩
      rw [Bool.or_eq_false_iff, ← h3]
      simp
      omega
  have := (key xs.length (Nat.le_refl _)).2
  unfold sumS
  cases hs : someTo xs xs.length
  · rw [hs] at this; simp [this.2 rfl]
  · rw [hs] at this
    have h0 : ¬ sumTo xs xs.length = 0 := fun e => by have := this.1 e; cases this
    simp [h0]
def timesInS (xs ys : List Int) : Int × Int := if twoS xs ys = 0 then (if sumS xs == 0 then (0, 4) else (timesS xs ys, 0)) else (0, twoS xs ys)
end Go.Proofs.YtbnikblhnibgiaaGreatDoor

/- Lists of rows under construction: each row's data lie in memory of their own. No program is in sight. -/
namespace Go.Proofs.YtbnikblhnibgiaaGreatDoor
open Go.RowKit

/-- 'append' onto a list of one's own: where the result lies. -/
theorem run_app {P : Program} (w : World) (base : Nat) (t ty e : TypeId) (i : TypeInfo) (z : Value) (size bytes : Nat) (ht : P.underlying t = some (.slice e)) (hi : P.info? e = some i) (hz : i.zero = some z)
    (hsize : i.size = size) (hby : i.bytes = bytes) (hzs : z.cells.size = size) (hsz : 0 < size)
    (v : Value) (n : Nat) (xs : List Value) (hown : w.ownsRow base e size v n xs)
    (a : Addr) (m c : Nat) (news : List Value) (hl : news.length = m * size) (hnews : ∀ j u, news[j]? = some u → w.cell? (a.add j) = some u) (h1 : ∀ u ∈ news, u.oneCell' = true)
    (h63 : n + m ≤ maxLen) (hbytes : (n + m) * bytes ≤ 140737488355328) (hbase : base ≤ w.heap.size) (hm : 0 < m) :
    ∃ v' w', (Builtin.append_ #[t, t] ty #[v, .slice (some a) m c]).run P w = .ok v' w' ∧ w'.ownsRow base e size v' (n + m) (xs ++ news) ∧ w.grownBy w' v.ownBlock ∧
      (∀ g, v'.ownBlock = some g → v.ownBlock = some g ∨ w.heap.size ≤ g) := by
  obtain ⟨v', w', hr, h2, h3, _⟩ := run_append_own (P := P) w base t ty e i z size bytes ht hi hz hsize hby hzs hsz v n xs hown a m c news hl hnews h1 h63 hbytes hbase
  refine ⟨v', w', hr, h2, h3, ?_⟩
  have hsmall : n + m ≤ 9223372036854775807 := by simp only [maxLen] at h63; omega
  subst hsize
  subst hby
  rcases hown.2 with ⟨rfl, rfl⟩ | ⟨g, cap, cur, rfl, hbg, hg, hnc, hcm, hcs, htake⟩
  · have hr2 := run_append_nil (P := P) w t ty e i z ht hi hz a m c news hl hnews hm (by omega) (by have hb := hbytes; simp only [Nat.zero_add] at hb; omega)
    rw [hr] at hr2
    injection hr2 with e1 e2
    subst e1
    intro g hg; right
    simp [Value.ownBlock] at hg; omega
  · by_cases hroom : n + m ≤ cap
    · have hfit : n * i.size + news.length ≤ cur.size := by rw [hl, hcs, ← Nat.add_mul]; exact Nat.mul_le_mul_right _ hroom
      have hr2 := run_append_room (P := P) w t ty e i ht hi g n cap cur hg a m c news hl hnews h1 hroom hfit
      rw [hr] at hr2
      injection hr2 with e1 e2
      subst e1
      intro g' hg'; left
      simpa [Value.ownBlock] using hg'
    · have holds : ∀ j u, xs[j]? = some u → w.cell? ((⟨g, 0, none⟩ : Addr).add j) = some u := hown.cells (g := g) rfl
      have hr2 := run_append_grow (P := P) w t ty e i z ht hi hz ⟨g, 0, none⟩ n cap xs hown.1 holds a m c news hl hnews (by omega) (by omega) (growslice_fits (by omega) hbytes)
      rw [hr] at hr2
      injection hr2 with e1 e2
      subst e1
      intro g' hg'; right
      simp [Value.ownBlock] at hg'; omega

/-- The block of a slice's array. -/
def ob (v : Value) : List Nat := match v.ownBlock with | some g => [g] | none => []
theorem mem_ob {v : Value} {g : Nat} : g ∈ ob v ↔ v.ownBlock = some g := by
  unfold ob
  cases h : v.ownBlock with
  | none => simp
  | some x => simp [eq_comm]
/-- v is a list of n rows (of k cells each) that is being built: its cells hold the data ds; all of it lies in the blocks G, from B on. -/
def Lst (E : TypeId) (k : Nat) (w : World) (B : Nat) (v : Value) (n : Nat) (ds : List D) (G : List Nat) : Prop :=
  ∃ vs F, w.ownsRow B E k v n vs ∧ OwA w ds vs F ∧ F.Nodup ∧ (∀ g, g ∈ F → B ≤ g) ∧ (∀ g, g ∈ ob v → g ∉ F) ∧ G = ob v ++ F
theorem OwA.lt {w : World} : ∀ (ds : List D) (vs : List Value) (F : List Nat), OwA w ds vs F → ∀ g, g ∈ F → g < w.heap.size
  | [], [], F, h, g, hg => by rw [show F = [] from h] at hg; cases hg
  | d :: ds, v :: vs, F, h, g, hg => by
    obtain ⟨F1, F2, h1, h2, rfl⟩ := h
    rcases List.mem_append.1 hg with hg | hg
    · exact Ow.lt d v F1 h1 g hg
    · exact OwA.lt ds vs F2 h2 g hg
  | [], _ :: _, _, h, _, _ => h.elim
  | _ :: _, [], _, h, _, _ => h.elim
theorem OwA.stable {w w' : World} : ∀ (ds : List D) (vs : List Value) (F : List Nat), Agree (· ∈ F) w w' → OwA w ds vs F → OwA w' ds vs F
  | [], [], _, _, h => h
  | d :: ds, v :: vs, F, ha, h => by
    obtain ⟨F1, F2, h1, h2, rfl⟩ := h
    exact ⟨F1, F2, Ow.stable d v F1 (fun k hk => ha k (by simp [hk])) h1, OwA.stable ds vs F2 (fun k hk => ha k (by simp [hk])) h2, rfl⟩
  | [], _ :: _, _, _, h => h.elim
  | _ :: _, [], _, _, h => h.elim
theorem OwA.app {w : World} : ∀ (ds : List D) (vs : List Value) (F : List Nat) (ds' : List D) (vs' : List Value) (F' : List Nat), OwA w ds vs F → OwA w ds' vs' F' → OwA w (ds ++ ds') (vs ++ vs') (F ++ F')
  | [], [], F, ds', vs', F', h, h' => by rw [show F = [] from h]; exact h'
  | d :: ds, v :: vs, F, ds', vs', F', h, h' => by
    obtain ⟨F1, F2, h1, h2, rfl⟩ := h
    exact ⟨F1, F2 ++ F', h1, OwA.app ds vs F2 ds' vs' F' h2 h', by simp⟩
  | [], _ :: _, _, _, _, _, h, _ => h.elim
  | _ :: _, [], _, _, _, _, h, _ => h.elim
theorem OwA.owL {w : World} {g : Nat} : ∀ (ds : List D) (vs : List Value) (F : List Nat) (o : Nat), OwA w ds vs F → (∀ j u, vs[j]? = some u → w.cell? ⟨g, o + j, none⟩ = some u ∧ w.frozen? ⟨g, o + j, none⟩ = false) → OwL w ds g o F
  | [], [], _, _, h, _ => h
  | d :: ds, v :: vs, F, o, h, hc => by
    obtain ⟨F1, F2, h1, h2, rfl⟩ := h
    have h0 := hc 0 v (by simp)
    refine ⟨v, F1, F2, by simpa using h0.1, by simpa using h0.2, h1, OwA.owL ds vs F2 (o + 1) h2 (fun j u hu => ?_), rfl⟩
    have := hc (j + 1) u (by simpa using hu)
    rwa [show o + (j + 1) = o + 1 + j from by omega] at this
  | [], _ :: _, _, _, h, _ => h.elim
  | _ :: _, [], _, _, h, _ => h.elim
theorem ownsRow_kept {w w' : World} {B : Nat} {E : TypeId} {k n : Nat} {v : Value} {vs : List Value} (h : w.ownsRow B E k v n vs) (hb : ∀ g, g ∈ ob v → w'.heap[g]? = w.heap[g]?) : w'.ownsRow B E k v n vs := by
  obtain ⟨h0, h2⟩ := h
  refine ⟨h0, ?_⟩
  rcases h2 with h2 | ⟨g, cap, cur, rfl, hB, hg, h3⟩
  · exact .inl h2
  · exact .inr ⟨g, cap, cur, rfl, hB, (hb g (mem_ob.2 rfl)).trans hg, h3⟩
theorem ob_lt {w : World} {B : Nat} {E : TypeId} {k n : Nat} {v : Value} {vs : List Value} (h : w.ownsRow B E k v n vs) : ∀ g, g ∈ ob v → B ≤ g ∧ g < w.heap.size := fun g hg => h.lt g (mem_ob.1 hg)
theorem Lst.lt {E : TypeId} {k : Nat} {w : World} {B : Nat} {v : Value} {n : Nat} {ds : List D} {G : List Nat} (h : Lst E k w B v n ds G) : ∀ g, g ∈ G → B ≤ g ∧ g < w.heap.size := by
  obtain ⟨vs, F, h1, h2, h3, h4, h5, rfl⟩ := h
  intro g hg
  rcases List.mem_append.1 hg with hg | hg
  · exact ob_lt h1 g hg
  · exact ⟨h4 g hg, OwA.lt ds vs F h2 g hg⟩
theorem Lst.keep {E : TypeId} {k : Nat} {w w' : World} {B : Nat} {v : Value} {n : Nat} {ds : List D} {G F' : List Nat} (h : Lst E k w B v n ds G) (hc : Chg F' w w') (hd : ∀ g, g ∈ G → g ∉ F') : Lst E k w' B v n ds G := by
  have hlt := h.lt
  obtain ⟨vs, F, h1, h2, h3, h4, h5, rfl⟩ := h
  exact ⟨vs, F, ownsRow_kept h1 (fun g hg => hc.block g (hlt g (by simp [hg])).2 (hd g (by simp [hg]))), OwA.stable ds vs F (fun g hg => hc.block g (hlt g (by simp [hg])).2 (hd g (by simp [hg]))) h2, h3, h4, h5, rfl⟩
theorem Lst.below {E : TypeId} {k : Nat} {w w' : World} {B : Nat} {v : Value} {n : Nat} {ds : List D} {G : List Nat} (h : Lst E k w B v n ds G) (hb : Below w.heap.size w w') : Lst E k w' B v n ds G :=
  h.keep (F' := []) (Chg.ofBelow hb) (by simp)
theorem Lst.val {E : TypeId} {k : Nat} {w : World} {B : Nat} {v : Value} {n : Nat} {ds : List D} {G : List Nat} (h : Lst E k w B v n ds G) : ds.length = n * k ∧ ∃ a c, v = .slice a n c := by
  obtain ⟨vs, F, h1, h2, _⟩ := h
  refine ⟨by rw [← owA_len ds vs F h2]; exact h1.1, ?_⟩
  rcases h1.2 with ⟨rfl, rfl⟩ | ⟨g, cap, cur, rfl, _⟩
  · exact ⟨none, 0, rfl⟩
  · exact ⟨_, cap, rfl⟩
theorem Lst.nil (E : TypeId) (k : Nat) (w : World) (B : Nat) : Lst E k w B (.slice none 0 0) 0 [] [] :=
  ⟨[], [], World.ownsRow_nil w B E k, rfl, by simp, by simp, by simp [ob, Value.ownBlock], by simp [ob, Value.ownBlock]⟩
theorem Lst.made (E : TypeId) (k : Nat) (w : World) (B : Nat) (hB : B ≤ w.heap.size) : Lst E k (w.alloc (.cells #[] E)) B (.slice (some ⟨w.heap.size, 0, none⟩) 0 0) 0 [] [w.heap.size] :=
  ⟨[], [], by have := World.ownsRow_made (size := k) (base := B) (e := E) w #[] 0 hB (by simp [maxLen]) (by simp); simpa using this, rfl, by simp, by simp, by simp, by simp [ob, Value.ownBlock]⟩
/-- What has been built is owned. -/
theorem Lst.ow {E : TypeId} {k : Nat} {w : World} {B : Nat} {v : Value} {n : Nat} {ds : List D} {G : List Nat} (h : Lst E k w B v n ds G) (_hk : 0 < k) (hm : n ≤ maxLen) : ∃ G', Ow w (.l k ds) v G' ∧ G'.Nodup ∧ (∀ g, g ∈ G' → g ∈ G) := by
  have hv := h.val
  obtain ⟨vs, F, h1, h2, h3, h4, h5, rfl⟩ := h
  obtain ⟨hl, a, c, rfl⟩ := hv
  by_cases e : ds = []
  · subst e
    exact ⟨[], ⟨a, n, c, rfl, hl, hm, .inl ⟨rfl, rfl⟩⟩, by simp, by simp⟩
  · have hcells := fun g => World.ownsRow.cells (g := g) h1
    rcases h1.2 with ⟨hv, rfl⟩ | ⟨g, cap, cur, hv, hB, hg, hcp, _⟩
    · rw [Nat.zero_mul] at hl
      exact absurd (List.eq_nil_of_length_eq_zero hl) e
    · cases hv
      refine ⟨g :: F, ⟨_, n, c, rfl, hl, hm, .inr ⟨g, 0, F, rfl, ⟨e, hcp⟩, rfl, OwA.owL ds vs F 0 h2 fun j u hu => ⟨?_, ?_⟩⟩⟩, List.nodup_cons.2 ⟨h5 g (mem_ob.2 rfl), h3⟩, fun x hx => ?_⟩
      · have := hcells g rfl j u hu
        rwa [Addr.add_lit] at this
      · simp [World.frozen?, hg]
      · rcases List.mem_cons.1 hx with rfl | hx
        · exact List.mem_append_left _ (mem_ob.2 rfl)
        · exact List.mem_append_right _ hx
theorem grown_chg {w w' : World} {v : Value} (h : w.grownBy w' v.ownBlock) : Chg (ob v) w w' :=
  ⟨h.os, h.tape, h.output, h.size, fun k hk hn => h.block k hk (fun e => hn (mem_ob.2 e.symm))⟩
/-- What the next row adds: rows rs in the blocks F2, in front of it the list. -/
structure LstNext (E : TypeId) (k : Nat) (w w' : World) (B : Nat) (v v' : Value) (n : Nat) (ds rs : List D) (G F2 G' : List Nat) : Prop where
  lst : Lst E k w' B v' (n + 1) (ds ++ rs) G'
  chg : Chg (ob v) w w'
  mem : ∀ g, g ∈ G' → g ∈ G ∨ g ∈ F2 ∨ w.heap.size ≤ g
theorem Lst.next {E : TypeId} {k : Nat} {w w' : World} {B : Nat} {v v' : Value} {n : Nat} {ds rs : List D} {vs news : List Value} {F F2 : List Nat} (_h1 : w.ownsRow B E k v n vs) (h2 : OwA w ds vs F) (h3 : F.Nodup) (h4 : ∀ g, g ∈ F → B ≤ g) (h5 : ∀ g, g ∈ ob v → g ∉ F)
    (g1 : OwA w rs news F2) (g2 : F2.Nodup) (g3 : ∀ g, g ∈ F2 → B ≤ g) (g4 : ∀ g, g ∈ F2 → g ∉ ob v ++ F) (o1 : w'.ownsRow B E k v' (n + 1) (vs ++ news)) (o2 : w.grownBy w' v.ownBlock) (o3 : ∀ g, v'.ownBlock = some g → v.ownBlock = some g ∨ w.heap.size ≤ g) :
    ∃ G', LstNext E k w w' B v v' n ds rs (ob v ++ F) F2 G' := by
  have hc := grown_chg o2
  have a1 : OwA w' ds vs F := OwA.stable ds vs F (fun g hg => hc.block g (OwA.lt ds vs F h2 g hg) (fun e => h5 g e hg)) h2
  have a2 : OwA w' rs news F2 := OwA.stable rs news F2 (fun g hg => hc.block g (OwA.lt rs news F2 g1 g hg) (fun e => g4 g hg (by simp [e]))) g1
  refine ⟨ob v' ++ (F ++ F2), ⟨vs ++ news, F ++ F2, o1, OwA.app _ _ _ _ _ _ a1 a2, List.nodup_append.2 ⟨h3, g2, fun a ha b hb e => g4 b hb (by subst e; simp [ha])⟩, fun g hg => ?_, fun g hg hg2 => ?_, rfl⟩, hc, fun g hg => ?_⟩
  · rcases List.mem_append.1 hg with hg | hg
    · exact h4 g hg
    · exact g3 g hg
  · rcases o3 g (mem_ob.1 hg) with hh | hh
    · rcases List.mem_append.1 hg2 with hg2 | hg2
      · exact h5 g (mem_ob.2 hh) hg2
      · exact g4 g hg2 (by simp [mem_ob.2 hh])
    · rcases List.mem_append.1 hg2 with hg2 | hg2
      · have := OwA.lt ds vs F h2 g hg2; omega
      · have := OwA.lt rs news F2 g1 g hg2; omega
  · rcases List.mem_append.1 hg with hg | hg
    · rcases o3 g (mem_ob.1 hg) with hh | hh
      · exact .inl (by simp [mem_ob.2 hh])
      · exact .inr (.inr hh)
    · rcases List.mem_append.1 hg with hg | hg
      · exact .inl (by simp [hg])
      · exact .inr (.inl hg)
/-- What a row that lies at g (in its own new block) takes. -/
structure RowAt (w : World) (g k : Nat) (B : Nat) (rs : List D) (news : List Value) (F2 G : List Nat) : Prop where
  own : OwA w rs news F2
  len : news.length = k
  nodup : F2.Nodup
  lo : ∀ x, x ∈ F2 → B ≤ x
  apart : ∀ x, x ∈ F2 → x ∉ G
  cells : ∀ j u, news[j]? = some u → w.cell? ⟨g, j, none⟩ = some u
  one : ∀ u ∈ news, u.oneCell' = true
theorem run_lst {P : Program} {w : World} {B : Nat} {T ty E : TypeId} {k bytes : Nat} {z : Value} (tab : Tab P T E z k bytes) (hzs : z.cells.size = k) (hk : 0 < k) (hby : bytes ≤ 1024)
    {v : Value} {n : Nat} {ds rs : List D} {G F2 : List Nat} {news : List Value} (h : Lst E k w B v n ds G) {g : Nat} (hr : RowAt w g k B rs news F2 G) (hlen : n < 4294967296) (hB : B ≤ w.heap.size) :
    ∃ v' w', (Builtin.append_ #[T, T] ty #[v, .slice (some ⟨g, 0, none⟩) 1 1]).run P w = .ok v' w' ∧ ∃ G', LstNext E k w w' B v v' n ds rs G F2 G' := by
  obtain ⟨vs, F, h1, h2, h3, h4, h5, rfl⟩ := h
  obtain ⟨i0, hi, hz0, hz1, hz2⟩ := info_parts tab.info
  obtain ⟨v', w', e, o1, o2, o3⟩ := run_app (P := P) w B T ty E i0 z k bytes tab.under hi hz0 hz1 hz2 hzs hk v n vs h1 ⟨g, 0, none⟩ 1 1 news (by rw [hr.len, Nat.one_mul]) (fun j u hu => by rw [Addr.add_lit, Nat.zero_add]; exact hr.cells j u hu) hr.one (by unfold maxLen; omega)
    (by have : (n + 1) * bytes ≤ 4294967296 * 1024 := Nat.mul_le_mul (by omega) hby
        omega) hB (by omega)
  exact ⟨v', w', e, Lst.next h1 h2 h3 h4 h5 hr.own hr.nodup hr.lo hr.apart o1 o2 o3⟩
/-- 'append(v, row)' in the order of the text. -/
theorem app_lst {P : Program} {ops : Array Oper} {rest : List Oper} {o : Oper} {ac : Act} {Q : Exit → Act → World → Prop} {w : World} (hgd : o.guard = none) (s x : Operand) (T : TypeId)
    (ho : o.op = .call { callee := .builtin .append, args := #[s, x], argTypes := #[T, T] }) {E k bytes : Nat} {z : Value} (tab : Tab P T E z k bytes) (hzs : z.cells.size = k) (hk : 0 < k) (hby : bytes ≤ 1024)
    (B : Nat) (v : Value) (n : Nat) (ds rs : List D) (G F2 : List Nat) (news : List Value) (hs : ac.eval s = v) (h : Lst E k w B v n ds G) (g : Nat) (hx : ac.eval x = .slice (some ⟨g, 0, none⟩) 1 1) (hr : RowAt w g k B rs news F2 G) (hlen : n < 4294967296) (hB : B ≤ w.heap.size)
    (K : ∀ v' w' G', LstNext E k w w' B v v' n ds rs G F2 G' → wpList P ops Q rest (ac.put o.dst v') w') : wpList P ops Q (o :: rest) ac w := by
  refine wpList_plain hgd fun _ hK => ?_
  obtain ⟨v', w', e, G', hn⟩ := run_lst (P := P) (ty := o.type) tab hzs hk hby h hr hlen hB
  unfold Oper.wp execOp
  simp only [ho, resolve, invoke, builtin, Sem.run_bind, Sem.run_pure, Result.andThen_ok, List.map_toArray, List.map_cons, List.map_nil, hs, hx, e]
  exact hK _ _ (K v' w' G' hn)
/-- The same at a step of a region that draws its order. -/
theorem step_lst {P : Program} {ops : Array Oper} {o : Oper} {ac : Act} {w : World} {K : Act → World → Prop} {Q : Exit → Act → World → Prop} {X : Prop} (hgd : o.guard = none) (s x : Operand) (T : TypeId)
    (ho : o.op = .call { callee := .builtin .append, args := #[s, x], argTypes := #[T, T] }) {E k bytes : Nat} {z : Value} (tab : Tab P T E z k bytes) (hzs : z.cells.size = k) (hk : 0 < k) (hby : bytes ≤ 1024)
    (B : Nat) (v : Value) (n : Nat) (ds rs : List D) (G F2 : List Nat) (news : List Value) (hs : ac.eval s = v) (h : Lst E k w B v n ds G) (g : Nat) (hx : ac.eval x = .slice (some ⟨g, 0, none⟩) 1 1) (hr : RowAt w g k B rs news F2 G) (hlen : n < 4294967296) (hB : B ≤ w.heap.size)
    (hK : ∀ v' w' G', LstNext E k w w' B v v' n ds rs G F2 G' → K (ac.put o.dst v') w') : if Region.wanted o (yielded ops ac.tmps) = true then Oper.wp P o ac w K Q else X := by
  have hw : Region.wanted o (yielded ops ac.tmps) = true := by simp [Region.wanted, hgd]
  rw [if_pos hw]
  obtain ⟨v', w', e, G', hn⟩ := run_lst (P := P) (ty := o.type) tab hzs hk hby h hr hlen hB
  unfold Oper.wp execOp
  simp only [ho, resolve, invoke, builtin, Sem.run_bind, Sem.run_pure, Result.andThen_ok, List.map_toArray, List.map_cons, List.map_nil, hs, hx, e]
  exact hK v' w' G' hn
theorem Chg.cell {F : List Nat} {w w' : World} (h : Chg F w w') {b : Nat} (hb : b < w.heap.size) (hF : b ∉ F) (i : Nat) : w'.cell? ⟨b, i, none⟩ = w.cell? ⟨b, i, none⟩ := World.cell?_of_block (w := w) (h.block b hb hF)
theorem Chg.frozen {F : List Nat} {w w' : World} (h : Chg F w w') {b : Nat} (hb : b < w.heap.size) (hF : b ∉ F) (i : Nat) : w'.frozen? ⟨b, i, none⟩ = w.frozen? ⟨b, i, none⟩ := World.frozen?_of_block (w := w) (h.block b hb hF)
theorem Chg.refl (F : List Nat) (w : World) : Chg F w w := ⟨rfl, rfl, rfl, Nat.le_refl _, fun _ _ _ => rfl⟩
end Go.Proofs.YtbnikblhnibgiaaGreatDoor
