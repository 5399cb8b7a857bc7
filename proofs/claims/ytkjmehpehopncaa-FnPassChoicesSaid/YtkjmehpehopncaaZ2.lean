/- A block that is filled element by element with data of their own; the laws' functions on lists of lists. -/
import Derived.Test.YtkjmehpehopncaaZ1
import Derived.Deep.DeepCutAuto
import Derived.Laws.EntriesVeiled
namespace Go.Proofs.Ytkjmehpehopncaa
open Go.RowKit

theorem OwL.setCell {w : World} : ∀ (ds : List D) (g o : Nat) (F : List Nat), OwL w ds g o F → g ∉ F → ∀ (i : Nat) (u : Value), o + ds.length ≤ i → OwL (w.setCell ⟨g, i, none⟩ u) ds g o F
  | [], _, _, _, r, _, _, _, _ => r
  | d :: ds, g, o, F, r, hg, i, u, hi => by
    obtain ⟨v, F1, F2, hc, hf, hd, hr, hF⟩ := r
    subst hF
    simp only [List.length_cons] at hi
    refine ⟨v, F1, F2, ?_, ?_, Ow.setCell hd (by intro h; exact hg (List.mem_append_left _ h)) u, OwL.setCell ds g (o + 1) F2 hr (fun h => hg (by simp [h])) i u (by omega), rfl⟩
    · rw [World.cell?_setCell_other _ _ _ _ (by intro e; simp at e <;> omega)]; exact hc
    · rw [World.frozen?_setCell]; exact hf
theorem OwL.snoc {w : World} {d : D} {v : Value} {F' : List Nat} : ∀ (ds : List D) (g o : Nat) (F : List Nat), OwL w ds g o F → w.cell? ⟨g, o + ds.length, none⟩ = some v → w.frozen? ⟨g, o + ds.length, none⟩ = false → Ow w d v F' → OwL w (ds ++ [d]) g o (F ++ F')
  | [], g, o, F, r, hc, hf, hd => by
    have r' : F = [] := r
    subst r'
    exact ⟨v, F', [], by simpa using hc, by simpa using hf, hd, rfl, by simp⟩
  | d0 :: ds, g, o, F, r, hc, hf, hd => by
    obtain ⟨v0, F1, F2, hc0, hf0, hd0, hr, hF⟩ := r
    subst hF
    refine ⟨v0, F1, F2 ++ F', hc0, hf0, hd0, OwL.snoc ds g (o + 1) F2 hr ?_ ?_ hd, by simp⟩
    · rw [show o + 1 + ds.length = o + (d0 :: ds).length from by simp; omega]; exact hc
    · rw [show o + 1 + ds.length = o + (d0 :: ds).length from by simp; omega]; exact hf
theorem OwL.below {w w' : World} {ds : List D} {g o : Nat} {F : List Nat} (h : OwL w ds g o F) (hb : Below w.heap.size w w') (hg : g < w.heap.size) : OwL w' ds g o F :=
  OwL.stable ds g o F (hb.block g hg) (fun k hk => hb.block k (OwL.lt ds g o F h k hk)) h
/-- Block g (made since w) holds the data ds in its first cells, each in memory of its own; n cells can be written. -/
structure Fil (w wr : World) (g n : Nat) (ds : List D) (F : List Nat) : Prop where
  below : Below w.heap.size w wr
  base : w.heap.size ≤ g
  lt : g < wr.heap.size
  own : OwL wr ds g 0 F
  out : g ∉ F
  nodup : F.Nodup
  fresh : ∀ x, x ∈ F → w.heap.size ≤ x
  has : ∀ i, i < n → ∃ v, wr.cell? ⟨g, i, none⟩ = some v
  free : ∀ i, wr.frozen? ⟨g, i, none⟩ = false
theorem Fil.carry {w wr w' : World} {g n : Nat} {ds : List D} {F : List Nat} (h : Fil w wr g n ds F) (hb : Below wr.heap.size wr w') : Fil w w' g n ds F := by
  have e : ∀ i, w'.cell? ⟨g, i, none⟩ = wr.cell? ⟨g, i, none⟩ := fun i => hb.cell (p := ⟨g, i, none⟩) h.lt
  exact ⟨bnext h.below hb (Nat.le_refl _), h.base, Nat.lt_of_lt_of_le h.lt hb.size, h.own.below hb h.lt, h.out, h.nodup, h.fresh, fun i hi => by rw [e]; exact h.has i hi, fun i => by rw [hb.frozen (p := ⟨g, i, none⟩) h.lt]; exact h.free i⟩
/-- One datum more. -/
theorem Fil.next {w wr w' : World} {g n : Nat} {ds : List D} {F : List Nat} {d : D} {v : Value} {F' : List Nat} (h : Fil w wr g n ds F) (hb : Below wr.heap.size wr w') (ho : Ow w' d v F') (hn : F'.Nodup) (hl : ∀ x, x ∈ F' → wr.heap.size ≤ x) (hk : ds.length < n) :
    Fil w (w'.setCell ⟨g, ds.length, none⟩ v) g n (ds ++ [d]) (F ++ F') := by
  have hc := h.carry hb
  have hg' : g ∉ F' := fun e => by have := hl g e; have := h.lt; omega
  obtain ⟨u, hu⟩ := hc.has _ hk
  refine ⟨hc.below.setCell hc.base _, hc.base, by rw [show (w'.setCell ⟨g, ds.length, none⟩ v).heap.size = w'.heap.size from (Exc.setCell w' ⟨g, ds.length, none⟩ v).size]; exact hc.lt, ?_, ?_, ?_, ?_, fun i hi => ?_, fun i => by rw [World.frozen?_setCell]; exact hc.free i⟩
  · exact OwL.snoc ds g 0 F (OwL.setCell ds g 0 F hc.own hc.out _ _ (by omega)) (by rw [Nat.zero_add]; exact World.cell?_setCell_same w' _ _ hu) (by rw [World.frozen?_setCell]; exact hc.free _) (Ow.setCell ho hg' v)
  · intro e; rcases List.mem_append.1 e with e | e
    · exact hc.out e
    · exact hg' e
  · refine List.nodup_append.2 ⟨hc.nodup, hn, fun a ha b hb' e => ?_⟩
    subst e
    have h1 := OwL.lt ds g 0 F h.own a ha
    have h2 := hl a hb'
    omega
  · intro x hx; rcases List.mem_append.1 hx with hx | hx
    · exact hc.fresh x hx
    · have := hl x hx; have := h.below.size; omega
  · by_cases e : i = ds.length
    · subst e; exact ⟨v, World.cell?_setCell_same w' _ _ hu⟩
    · obtain ⟨u', hu'⟩ := hc.has i hi
      exact ⟨u', by rw [World.cell?_setCell_other _ _ _ _ (by intro e'; simp at e' <;> omega)]; exact hu'⟩
theorem Fil.start {E : Nat} {w w0 : World} {n c : Nat} {z : Value} (h : Bld E w0 w.heap.size (.slice (some ⟨w.heap.size, 0, none⟩) n c) (List.replicate n z)) (hb : Below w.heap.size w w0) (hz : w.heap.size < w0.heap.size) : Fil w w0 w.heap.size n [] [] :=
  ⟨hb, Nat.le_refl _, hz, rfl, by simp, by simp, by simp, fun i hi => ⟨z, h.cell (by simp [hi])⟩, fun i => h.free i⟩
theorem Fil.ret {w wr : World} {g n : Nat} {ds : List D} {F : List Nat} (h : Fil w wr g n ds F) (hn : ds.length = n) (hm : n ≤ maxLen) : RetD w (.l 1 ds) (.returned (.slice (some ⟨g, 0, none⟩) n n)) wr := by
  by_cases e : ds = []
  · subst e
    simp at hn; subst hn
    exact ⟨_, [], rfl, h.below, Ow_empty _ _ _ _, by simp, by simp⟩
  · refine ⟨_, g :: F, rfl, h.below, ⟨_, n, n, rfl, by omega, hm, .inr ⟨g, 0, F, rfl, ⟨e, Nat.le_refl _⟩, rfl, h.own⟩⟩, List.nodup_cons.2 ⟨h.out, h.nodup⟩, fun x hx => ?_⟩
    rcases List.mem_cons.1 hx with rfl | hx
    · exact h.base
    · exact h.fresh x hx
theorem take_succ_II {xss : List (List Int)} {k : Nat} (h : k < xss.length) : (xss.take k).map dI ++ [dI (nthR xss k)] = (xss.take (k + 1)).map dI := by
  rw [nthR_lt h, List.take_succ_eq_append_getElem h, List.map_append]; rfl
theorem SlII.any {S : Nat → Prop} {w : World} {a : Option Addr} {xs : List (List Int)} (h : SlII S w a xs) : SlII Any w a xs := ⟨h.len, fun h0 => ⟨trivial, (h.ptr h0).2⟩, fun i hi => by obtain ⟨a', c', h1, h2⟩ := h.cell i hi; exact ⟨a', c', h1, h2.any⟩⟩
theorem Ow.valII {w : World} {xs : List (List Int)} {v : Value} {F : List Nat} (h : Ow w (dII xs) v F) : ∃ a c, v = .slice a xs.length c := by
  obtain ⟨a, c, e, _⟩ := Rd_II.1 (Ow.rd _ _ _ h); exact ⟨a, c, e⟩
theorem Ow.argII {w : World} {xs : List (List Int)} {a : Option Addr} {n c : Nat} {F : List Nat} (h : Ow w (dII xs) (.slice a n c) F) : SlII Any w a xs := by
  obtain ⟨a', c', e, h'⟩ := Rd_II.1 (Ow.rd _ _ _ h); cases e; exact h'.any
/-- The law's measure of an argument: what is left of left; if that isn't below 0, P. -/
def RetSz (w : World) (left : Int) (p : Prop) (e : Ending) (w' : World) : Prop := ∃ L : Int, e = .returned (.int .i64 L) ∧ Below w.heap.size w w' ∧ -1 ≤ L ∧ L ≤ left ∧ (0 ≤ L → p)
def fitI (left : Int) (xs : List Int) : Prop := (xs.length : Int) ≤ left
def fitII (left : Int) (xs : List (List Int)) : Prop := (xs.length : Int) ≤ left ∧ ∀ j, j < xs.length → ((nthR xs j).length : Int) ≤ left
/- The laws' functions on struct values whose fields are numbers and slices: measure, copy, compare. Written by structgen.py. -/
theorem fitI.mono {l m : Int} {xs : List Int} (h : fitI l xs) (hl : l ≤ m) : fitI m xs := by unfold fitI at *; omega
theorem fitII.mono {l m : Int} {xs : List (List Int)} (h : fitII l xs) (hl : l ≤ m) : fitII m xs := ⟨by have := h.1; omega, fun j hj => by have := h.2 j hj; omega⟩
theorem fitI.to {xs : List Int} (h : fitI 1048576 xs) : xs.length ≤ 4294967296 := by unfold fitI at h; omega
theorem fitII.to {xs : List (List Int)} (h : fitII 1048576 xs) : xs.length ≤ 4294967296 ∧ ∀ j, j < xs.length → (nthR xs j).length ≤ 4294967296 := ⟨by have := h.1; omega, fun j hj => by have := h.2 j hj; omega⟩
theorem Ow.box {w : World} {d : D} {v : Value} {F : List Nat} {B : Nat} (h : Ow w d v F) (hF : ∀ g, g ∈ F → B < g) (i : Nat) (u : Value) : Ow (w.setCell ⟨B, i, none⟩ u) d v F :=
  Ow.setCell h (fun hg => Nat.lt_irrefl _ (hF _ hg)) u
/-- The values hold the data, one by one, in the blocks F. -/
def OwA (w : World) : List D → List Value → List Nat → Prop
  | [], [], F => F = []
  | d :: ds, v :: vs, F => ∃ F1 F2, Ow w d v F1 ∧ OwA w ds vs F2 ∧ F = F1 ++ F2
  | _, _, _ => False
/-- The call returns a struct whose fields' data lie in memory of their own. -/
def RetA (w : World) (ds : List D) (e : Ending) (w' : World) : Prop := ∃ vs F, e = .returned (.agg ⟨vs⟩) ∧ Below w.heap.size w w' ∧ OwA w' ds vs F ∧ F.Nodup ∧ ∀ g, g ∈ F → w.heap.size ≤ g
theorem nodup_next {F G : List Nat} (B : Nat) (h1 : F.Nodup) (h2 : G.Nodup) (hF : ∀ g, g ∈ F → g < B) (hG : ∀ g, g ∈ G → B ≤ g) : (F ++ G).Nodup :=
  List.nodup_append.2 ⟨h1, h2, fun a ha b hb e => by subst e; have := hF a ha; have := hG a hb; omega⟩
end Go.Proofs.Ytkjmehpehopncaa

/- Data of whatever shape: how much there is of them; their marks, cell by cell. No program is in sight. -/
namespace Go.Proofs.Ytkjmehpehopncaa
open Go.RowKit

mutual
/-- How many cells a datum's marks take. -/
def cnt : D → Nat
  | .i _ => 1
  | .b _ => 1
  | .s _ => 1
  | .l _ ds => cntL ds
def cntL : List D → Nat
  | [] => 0
  | d :: ds => cnt d + cntL ds
end
mutual
/-- The datum with its cells marked from m on. -/
def mkD : Int → D → D
  | m, .i _ => .i m
  | m, .b _ => .b (m % 3 == 0)
  | _, .s t => .s t
  | m, .l k ds => .l k (mkL m ds)
def mkL : Int → List D → List D
  | _, [] => []
  | m, d :: ds => mkD m d :: mkL (m + cnt d) ds
end
mutual
/-- How many cells a datum has behind its own. -/
def vol : D → Nat
  | .i _ => 0
  | .b _ => 0
  | .s _ => 0
  | .l _ ds => volL ds
def volL : List D → Nat
  | [] => 0
  | d :: ds => 1 + vol d + volL ds
end
mutual
theorem cnt_le : ∀ d : D, cnt d ≤ 1 + vol d
  | .i _ => by simp [cnt]
  | .b _ => by simp [cnt]
  | .s _ => by simp [cnt]
  | .l _ ds => by have := cntL_le ds; simp only [cnt, vol]; omega
theorem cntL_le : ∀ ds : List D, cntL ds ≤ volL ds
  | [] => by simp [cntL]
  | d :: ds => by have := cnt_le d; have := cntL_le ds; simp only [cntL, volL]; omega
end
theorem mkL_len : ∀ (ds : List D) (m : Int), (mkL m ds).length = ds.length
  | [], _ => rfl
  | d :: ds, m => by simp [mkL, mkL_len ds]
theorem cntL_app : ∀ (xs bs : List D), cntL (xs ++ bs) = cntL xs + cntL bs
  | [], _ => by simp [cntL]
  | a :: xs, bs => by simp only [List.cons_append, cntL, cntL_app xs bs]; omega
theorem volL_app : ∀ (xs bs : List D), volL (xs ++ bs) = volL xs + volL bs
  | [], _ => by simp [volL]
  | a :: xs, bs => by simp only [List.cons_append, volL, volL_app xs bs]; omega
theorem volL_len : ∀ ds : List D, ds.length ≤ volL ds
  | [] => by simp [volL]
  | d :: ds => by have := volL_len ds; simp only [List.length_cons, volL]; omega
theorem volL_at : ∀ (ds : List D) (q : Nat) (d : D), ds[q]? = some d → 1 + vol d ≤ volL ds
  | [], q, d, h => by simp at h
  | d0 :: ds, 0, d, h => by simp at h; subst h; simp only [volL]; omega
  | d0 :: ds, q + 1, d, h => by have := volL_at ds q d (by simpa using h); simp only [volL]; omega
theorem mkL_app : ∀ (xs bs : List D) (m : Int), mkL m (xs ++ bs) = mkL m xs ++ mkL (m + cntL xs) bs
  | [], bs, m => by simp [mkL, cntL]
  | a :: xs, bs, m => by
    simp only [List.cons_append, mkL, cntL, mkL_app xs bs]
    rw [show m + (cnt a : Int) + (cntL xs : Int) = m + ((cnt a + cntL xs : Nat) : Int) from by omega]
mutual
theorem cnt_mk : ∀ (d : D) (m : Int), cnt (mkD m d) = cnt d
  | .i _, _ => rfl
  | .b _, _ => rfl
  | .s _, _ => rfl
  | .l _ ds, m => by simp only [mkD, cnt, cntL_mk ds]
theorem cntL_mk : ∀ (ds : List D) (m : Int), cntL (mkL m ds) = cntL ds
  | [], _ => rfl
  | d :: ds, m => by simp only [mkL, cntL, cnt_mk d, cntL_mk ds]
end
theorem mkL_get : ∀ (ds : List D) (m : Int) (q : Nat) (d : D), ds[q]? = some d → (mkL m ds)[q]? = some (mkD (m + cntL (ds.take q)) d)
  | [], _, q, d, h => by simp at h
  | d0 :: ds, m, 0, d, h => by simp at h; subst h; simp [mkL, cntL]
  | d0 :: ds, m, q + 1, d, h => by
    simp only [mkL, List.getElem?_cons_succ, List.take_succ_cons, cntL]
    rw [mkL_get ds _ q d (by simpa using h)]
    congr 2; omega
theorem take_succ_get {ds : List D} {q : Nat} {d : D} (h : ds[q]? = some d) : ds.take (q + 1) = ds.take q ++ [d] := by
  obtain ⟨hq, e⟩ := List.getElem?_eq_some_iff.1 h
  rw [List.take_succ_eq_append_getElem hq, e]
theorem cntL_take {ds : List D} {q : Nat} {d : D} (h : ds[q]? = some d) : cntL (ds.take (q + 1)) = cntL (ds.take q) + cnt d := by
  rw [take_succ_get h, cntL_app]; simp [cntL]
theorem cntL_take_le (ds : List D) (q : Nat) : cntL (ds.take q) ≤ cntL ds := by
  have := cntL_app (ds.take q) (ds.drop q)
  rw [List.take_append_drop] at this; omega
theorem mk_ints (xs : List Int) (m : Int) : mkL m (xs.map .i) = (marks m xs.length).map .i := by
  apply List.ext_getElem?
  intro i
  have key : ∀ (ys : List Int) (m : Int), cntL (ys.map .i) = ys.length := by
    intro ys _
    induction ys with
    | nil => rfl
    | cons y ys ih => simp only [List.map_cons, cntL, ih, cnt, List.length_cons]; omega
  by_cases hi : i < xs.length
  · have h1 : (xs.map D.i)[i]? = some (.i xs[i]) := by simp [hi]
    rw [mkL_get _ m i _ h1]
    simp only [mkD, List.getElem?_map]
    rw [← List.map_take, key _ 0]
    simp [marks, hi]; omega
  · rw [List.getElem?_eq_none (by rw [mkL_len]; simp; omega), List.getElem?_eq_none (by simp [marks]; omega)]
theorem mk_dI (xs : List Int) (m : Int) : mkD m (dI xs) = dI (marks m xs.length) := by
  simp only [dI, mkD, mk_ints]
theorem cntL_ints (xs : List Int) : cntL (xs.map .i) = xs.length := by
  induction xs with
  | nil => rfl
  | cons y ys ih => simp only [List.map_cons, cntL, ih, cnt, List.length_cons]; omega
theorem cntL_bools (xs : List Bool) : cntL (xs.map .b) = xs.length := by
  induction xs with
  | nil => rfl
  | cons y ys ih => simp only [List.map_cons, cntL, ih, cnt, List.length_cons]; omega
theorem volL_ints (xs : List Int) : volL (xs.map .i) = xs.length := by
  induction xs with
  | nil => rfl
  | cons y ys ih => simp only [List.map_cons, volL, ih, vol, List.length_cons]; omega
theorem volL_bools (xs : List Bool) : volL (xs.map .b) = xs.length := by
  induction xs with
  | nil => rfl
  | cons y ys ih => simp only [List.map_cons, volL, ih, vol, List.length_cons]; omega
theorem cnt_dI (xs : List Int) : cnt (dI xs) = xs.length := cntL_ints xs
theorem cnt_dB (xs : List Bool) : cnt (dB xs) = xs.length := cntL_bools xs
theorem vol_dI (xs : List Int) : vol (dI xs) = xs.length := volL_ints xs
theorem vol_dB (xs : List Bool) : vol (dB xs) = xs.length := volL_bools xs

/-- The first q cells have been marked. -/
def part (m : Int) (ds : List D) (q : Nat) : List D := mkL m (ds.take q) ++ ds.drop q
theorem part_zero (m : Int) (ds : List D) : part m ds 0 = ds := by simp [part, mkL]
theorem part_full (m : Int) (ds : List D) : part m ds ds.length = mkL m ds := by simp [part]
theorem part_len (m : Int) (ds : List D) (q : Nat) (h : q ≤ ds.length) : (part m ds q).length = ds.length := by simp [part, mkL_len]; omega
theorem part_at {m : Int} {ds : List D} {q : Nat} {d : D} (h : ds[q]? = some d) : (part m ds q)[q]? = some d := by
  have hq := (List.getElem?_eq_some_iff.1 h).1
  unfold part
  rw [List.getElem?_append_right (by rw [mkL_len]; simp; omega), mkL_len, List.length_take, Nat.min_eq_left (by omega), Nat.sub_self, List.getElem?_drop, Nat.add_zero, h]
theorem part_succ {m : Int} {ds : List D} {q : Nat} {d : D} (h : ds[q]? = some d) : (part m ds q).set q (mkD (m + cntL (ds.take q)) d) = part m ds (q + 1) := by
  have hq := (List.getElem?_eq_some_iff.1 h).1
  have hl : (mkL m (ds.take q)).length = q := by rw [mkL_len]; simp; omega
  unfold part
  rw [take_succ_get h, mkL_app, List.append_assoc]
  rw [show (mkL m (ds.take q) ++ ds.drop q).set q (mkD (m + cntL (ds.take q)) d) = mkL m (ds.take q) ++ (ds.drop q).set 0 (mkD (m + cntL (ds.take q)) d) from by
    rw [List.set_append_right _ _ (by omega), hl, Nat.sub_self]]
  congr 1
  obtain ⟨_, e⟩ := List.getElem?_eq_some_iff.1 h
  rw [List.drop_eq_getElem_cons hq, e]
  simp [mkL]

/-- A cell of an owned row. -/
theorem OwL.at {w : World} : ∀ (ds : List D) (g o : Nat) (F : List Nat), OwL w ds g o F → g ∉ F → F.Nodup → ∀ (q : Nat) (d : D), ds[q]? = some d →
    ∃ v Fk, w.cell? ⟨g, o + q, none⟩ = some v ∧ w.frozen? ⟨g, o + q, none⟩ = false ∧ Ow w d v Fk ∧ Fk.Nodup ∧ (∀ x, x ∈ Fk → x ∈ F) ∧
      ∀ (w' : World) (d' : D), Exc Fk w w' → Ow w' d' v Fk → OwL w' (ds.set q d') g o F
  | [], _, _, _, _, _, _, q, d, h => by simp at h
  | d0 :: ds, g, o, F, r, hg, hn, q, d, h => by
    obtain ⟨v, F1, F2, hc, hf, hd, hr, hF⟩ := r
    subst hF
    have hn' := List.nodup_append.1 hn
    have hg1 : g ∉ F1 := fun e => hg (List.mem_append_left _ e)
    have hg2 : g ∉ F2 := fun e => hg (List.mem_append_right _ e)
    cases q with
    | zero =>
      simp at h; subst h
      refine ⟨v, F1, by simpa using hc, by simpa using hf, hd, hn'.1, fun x hx => List.mem_append_left _ hx, fun w' d' he ho => ?_⟩
      have hb := he.block g hg1
      refine ⟨v, F1, F2, by rw [World.cell?_of_block (w := w) hb]; exact hc, by rw [World.frozen?_of_block (w := w) hb]; exact hf, ho, ?_, rfl⟩
      exact OwL.stable ds g (o + 1) F2 hb (fun k hk => he.block k fun hk' => hn'.2.2 k hk' k hk rfl) hr
    | succ q =>
      obtain ⟨u, Fk, h1, h2, h3, h4, h5, h6⟩ := OwL.at ds g (o + 1) F2 hr hg2 hn'.2.1 q d (by simpa using h)
      rw [show o + 1 + q = o + (q + 1) from by omega] at h1 h2
      refine ⟨u, Fk, h1, h2, h3, h4, fun x hx => List.mem_append_right _ (h5 x hx), fun w' d' he ho => ?_⟩
      have hb := he.block g (fun e => hg2 (h5 g e))
      refine ⟨v, F1, F2, by rw [World.cell?_of_block (w := w) hb]; exact hc, by rw [World.frozen?_of_block (w := w) hb]; exact hf, ?_, h6 w' d' he ho, rfl⟩
      exact Ow.stable d0 v F1 (fun k hk => he.block k fun hk' => hn'.2.2 k hk k (h5 k hk') rfl) hd
theorem OwL.put {w : World} {u : Value} {d' : D} : ∀ (ds : List D) (g o : Nat) (F : List Nat), OwL w ds g o F → g ∉ F → ∀ (q : Nat) (d : D), ds[q]? = some d → (∀ w v F, Ow w d v F → F = []) → (∀ w, Ow w d' u []) →
    OwL (w.setCell ⟨g, o + q, none⟩ u) (ds.set q d') g o F
  | [], _, _, _, _, _, q, d, h, _, _ => by simp at h
  | d0 :: ds, g, o, F, r, hg, q, d, h, hs, hu => by
    obtain ⟨v, F1, F2, hc, hf, hd, hr, hF⟩ := r
    subst hF
    have hg1 : g ∉ F1 := fun e => hg (List.mem_append_left _ e)
    have hg2 : g ∉ F2 := fun e => hg (List.mem_append_right _ e)
    cases q with
    | zero =>
      simp at h; subst h
      have := hs _ _ _ hd
      subst this
      refine ⟨u, [], F2, by rw [Nat.add_zero]; exact World.cell?_setCell_same w _ _ hc, by rw [World.frozen?_setCell]; exact hf, hu _, ?_, rfl⟩
      have key : ∀ (ds : List D) (p : Nat) (F : List Nat), OwL w ds g p F → g ∉ F → o < p → OwL (w.setCell ⟨g, o + 0, none⟩ u) ds g p F := by
        intro ds
        induction ds with
        | nil => intro p F r _ _; exact r
        | cons d1 ds ih =>
          intro p F r hg hp
          obtain ⟨v, F1, F2, hc, hf, hd, hr, hF⟩ := r
          subst hF
          refine ⟨v, F1, F2, ?_, by rw [World.frozen?_setCell]; exact hf, Ow.setCell hd (fun e => hg (List.mem_append_left _ e)) u, ih (p + 1) F2 hr (fun e => hg (List.mem_append_right _ e)) (by omega), rfl⟩
          rw [World.cell?_setCell_other _ _ _ _ (by intro e; simp at e <;> omega)]; exact hc
      exact key ds (o + 1) F2 hr hg2 (by omega)
    | succ q =>
      have := OwL.put ds g (o + 1) F2 hr hg2 q d (by simpa using h) hs hu
      rw [show o + 1 + q = o + (q + 1) from by omega] at this
      refine ⟨v, F1, F2, ?_, by rw [World.frozen?_setCell]; exact hf, Ow.setCell hd hg1 u, this, rfl⟩
      rw [World.cell?_setCell_other _ _ _ _ (by intro e; simp at e)]; exact hc

/-- Behind q marks of a row. -/
structure Mks (w wr : World) (a : Option Addr) (ds : List D) (F G : List Nat) (m K : Int) (q : Nat) : Prop where
  num : K = m + cntL (ds.take q)
  foot : (ds = [] ∧ G = []) ∨ (ds ≠ [] ∧ G = blk a :: F)
  exc : Exc G w wr
  own : OwL wr (part m ds q) (blk a) (ofs a) F
  out : blk a ∉ F
  nodup : F.Nodup
theorem Mks.le {w wr : World} {a : Option Addr} {ds : List D} {F G : List Nat} {m K : Int} {q : Nat} (h : Mks w wr a ds F G m K q) : m ≤ K ∧ K ≤ m + cntL ds := by
  have := h.num; have := cntL_take_le ds q; omega
theorem Mks.has {w wr : World} {a : Option Addr} {ds : List D} {F G : List Nat} {m K : Int} {q : Nat} (h : Mks w wr a ds F G m K q) {q' : Nat} {d : D} (hd : ds[q']? = some d) : G = blk a :: F := by
  rcases h.foot with ⟨rfl, _⟩ | ⟨_, h⟩
  · simp at hd
  · exact h
/-- The cell that is marked next: a number or a bool. -/
theorem Mks.cell {w wr : World} {a : Option Addr} {ds : List D} {F G : List Nat} {m K : Int} {q : Nat} (h : Mks w wr a ds F G m K q) {d : D} (hd : ds[q]? = some d) : (∃ v, wr.cell? (adr a q) = some v) ∧ wr.frozen? (adr a q) = false := by
  obtain ⟨v, Fk, h1, h2, _⟩ := OwL.at _ _ _ _ h.own h.out h.nodup q d (part_at hd)
  exact ⟨⟨v, h1⟩, h2⟩
theorem part_from {m : Int} {ds : List D} {q q' : Nat} (hq : q ≤ q') {d : D} (h : ds[q']? = some d) : (part m ds q)[q']? = some d := by
  have hl := (List.getElem?_eq_some_iff.1 h).1
  unfold part
  rw [List.getElem?_append_right (by rw [mkL_len]; simp; omega), mkL_len, List.length_take, Nat.min_eq_left (by omega), List.getElem?_drop, show q + (q' - q) = q' from by omega, h]
/-- A cell that is marked later. -/
theorem Mks.celln {w wr : World} {a : Option Addr} {ds : List D} {F G : List Nat} {m K : Int} {q : Nat} (h : Mks w wr a ds F G m K q) {q' : Nat} (hq : q ≤ q') {d : D} (hd : ds[q']? = some d) : (∃ v, wr.cell? (adr a q') = some v) ∧ wr.frozen? (adr a q') = false := by
  obtain ⟨v, Fk, h1, h2, _⟩ := OwL.at _ _ _ _ h.own h.out h.nodup q' d (part_from hq hd)
  exact ⟨⟨v, h1⟩, h2⟩
theorem Mks.int {w wr : World} {a : Option Addr} {ds : List D} {F G : List Nat} {m K : Int} {q : Nat} (h : Mks w wr a ds F G m K q) {x : Int} (hd : ds[q]? = some (.i x)) : Mks w (wr.setCell (adr a q) (.int .i64 K)) a ds F G m (K + 1) (q + 1) := by
  refine ⟨by rw [cntL_take hd, h.num]; simp [cnt]; omega, h.foot, h.exc.trans ((Exc.setCell wr (adr a q) _).wider (by intro x hx; simp at hx; subst hx; rw [h.has hd]; simp [adr])), ?_, h.out, h.nodup⟩
  rw [← part_succ hd]
  have := OwL.put (u := .int .i64 K) (d' := .i K) _ _ _ _ h.own h.out q _ (part_at hd) (fun _ _ _ r => r.2) (fun _ => ⟨rfl, rfl⟩)
  rw [show mkD (m + cntL (ds.take q)) (.i x) = .i K from by rw [h.num]; rfl]
  exact this
theorem Mks.bool {w wr : World} {a : Option Addr} {ds : List D} {F G : List Nat} {m K : Int} {q : Nat} (h : Mks w wr a ds F G m K q) {x : Bool} (hd : ds[q]? = some (.b x)) : Mks w (wr.setCell (adr a q) (.bool (K % 3 == 0))) a ds F G m (K + 1) (q + 1) := by
  refine ⟨by rw [cntL_take hd, h.num]; simp [cnt]; omega, h.foot, h.exc.trans ((Exc.setCell wr (adr a q) _).wider (by intro x hx; simp at hx; subst hx; rw [h.has hd]; simp [adr])), ?_, h.out, h.nodup⟩
  rw [← part_succ hd]
  have := OwL.put (u := .bool (K % 3 == 0)) (d' := .b (K % 3 == 0)) _ _ _ _ h.own h.out q _ (part_at hd) (fun _ _ _ r => r.2) (fun _ => ⟨rfl, rfl⟩)
  rw [show mkD (m + cntL (ds.take q)) (.b x) = .b (K % 3 == 0) from by rw [h.num]; rfl]
  exact this
/-- The call has marked a datum from m on. -/
def RetMk (w : World) (F : List Nat) (m : Int) (d : D) (v : Value) (e : Ending) (w' : World) : Prop := e = .returned (.int .i64 (m + cnt d)) ∧ Exc F w w' ∧ Ow w' (mkD m d) v F
/-- The cell that is marked next: a list. -/
theorem Mks.list {w wr : World} {a : Option Addr} {ds : List D} {F G : List Nat} {m K : Int} {q : Nat} (h : Mks w wr a ds F G m K q) {d : D} (hd : ds[q]? = some d) :
    ∃ v Fk, wr.cell? (adr a q) = some v ∧ Ow wr d v Fk ∧ Fk.Nodup ∧ Hid (∀ w', Exc Fk wr w' → Ow w' (mkD K d) v Fk → Mks w w' a ds F G m (K + cnt d) (q + 1)) := by
  obtain ⟨v, Fk, h1, h2, h3, h4, h5, h6⟩ := OwL.at _ _ _ _ h.own h.out h.nodup q d (part_at hd)
  refine ⟨v, Fk, h1, h3, h4, Lib.hid fun w' he ho => ⟨by rw [cntL_take hd, h.num]; omega, h.foot, h.exc.trans (he.wider fun k hk => by rw [h.has hd]; exact List.mem_cons_of_mem _ (h5 k hk)), ?_, h.out, h.nodup⟩⟩
  rw [← part_succ hd]
  rw [h.num] at ho
  exact h6 w' _ he ho
theorem Ow.mks {w : World} {k n : Nat} {ds : List D} {v : Value} {F : List Nat} (h : Ow w (.l k ds) v F) (hnd : F.Nodup) (hn : ds.length = n * k) (hk : 0 < k) :
    ∃ a c F', v = .slice a n c ∧ n ≤ maxLen ∧ (0 < n → ∃ g o, a = some ⟨g, o, none⟩) ∧ n ≤ c ∧ ∀ m, Mks w w a ds F' F m m 0 := by
  obtain ⟨a, n', c, hv, hl, hm, hp⟩ := h
  have e : n' = n := Nat.eq_of_mul_eq_mul_right hk (hl.symm.trans hn)
  subst e
  rcases hp with ⟨rfl, rfl⟩ | ⟨g, o, F', rfl, ⟨hne, hcp⟩, rfl, hr⟩
  · have h0 : n' = 0 := by
      rcases Nat.mul_eq_zero.1 hl.symm with h | h
      · exact h
      · omega
    subst h0
    exact ⟨a, c, [], hv, hm, fun h => absurd h (by omega), by omega, fun m => ⟨by simp [cntL], .inl ⟨rfl, rfl⟩, Exc.refl _ _, rfl, by simp, by simp⟩⟩
  · obtain ⟨h1, h2⟩ := List.nodup_cons.1 hnd
    exact ⟨_, c, F', hv, hm, fun _ => ⟨g, o, rfl⟩, hcp, fun m => ⟨by simp [cntL], .inr ⟨hne, rfl⟩, Exc.refl _ _, by rw [part_zero]; exact hr, h1, h2⟩⟩
theorem Mks.done {w wr : World} {a : Option Addr} {k n c : Nat} {ds : List D} {F G : List Nat} {m K : Int} (h : Mks w wr a ds F G m K ds.length) (ha : 0 < n → ∃ g o, a = some ⟨g, o, none⟩) (hm : n ≤ maxLen) (hl : ds.length = n * k) (hcp : n ≤ c) :
    RetMk w G m (.l k ds) (.slice a n c) (.returned (.int .i64 K)) wr := by
  refine ⟨by rw [h.num, List.take_length]; rfl, h.exc, ?_⟩
  rcases h.foot with ⟨rfl, rfl⟩ | ⟨hne, rfl⟩
  · exact ⟨_, n, c, rfl, by simpa [mkL] using hl, hm, .inl ⟨rfl, rfl⟩⟩
  · have h0 : 0 < n := Nat.pos_of_ne_zero fun e => hne (List.eq_nil_of_length_eq_zero (by rw [hl, e, Nat.zero_mul]))
    obtain ⟨g, o, rfl⟩ := ha h0
    refine ⟨_, n, c, rfl, by rw [mkL_len]; exact hl, hm, .inr ⟨g, o, F, rfl, ⟨fun e => hne ?_, hcp⟩, rfl, ?_⟩⟩
    · have := congrArg List.length e
      rw [mkL_len] at this
      exact List.eq_nil_of_length_eq_zero this
    · have := h.own
      rw [part_full] at this
      exact this

/-- A list's cells, wherever the old memory is left alone. -/
theorem Rd.row {S : Nat → Prop} {w : World} {k n : Nat} {ds : List D} {v : Value} (h : Rd S w (.l k ds) v) (hn : ds.length = n * k) (hk : 0 < k) :
    ∃ a c, v = .slice a n c ∧ n ≤ maxLen ∧ (0 < n → ∃ g o, a = some ⟨g, o, none⟩) ∧ Hid (∀ wr, Below w.heap.size w wr → ∀ q d, ds[q]? = some d → ∃ u, wr.cell? (adr a q) = some u ∧ Rd S wr d u) := by
  have h' := h
  obtain ⟨a, n', c, rfl, hl, hm, hp, hr⟩ := h
  have e : n' = n := Nat.eq_of_mul_eq_mul_right hk (hl.symm.trans hn)
  subst e
  refine ⟨a, c, rfl, hm, fun h0 => ?_, Lib.hid fun wr hb q d hd => ?_⟩
  · rcases hp with hp | hp
    · subst hp
      have : 0 < n' * k := Nat.mul_pos h0 hk
      simp at hl; omega
    · exact hp.2
  · obtain ⟨a2, n2, c2, e2, _, _, _, hr2⟩ := h'.below hb
    cases e2
    exact RdL.get _ _ _ hr2 q d hd
theorem Rd.any {S : Nat → Prop} {w : World} {d : D} {v : Value} (h : Rd S w d v) : Rd Any w d v := Rd.wider (fun _ _ _ => trivial) d v h
theorem Ow.rdA {w : World} {d : D} {v : Value} {F : List Nat} (h : Ow w d v F) : Rd Any w d v := (Ow.rd d v F h).any
theorem Fit.rows {es : List Sh} {d : D} {k : Nat} (hk : es.length = k) (h : Fit (.l es) d) : ∃ ds, d = .l k ds ∧ ∃ n, ds.length = n * k ∧ Hid (∀ i, i < n → ∀ j e, es[j]? = some e → ∃ x, ds[i * k + j]? = some x ∧ Fit e x) := by
  subst hk
  obtain ⟨rows, rfl, hr⟩ := h
  have hlen : ∀ r, r ∈ rows → r.length = es.length := fun r h => FitL.len _ _ (hr r h)
  refine ⟨_, rfl, rows.length, flatten_len rows hlen, Lib.hid fun i hi j e he => ?_⟩
  have hj := (List.getElem?_eq_some_iff.1 he).1
  have hget : ∀ (es : List Sh) (ds : List D), FitL es ds → ∀ (j : Nat) (e : Sh), es[j]? = some e → ∃ x, ds[j]? = some x ∧ Fit e x := by
    intro es
    induction es with
    | nil => intro ds _ j e h; simp at h
    | cons e0 es ih =>
      intro ds h j e he
      obtain ⟨d, r, rfl, hd, hr⟩ := h
      cases j with
      | zero => simp at he; subst he; exact ⟨d, rfl, hd⟩
      | succ j => simpa using ih r hr j e (by simpa using he)
  obtain ⟨x, h1, h2⟩ := hget es rows[i] (hr _ (List.getElem_mem hi)) j e he
  refine ⟨x, ?_, h2⟩
  rw [flatten_get rows hlen i j hj, List.getElem?_eq_getElem hi]
  exact h1
theorem Fit.sliceR {es : List Sh} {d : D} {S : Nat → Prop} {w : World} {v : Value} (h : Fit (.l es) d) (r : Rd S w d v) : ∃ a n c, v = .slice a n c := by
  obtain ⟨rows, rfl, _⟩ := h
  obtain ⟨a, n, c, hv, _⟩ := r
  exact ⟨a, n, c, hv⟩
theorem Fit.sliceM {es : List Sh} {d : D} {S : Nat → Prop} {w : World} {v : Value} {m : Int} (h : Fit (.l es) d) (r : Rd S w (mkD m d) v) : ∃ a n c, v = .slice a n c := by
  obtain ⟨rows, rfl, _⟩ := h
  rw [mkD] at r
  obtain ⟨a, n, c, hv, _⟩ := r
  exact ⟨a, n, c, hv⟩
theorem Fit.sliceO {es : List Sh} {d : D} {w : World} {v : Value} {F : List Nat} (h : Fit (.l es) d) (r : Ow w d v F) : ∃ a n c, v = .slice a n c := by
  obtain ⟨rows, rfl, _⟩ := h
  obtain ⟨a, n, c, hv, _⟩ := r
  exact ⟨a, n, c, hv⟩
/-- How much the elements have, their own cells left out. -/
def svol (ds : List D) : Nat := volL ds - ds.length
theorem volL_svol (ds : List D) : volL ds = ds.length + svol ds := by have := volL_len ds; unfold svol; omega
theorem svol_take {ds : List D} {q : Nat} {d : D} (h : ds[q]? = some d) : svol (ds.take (q + 1)) = svol (ds.take q) + vol d := by
  have h1 := volL_svol (ds.take (q + 1))
  have h2 := volL_svol (ds.take q)
  rw [take_succ_get h, volL_app] at h1
  have h3 : volL [d] = 1 + vol d := by simp [volL]
  rw [take_succ_get h]
  simp only [List.length_append, List.length_cons, List.length_nil] at h1 ⊢
  omega
theorem svol_zero : ∀ ds : List D, (∀ (q : Nat) (d : D), ds[q]? = some d → vol d = 0) → svol ds = 0
  | [], _ => by simp [svol, volL]
  | d :: ds, h => by
    have h0 := h 0 d (by simp)
    have := svol_zero ds (fun q d hd => h (q + 1) d (by simpa using hd))
    have h1 := volL_svol ds
    have h2 := volL_svol (d :: ds)
    simp only [volL, List.length_cons] at h2
    omega
theorem cntL_at : ∀ (ds : List D) (q : Nat) (d : D), ds[q]? = some d → cnt d ≤ cntL ds
  | [], q, d, h => by simp at h
  | d0 :: ds, 0, d, h => by simp at h; subst h; simp only [cntL]; omega
  | d0 :: ds, q + 1, d, h => by have := cntL_at ds q d (by simpa using h); simp only [cntL]; omega
theorem owA_len {w : World} : ∀ (ds : List D) (vs : List Value) (F : List Nat), OwA w ds vs F → vs.length = ds.length
  | [], [], _, _ => rfl
  | _ :: ds, _ :: vs, _, h => by obtain ⟨F1, F2, _, h2, _⟩ := h; simp [owA_len ds vs F2 h2]
  | [], _ :: _, _, h => h.elim
  | _ :: _, [], _, h => h.elim
/-- What is left of left by the law's measure; if that isn't below 0, what there is is not much. -/
def RetSv (w : World) (left : Int) (V : Nat) (e : Ending) (w' : World) : Prop := ∃ L : Int, e = .returned (.int .i64 L) ∧ Below w.heap.size w w' ∧ -1 ≤ L ∧ L ≤ left ∧ (0 ≤ L → (V : Int) + 16 * L ≤ 16 * left)
theorem excell {F : List Nat} {w w' : World} (h : Exc F w w') {b : Nat} (hb : b ∉ F) (i : Nat) : w'.cell? ⟨b, i, none⟩ = w.cell? ⟨b, i, none⟩ := World.cell?_of_block (w := w) (h.block b hb)
theorem take_full {α : Type} {ds : List α} {q : Nat} (h : ds.length = q) : ds.take q = ds := by rw [← h, List.take_length]
/-- Only old blocks in F have changed. -/
structure Chg (F : List Nat) (w w' : World) : Prop where
  os : w'.os = w.os
  tape : w'.tape = w.tape
  output : w'.output = w.output
  size : w.heap.size ≤ w'.heap.size
  block : ∀ k, k < w.heap.size → k ∉ F → w'.heap[k]? = w.heap[k]?
theorem Exc.chg {F : List Nat} {w w' : World} (h : Exc F w w') : Chg F w w' := ⟨h.os, h.tape, h.output, Nat.le_of_eq h.size.symm, fun k _ hk => h.block k hk⟩
theorem Chg.trans {F : List Nat} {w w1 w2 : World} (h : Chg F w w1) (h2 : Chg F w1 w2) : Chg F w w2 :=
  ⟨h2.os.trans h.os, h2.tape.trans h.tape, h2.output.trans h.output, Nat.le_trans h.size h2.size, fun k hk hF => (h2.block k (Nat.lt_of_lt_of_le hk h.size) hF).trans (h.block k hk hF)⟩
theorem Chg.wider {F G : List Nat} {w w1 : World} (h : Chg F w w1) (hs : ∀ k, k ∈ F → k ∈ G) : Chg G w w1 := ⟨h.os, h.tape, h.output, h.size, fun k hk hG => h.block k hk fun h' => hG (hs k h')⟩
theorem Chg.ofBelow {F : List Nat} {w w1 : World} (h : Below w.heap.size w w1) : Chg F w w1 := ⟨h.os, h.tape, h.output, h.size, fun k hk _ => h.block k hk⟩
theorem Chg.below {F : List Nat} {w w' : World} {B : Nat} (h : Chg F w w') (hB : B ≤ w.heap.size) (hF : ∀ g, g ∈ F → B ≤ g) : Below B w w' :=
  ⟨h.os, h.tape, h.output, h.size, fun k hk => h.block k (Nat.lt_of_lt_of_le hk hB) fun hh => by have := hF k hh; omega⟩
theorem Chg.ow {F G : List Nat} {w w' : World} {d : D} {v : Value} (h : Chg F w w') (ho : Ow w d v G) (hd : ∀ g, g ∈ G → g ∉ F) : Ow w' d v G := Ow.stable d v G (fun k hk => h.block k (Ow.lt d v G ho k hk) (hd k hk)) ho
/-- The cells of a new row are stored one by one. -/
def setRow (w : World) (g q : Nat) : List Value → World
  | [] => w
  | v :: vs => setRow (w.setCell ⟨g, q, none⟩ v) g (q + 1) vs
theorem Fil.put {w wr : World} {g n : Nat} {ds : List D} {F : List Nat} {d : D} {v : Value} {F' : List Nat} (hc : Fil w wr g n ds F) (ho : Ow wr d v F') (hn : F'.Nodup) (hg' : g ∉ F') (hd : ∀ x, x ∈ F → x ∉ F') (hl : ∀ x, x ∈ F' → w.heap.size ≤ x) (hk : ds.length < n) :
    Fil w (wr.setCell ⟨g, ds.length, none⟩ v) g n (ds ++ [d]) (F ++ F') := by
  obtain ⟨u, hu⟩ := hc.has _ hk
  refine ⟨hc.below.setCell hc.base _, hc.base, by rw [show (wr.setCell ⟨g, ds.length, none⟩ v).heap.size = wr.heap.size from (Exc.setCell wr ⟨g, ds.length, none⟩ v).size]; exact hc.lt, ?_, ?_, ?_, ?_, fun i hi => ?_, fun i => by rw [World.frozen?_setCell]; exact hc.free i⟩
  · exact OwL.snoc ds g 0 F (OwL.setCell ds g 0 F hc.own hc.out _ _ (by omega)) (by rw [Nat.zero_add]; exact World.cell?_setCell_same wr _ _ hu) (by rw [World.frozen?_setCell]; exact hc.free _) (Ow.setCell ho hg' v)
  · intro e; rcases List.mem_append.1 e with e | e
    · exact hc.out e
    · exact hg' e
  · refine List.nodup_append.2 ⟨hc.nodup, hn, fun a ha b hb' e => ?_⟩
    subst e
    exact hd a ha hb'
  · intro x hx; rcases List.mem_append.1 hx with hx | hx
    · exact hc.fresh x hx
    · exact hl x hx
  · by_cases e : i = ds.length
    · subst e; exact ⟨v, World.cell?_setCell_same wr _ _ hu⟩
    · obtain ⟨u', hu'⟩ := hc.has i hi
      exact ⟨u', by rw [World.cell?_setCell_other _ _ _ _ (by intro e'; simp at e' <;> omega)]; exact hu'⟩
theorem OwA.setCell {w : World} {p : Addr} {u : Value} : ∀ (ds : List D) (vs : List Value) (F : List Nat), OwA w ds vs F → p.block ∉ F → OwA (w.setCell p u) ds vs F
  | [], [], _, h, _ => h
  | d :: ds, v :: vs, F, h, hp => by
    obtain ⟨F1, F2, h1, h2, rfl⟩ := h
    exact ⟨F1, F2, Ow.setCell h1 (fun e => hp (List.mem_append_left _ e)) u, OwA.setCell ds vs F2 h2 (fun e => hp (List.mem_append_right _ e)), rfl⟩
  | [], _ :: _, _, h, _ => h.elim
  | _ :: _, [], _, h, _ => h.elim
theorem Fil.rowAux {w : World} {g n : Nat} : ∀ (rs : List D) (vs : List Value) (wr : World) (ds : List D) (F F' : List Nat), Fil w wr g n ds F → OwA wr rs vs F' → F'.Nodup → g ∉ F' → (∀ x, x ∈ F → x ∉ F') → (∀ x, x ∈ F' → w.heap.size ≤ x) → ds.length + rs.length ≤ n →
    Fil w (setRow wr g ds.length vs) g n (ds ++ rs) (F ++ F')
  | [], [], wr, ds, F, F', h, ho, _, _, _, _, _ => by
    rw [show F' = [] from ho, List.append_nil, List.append_nil]; exact h
  | d :: rs, v :: vs, wr, ds, F, F', h, ho, hn, hg, hd, hl, hk => by
    obtain ⟨F1, F2, h1, h2, rfl⟩ := ho
    obtain ⟨n1, n2, n3⟩ := List.nodup_append.1 hn
    simp only [List.length_cons] at hk
    have hp := h.put h1 n1 (fun e => hg (List.mem_append_left _ e)) (fun x hx e => hd x hx (List.mem_append_left _ e)) (fun x hx => hl x (List.mem_append_left _ hx)) (by omega)
    have := Fil.rowAux rs vs _ (ds ++ [d]) (F ++ F1) F2 hp (OwA.setCell rs vs F2 h2 (fun e => hg (List.mem_append_right _ e))) n2 (fun e => hg (List.mem_append_right _ e)) (fun x hx e => by
      rcases List.mem_append.1 hx with hx | hx
      · exact hd x hx (List.mem_append_right _ e)
      · exact n3 x hx x e rfl) (fun x hx => hl x (List.mem_append_right _ hx)) (by simp; omega)
    rw [List.append_assoc, List.append_assoc, List.length_append] at this
    exact this
  | [], _ :: _, _, _, _, _, _, ho, _, _, _, _, _ => ho.elim
  | _ :: _, [], _, _, _, _, _, ho, _, _, _, _, _ => ho.elim
/-- One row more. -/
theorem Fil.row {w wr w' : World} {g n : Nat} {ds rs : List D} {vs : List Value} {F F' : List Nat} (h : Fil w wr g n ds F) (hb : Below wr.heap.size wr w') (ho : OwA w' rs vs F') (hn : F'.Nodup) (hl : ∀ x, x ∈ F' → wr.heap.size ≤ x) (hk : ds.length + rs.length ≤ n) :
    Fil w (setRow w' g ds.length vs) g n (ds ++ rs) (F ++ F') :=
  Fil.rowAux rs vs w' ds F F' (h.carry hb) ho hn (fun e => by have := hl g e; have := h.lt; omega) (fun x hx e => by have := OwL.lt ds g 0 F h.own x hx; have := hl x e; omega) (fun x hx => by have := hl x hx; have := h.below.size; omega) hk
theorem Fil.startRow {E k : Nat} {w w0 : World} {n c : Nat} {cs : List Value} (h : w0.ownsRow w.heap.size E k (.slice (some ⟨w.heap.size, 0, none⟩) n c) n cs) (hb : Below w.heap.size w w0) : Fil w w0 w.heap.size (n * k) [] [] := by
  refine ⟨hb, Nat.le_refl _, (h.lt _ rfl).2, rfl, by simp, by simp, by simp, fun i hi => ?_, fun i => ?_⟩
  · have hl := h.1
    have := World.ownsRow.cells (g := w.heap.size) h rfl i cs[i] (by simp [hl, hi])
    rw [Addr.add_lit, Nat.zero_add] at this
    exact ⟨_, this⟩
  · rcases h.2 with ⟨h1, _⟩ | ⟨g', cap, cur, h1, _, hg', _⟩
    · cases h1
    · cases h1; simp [World.frozen?, hg']
theorem Fil.retRow {w wr : World} {g n k : Nat} {ds : List D} {F : List Nat} (h : Fil w wr g (n * k) ds F) (hn : ds.length = n * k) (hm : n ≤ maxLen) : RetD w (.l k ds) (.returned (.slice (some ⟨g, 0, none⟩) n n)) wr := by
  by_cases e : ds = []
  · subst e
    exact ⟨_, [], rfl, h.below, ⟨_, n, n, rfl, hn, hm, .inl ⟨rfl, rfl⟩⟩, by simp, by simp⟩
  · refine ⟨_, g :: F, rfl, h.below, ⟨_, n, n, rfl, hn, hm, .inr ⟨g, 0, F, rfl, ⟨e, Nat.le_refl _⟩, rfl, h.own⟩⟩, List.nodup_cons.2 ⟨h.out, h.nodup⟩, fun x hx => ?_⟩
    rcases List.mem_cons.1 hx with rfl | hx
    · exact h.base
    · exact h.fresh x hx
/-- The rows of a list, cell by cell. -/
theorem row_get {τ : Type} (f : τ → List D) (k : Nat) (hk : ∀ x, (f x).length = k) : ∀ (xs : List τ) (i j : Nat) (x : τ), xs[i]? = some x → j < k → (xs.flatMap f)[i * k + j]? = (f x)[j]?
  | [], i, j, x, h, _ => by simp at h
  | x0 :: xs, 0, j, x, h, hj => by
    simp at h; subst h
    rw [List.flatMap_cons, List.getElem?_append_left (by rw [hk]; omega)]; simp
  | x0 :: xs, i + 1, j, x, h, hj => by
    rw [List.flatMap_cons, List.getElem?_append_right (by rw [hk]; rw [Nat.add_mul]; omega)]
    have := row_get f k hk xs i j x (by simpa using h) hj
    rw [show (i + 1) * k + j - (f x0).length = i * k + j from by rw [hk, Nat.add_mul]; omega, this]
theorem row_len {τ : Type} (f : τ → List D) (k : Nat) (hk : ∀ x, (f x).length = k) (xs : List τ) : (xs.flatMap f).length = xs.length * k := by
  induction xs with
  | nil => simp
  | cons x xs ih => rw [List.flatMap_cons, List.length_append, ih, hk, List.length_cons, Nat.add_mul]; omega
end Go.Proofs.Ytkjmehpehopncaa

/- Lists of bools: copied, compared, measured. -/
namespace Go.Proofs.Ytkjmehpehopncaa
open Go.RowKit

def nthB (xs : List Bool) (i : Nat) : Bool := xs.getD i false
theorem nthB_lt {xs : List Bool} {i : Nat} (h : i < xs.length) : nthB xs i = xs[i] := by simp [nthB, h]
theorem tabB : Tab Try.prog 25 4 (.bool false) 1 1 := ⟨by kernel_rfl, by kernel_rfl⟩
/-- Cells of a list of bools. -/
structure SlB (S : Nat → Prop) (w : World) (a : Option Addr) (xs : List Bool) : Prop where
  len : xs.length ≤ maxLen
  ptr : 0 < xs.length → S (blk a) ∧ ∃ g o, a = some ⟨g, o, none⟩
  cell : ∀ i, i < xs.length → w.cell? (adr a i) = some (.bool (nthB xs i))
theorem Rd_B {S : Nat → Prop} {w : World} {xs : List Bool} {v : Value} : Rd S w (dB xs) v ↔ ∃ a c, v = .slice a xs.length c ∧ SlB S w a xs := by
  constructor
  · rintro ⟨a, m, c, hv, hl, hm, hp, hr⟩
    have hl' : xs.length = m := by simpa using hl
    subst hl'
    refine ⟨a, c, hv, hm, fun h0 => ?_, fun i hi => ?_⟩
    · rcases hp with hp | hp
      · simp at hp; subst hp; simp at h0
      · exact hp
    · obtain ⟨u, hc, hu⟩ := RdL.get _ _ _ hr i (.b (nthB xs i)) (by simp [nthB, hi])
      rw [show u = _ from hu] at hc; exact hc
  · rintro ⟨a, c, rfl, h⟩
    refine ⟨a, xs.length, c, rfl, by simp, h.len, ?_, ?_⟩
    · cases xs with
      | nil => exact .inl rfl
      | cons x xs => exact .inr (h.ptr (by simp))
    · refine RdL.mk _ _ _ fun i d hd => ?_
      simp only [List.getElem?_map, Option.map_eq_some_iff] at hd
      obtain ⟨x, hx, rfl⟩ := hd
      have hi := (List.getElem?_eq_some_iff.1 hx).1
      refine ⟨_, h.cell i hi, ?_⟩
      show Value.bool (nthB xs i) = .bool x
      simp [nthB, List.getD, hx]

theorem SlB.below {S : Nat → Prop} {w w' : World} {a : Option Addr} {xs : List Bool} (h : SlB S w a xs) (hb : Below w.heap.size w w') : SlB S w' a xs := by
  obtain ⟨a', c', e, h'⟩ := Rd_B.1 ((Rd_B.2 ⟨a, 0, rfl, h⟩).below hb)
  cases e; exact h'
theorem SlB.ix {P : Program} {T E : Nat} {S : Nat → Prop} {w : World} {a : Option Addr} {xs : List Bool} (h : SlB S w a xs) (hT : P.underlying T = some (.slice E)) (hE : (P.info? E).map (·.size) = some 1)
   (c : Nat) (i : Int) (w' : World) (h0 : 0 ≤ i) (h1 : i < xs.length) : (Instr.indexAt T (.slice a xs.length c) (.int .i64 i)).run P w' = .ok (.pointer (some (adr a i.toNat))) w' := by
  rw [ix_of hT hE (fun h0 => (h.ptr h0).2) c i w' h0 h1, Nat.mul_one]
theorem eq_of_nthB {xs ys : List Bool} (hl : xs.length = ys.length) (h : ∀ j, j < xs.length → nthB xs j = nthB ys j) : xs = ys := by
  refine List.ext_getElem hl fun i h1 h2 => ?_
  have := h i h1
  rwa [nthB_lt h1, nthB_lt h2] at this
def eqB (xs ys : List Bool) : Bool := decide (xs = ys)
theorem eqB_len {xs ys : List Bool} (h : ¬ xs.length = ys.length) : eqB xs ys = false := decide_eq_false fun e => h (by rw [e])
theorem eqB_false {xs ys : List Bool} {j : Nat} (h : ¬ nthB xs j = nthB ys j) : eqB xs ys = false := decide_eq_false fun e => h (by rw [e])
theorem eqB_true {xs ys : List Bool} (hl : xs.length = ys.length) (h : ∀ j, j < xs.length → nthB xs j = nthB ys j) : eqB xs ys = true := decide_eq_true (eq_of_nthB hl h)
def fitB (left : Int) (xs : List Bool) : Prop := (xs.length : Int) ≤ left
theorem fitB.mono {l m : Int} {xs : List Bool} (h : fitB l xs) (hl : l ≤ m) : fitB m xs := by unfold fitB at *; omega
theorem fitB.to {xs : List Bool} (h : fitB 1048576 xs) : xs.length ≤ 4294967296 := by unfold fitB at h; omega
theorem SlB.any {S : Nat → Prop} {w : World} {a : Option Addr} {xs : List Bool} (h : SlB S w a xs) : SlB Any w a xs := ⟨h.len, fun h0 => ⟨trivial, (h.ptr h0).2⟩, h.cell⟩
theorem Ow.valB {w : World} {xs : List Bool} {v : Value} {F : List Nat} (h : Ow w (dB xs) v F) : ∃ a c, v = .slice a xs.length c := by
  obtain ⟨a, c, e, _⟩ := Rd_B.1 (Ow.rd _ _ _ h); exact ⟨a, c, e⟩
theorem Ow.argB {w : World} {xs : List Bool} {a : Option Addr} {n c : Nat} {F : List Nat} (h : Ow w (dB xs) (.slice a n c) F) : SlB Any w a xs := by
  obtain ⟨a', c', e, h'⟩ := Rd_B.1 (Ow.rd _ _ _ h); cases e; exact h'.any
theorem take_succ_B {xs : List Bool} {k : Nat} (h : k < xs.length) : (xs.take k).map D.b ++ [.b (nthB xs k)] = (xs.take (k + 1)).map D.b := by
  rw [nthB_lt h, List.take_succ_eq_append_getElem h, List.map_append]; rfl
end Go.Proofs.Ytkjmehpehopncaa

/- The laws' functions on lists of numbers and of bools: by shape. Written by tygen.py. -/
namespace Go.Proofs.Ytkjmehpehopncaa
open Go.RowKit

theorem fitD_I {d : D} (h : Fit (.l [.i]) d) : ∃ xs, d = dI xs := by
  obtain ⟨rows, rfl, hr⟩ := h
  have key : ∀ rows : List (List D), (∀ r, r ∈ rows → FitL [.i] r) → ∃ xs : List Int, rows.flatten = xs.map .i := by
    intro rows
    induction rows with
    | nil => intro _; exact ⟨[], rfl⟩
    | cons r rows ih =>
      intro h
      obtain ⟨xs, e⟩ := ih (fun r hr => h r (by simp [hr]))
      obtain ⟨d0, r0, rfl, ⟨n0, rfl⟩, h4⟩ := h r (by simp)
      rw [show r0 = [] from h4]
      exact ⟨n0 :: xs, by simp [e]⟩
  obtain ⟨xs, e⟩ := key rows hr
  exact ⟨xs, by rw [e]; rfl⟩
theorem fitD_B {d : D} (h : Fit (.l [.b]) d) : ∃ xs, d = dB xs := by
  obtain ⟨rows, rfl, hr⟩ := h
  have key : ∀ rows : List (List D), (∀ r, r ∈ rows → FitL [.b] r) → ∃ xs : List Bool, rows.flatten = xs.map .b := by
    intro rows
    induction rows with
    | nil => intro _; exact ⟨[], rfl⟩
    | cons r rows ih =>
      intro h
      obtain ⟨xs, e⟩ := ih (fun r hr => h r (by simp [hr]))
      obtain ⟨d0, r0, rfl, ⟨n0, rfl⟩, h4⟩ := h r (by simp)
      rw [show r0 = [] from h4]
      exact ⟨n0 :: xs, by simp [e]⟩
  obtain ⟨xs, e⟩ := key rows hr
  exact ⟨xs, by rw [e]; rfl⟩
theorem fitD_II {d : D} (h : Fit (.l [.l [.i]]) d) : ∃ xs, d = dII xs := by
  obtain ⟨rows, rfl, hr⟩ := h
  have key : ∀ rows : List (List D), (∀ r, r ∈ rows → FitL [.l [.i]] r) → ∃ xs : List (List Int), rows.flatten = xs.map dI := by
    intro rows
    induction rows with
    | nil => intro _; exact ⟨[], rfl⟩
    | cons r rows ih =>
      intro h
      obtain ⟨xs, e⟩ := ih (fun r hr => h r (by simp [hr]))
      obtain ⟨d0, r0, rfl, h0, h4⟩ := h r (by simp)
      obtain ⟨n0, rfl⟩ := fitD_I h0
      rw [show r0 = [] from h4]
      exact ⟨n0 :: xs, by simp [e]⟩
  obtain ⟨xs, e⟩ := key rows hr
  exact ⟨xs, by rw [e]; rfl⟩
theorem fit_dI (xs : List Int) : Fit (.l [.i]) (dI xs) := by
  refine ⟨xs.map fun x => [.i x], ?_, fun r hr => ?_⟩
  · simp only [dI]; congr 1; induction xs with
    | nil => rfl
    | cons x xs ih => simp [ih]
  · obtain ⟨x, _, rfl⟩ := List.mem_map.1 hr
    exact ⟨_, _, rfl, ⟨x, rfl⟩, rfl⟩
theorem fit_dB (xs : List Bool) : Fit (.l [.b]) (dB xs) := by
  refine ⟨xs.map fun x => [.b x], ?_, fun r hr => ?_⟩
  · simp only [dB]; congr 1; induction xs with
    | nil => rfl
    | cons x xs ih => simp [ih]
  · obtain ⟨x, _, rfl⟩ := List.mem_map.1 hr
    exact ⟨_, _, rfl, ⟨x, rfl⟩, rfl⟩
theorem fit_dII (xs : List (List Int)) : Fit (.l [.l [.i]]) (dII xs) := by
  refine ⟨xs.map fun x => [dI x], ?_, fun r hr => ?_⟩
  · simp only [dII]; congr 1; induction xs with
    | nil => rfl
    | cons x xs ih => simp [ih]
  · obtain ⟨x, _, rfl⟩ := List.mem_map.1 hr
    exact ⟨_, _, rfl, fit_dI x, rfl⟩
end Go.Proofs.Ytkjmehpehopncaa

/- Arguments of any shape, opened. -/
namespace Go.Proofs.Ytkjmehpehopncaa
open Go.ChangeShapes Go.WideShapes Go.ChangeAt Go.RowKit

theorem cnt_le_vol {es : List Sh} {d : D} (h : Fit (.l es) d) : cnt d ≤ vol d := by
  obtain ⟨rows, rfl, _⟩ := h
  exact cntL_le _
/-- A parameter that is a struct. -/
theorem open_A {H : Type} {enc : TypeId × Value → H} {P : Program} {W : World} {T : TypeId} {fs : Array Field} (es : List Sh) (hT : P.underlying T = some (.struct fs)) (hS : shapeOf P 6 T = some es) {v : Value} {d : DataW H} {p : List MemPlace} {base : Nat}
    (hval : Value.okWide P W .any base T v) (h : DataW.Trod enc P W 0 (fun _ => true) true T v d p) : ∃ (vs : List Value) (ds : List D), v = .agg ⟨vs⟩ ∧ FitL es ds ∧ RdAll (· < W.heap.size) W ds vs := by
  obtain ⟨⟨cs⟩, rfl, _⟩ := okWide_struct hT hval
  obtain ⟨fuel, hf⟩ := h
  obtain ⟨ds, h1, h2⟩ := trod_rd 6 fuel T _ _ _ hS hf
  exact ⟨cs, ds, rfl, h1, by simpa only [Value.cells] using h2⟩
/-- A parameter that is a slice. -/
theorem open_L {H : Type} {enc : TypeId × Value → H} {P : Program} {W : World} {T E : TypeId} {es : List Sh} (hT : P.underlying T = some (.slice E)) (hS : shapeOf P 6 T = some [.l es]) {v : Value} {d : DataW H} {p : List MemPlace} {base : Nat}
    (hval : Value.okWide P W .any base T v) (h : DataW.Trod enc P W 0 (fun _ => true) true T v d p) : ∃ d : D, Fit (.l es) d ∧ Rd (· < W.heap.size) W d v := by
  obtain ⟨a, n, c, rfl⟩ := okWide_slice hT hval
  obtain ⟨fuel, hf⟩ := h
  obtain ⟨ds, h1, h2⟩ := trod_rd 6 fuel T _ _ _ hS hf
  obtain ⟨d0, r0, rfl, f0, h3⟩ := h1
  rw [show r0 = [] from h3] at h2
  obtain ⟨v0, vr0, e0, hv0, _⟩ := h2
  simp only [Value.cells] at e0
  refine ⟨d0, f0, ?_⟩
  have : v0 = .slice a n c := by
    have := congrArg (·[0]?) e0
    simpa using this.symm
  rw [← this]; exact hv0
/-- A parameter that is a text. -/
theorem open_S {H : Type} {enc : TypeId × Value → H} {P : Program} {W : World} {T : TypeId} (hT : P.underlying T = some .string) {v : Value} {d : DataW H} {p : List MemPlace} {base : Nat}
    (hval : Value.okWide P W .any base T v) (h : DataW.Trod enc P W 0 (fun _ => true) true T v d p) : ∃ s, v = .string s ∧ s.size ≤ maxLen := by
  obtain ⟨s, rfl⟩ := okWide_string hT hval
  obtain ⟨fuel, hf⟩ := h
  cases fuel with
  | zero => simp [DataW.trod] at hf
  | succ fuel =>
    obtain ⟨s', h1, _, h3⟩ := DataW.trod_string hT hf
    have : s = s' := by
      have := congrArg (·[0]?) h1
      simpa [Value.cells] using this
    subst this
    exact ⟨s, rfl, h3⟩
end Go.Proofs.Ytkjmehpehopncaa

/- Rules that pass objects, as data. Written by rowtype.py. No program is in sight. -/
namespace Go.Proofs.Ytkjmehpehopncaa
open Go.RowKit

/-- A rule that passes objects. -/
structure PR where
  cell : Int
  out : List Int
  inn : List Int
def PR.ds (r : PR) : List D := [.i r.cell, dI r.out, dI r.inn]
def zPR : PR := ⟨0, [], []⟩
def nthPR (rs : List PR) (i : Nat) : PR := rs.getD i zPR
theorem nthPR_lt {rs : List PR} {i : Nat} (h : i < rs.length) : nthPR rs i = rs[i] := by simp [nthPR, h]
theorem nthPR_get {rs : List PR} {i : Nat} (h : i < rs.length) : rs[i]? = some (nthPR rs i) := by simp [nthPR, h]
def dPR (rs : List PR) : D := .l 3 (rs.flatMap PR.ds)
/-- The cells of a list of them. -/
structure SlPR (S : Nat → Prop) (w : World) (a : Option Addr) (rs : List PR) : Prop where
  len : rs.length ≤ maxLen
  ptr : 0 < rs.length → ∃ g o, a = some ⟨g, o, none⟩
  c0 : ∀ i, i < rs.length → w.cell? (adr a (i * 3)) = some (.int .i64 (nthPR rs i).cell)
  c1 : ∀ i, i < rs.length → ∃ a' c', w.cell? (adr a (i * 3 + 1)) = some (.slice a' (nthPR rs i).out.length c') ∧ SlI S w a' (nthPR rs i).out
  c2 : ∀ i, i < rs.length → ∃ a' c', w.cell? (adr a (i * 3 + 2)) = some (.slice a' (nthPR rs i).inn.length c') ∧ SlI S w a' (nthPR rs i).inn
theorem dPR_len (rs : List PR) : (rs.flatMap PR.ds).length = rs.length * 3 := row_len PR.ds 3 (fun _ => rfl) rs
theorem Rd_PR {S : Nat → Prop} {w : World} {rs : List PR} {v : Value} (h : Rd S w (dPR rs) v) : ∃ a c, v = .slice a rs.length c ∧ SlPR S w a rs := by
  obtain ⟨a, c, rfl, hm, hp, HG⟩ := h.row (dPR_len rs) (by omega)
  have key : ∀ i j d, i < rs.length → j < 3 → (nthPR rs i).ds[j]? = some d → ∃ u, w.cell? (adr a (i * 3 + j)) = some u ∧ Rd S w d u := fun i j d hi hj hd => HG.out w (Below.refl _ _) _ _ (by rw [row_get PR.ds 3 (fun _ => rfl) rs i j _ (nthPR_get hi) hj]; exact hd)
  refine ⟨a, c, rfl, hm, hp, fun i hi => ?_, fun i hi => ?_, fun i hi => ?_⟩
  · obtain ⟨u, h1, h2⟩ := key i 0 _ hi (by omega) rfl
    rw [show u = _ from h2] at h1; exact h1
  · obtain ⟨u, h1, h2⟩ := key i 1 _ hi (by omega) rfl
    obtain ⟨a', c', rfl, h3⟩ := Rd_I.1 h2
    exact ⟨a', c', h1, h3⟩
  · obtain ⟨u, h1, h2⟩ := key i 2 _ hi (by omega) rfl
    obtain ⟨a', c', rfl, h3⟩ := Rd_I.1 h2
    exact ⟨a', c', h1, h3⟩
theorem fitD_PR {d : D} (h : Fit (.l [.i, .l [.i], .l [.i]]) d) : ∃ rs, d = dPR rs := by
  obtain ⟨rows, rfl, hr⟩ := h
  have key : ∀ rows : List (List D), (∀ r, r ∈ rows → FitL [.i, .l [.i], .l [.i]] r) → ∃ rs : List PR, rows.flatten = rs.flatMap PR.ds := by
    intro rows
    induction rows with
    | nil => intro _; exact ⟨[], rfl⟩
    | cons r rows ih =>
      intro h
      obtain ⟨rs, e⟩ := ih (fun r hr => h r (by simp [hr]))
      obtain ⟨_, r0, e0, ⟨n0, rfl⟩, h0⟩ := h r (by simp)
      subst e0
      obtain ⟨_, r1, e1, f1, h1⟩ := h0
      subst e1
      obtain ⟨n1, rfl⟩ := fitD_I f1
      obtain ⟨_, r2, e2, f2, h2⟩ := h1
      subst e2
      obtain ⟨n2, rfl⟩ := fitD_I f2
      rw [show r2 = [] from h2]
      exact ⟨⟨n0, n1, n2⟩ :: rs, by simp [e, PR.ds]⟩
  obtain ⟨rs, e⟩ := key rows hr
  exact ⟨rs, by rw [e]; rfl⟩
theorem fit_dPR (rs : List PR) : Fit (.l [.i, .l [.i], .l [.i]]) (dPR rs) := by
  refine ⟨rs.map PR.ds, ?_, fun r hr => ?_⟩
  · simp only [dPR]; congr 1
  · obtain ⟨x, _, rfl⟩ := List.mem_map.1 hr
    exact ⟨_, _, rfl, ⟨_, rfl⟩, ⟨_, _, rfl, fit_dI _, ⟨_, _, rfl, fit_dI _, rfl⟩⟩⟩
end Go.Proofs.Ytkjmehpehopncaa

/- Contracts of the exported functions on bags (first part). -/
namespace Go.Proofs.Ytkjmehpehopncaa
open Go.RowKit

/-- What becomes of a list that must be a bag. -/
def Told (w : World) (a : Option Addr) (xs : List Int) (c : Nat) (e : Ending) (w' : World) : Prop :=
  Below w.heap.size w w' ∧ ((isBagS xs = true ∧ e = .returned (.tuple #[.slice a xs.length c, .int .i64 0])) ∨ (isBagS xs = false ∧ ∃ a' c', e = .returned (.tuple #[.slice a' 0 c', .int .i64 3])))
theorem Told.dc {w0 w w' : World} {a : Option Addr} {xs : List Int} {c : Nat} {e : Ending} {F : List Nat} (h : Told w a xs c e w') (ho : Ow w (dI xs) (.slice a xs.length c) F) (hn : F.Nodup) (hF : ∀ g, g ∈ F → w0.heap.size ≤ g) (hb : Below w0.heap.size w0 w) :
    RetDC w0 (dI (toldS xs).1) (toldS xs).2 e w' := by
  obtain ⟨h1, ⟨h2, rfl⟩ | ⟨h2, a', c', rfl⟩⟩ := h
  · simp only [toldS, h2, if_true]
    exact ⟨_, F, rfl, bnext hb h1 (Nat.le_refl _), Ow.stable _ _ F (fun k hk => h1.block k (Ow.lt _ _ F ho k hk)) ho, hn, hF⟩
  · simp only [toldS, h2, Bool.false_eq_true, if_false]
    exact RetDC.none a' c' 3 (bnext hb h1 (Nat.le_refl _))
end Go.Proofs.Ytkjmehpehopncaa

/- Contracts of the exported functions on bags (third part): add, take, times. -/
namespace Go.Proofs.Ytkjmehpehopncaa
open Go.RowKit

/-- How often a list is in another one, over the first k places. -/
def timesTo (xs ys : List Int) : Nat → Int
  | 0 => 1000
  | k + 1 => if 0 < nth xs k then minI (timesTo xs ys k) (nth ys k / nth xs k) else timesTo xs ys k
def timesS (xs ys : List Int) : Int := timesTo xs ys xs.length
/-- Is there an object in the first k places? -/
def someTo (xs : List Int) (k : Nat) : Bool := (List.range k).any fun i => decide (0 < nth xs i)
/-- The reference's way. -/
def bestTo (xs ys : List Int) (k : Nat) : Int := if someTo xs k = true then timesTo xs ys k else -1
theorem someTo_succ (xs : List Int) (k : Nat) : someTo xs (k + 1) = (someTo xs k || decide (0 < nth xs k)) := by simp [someTo, List.range_succ]
theorem timesTo_bd {xs ys : List Int} (hy : ∀ j, j < xs.length → 0 ≤ nth ys j ∧ nth ys j ≤ 1000) : ∀ k, k ≤ xs.length → 0 ≤ timesTo xs ys k ∧ timesTo xs ys k ≤ 1000
  | 0, _ => by simp [timesTo]
  | k + 1, hk => by
    have ih := timesTo_bd hy k (by omega)
    have h1 := hy k (by omega)
    unfold timesTo
    split
    · rename_i h
      have h2 : 0 ≤ nth ys k / nth xs k := Int.ediv_nonneg h1.1 (by omega)
      unfold minI
      split <;> omega
    · exact ih
theorem div_bd {x y : Int} (hx : 0 < x) (hy : 0 ≤ y ∧ y ≤ 1000) : 0 ≤ y / x ∧ y / x ≤ 1000 :=
  ⟨Int.ediv_nonneg hy.1 (by omega), Int.le_trans (Int.ediv_le_self _ hy.1) hy.2⟩
theorem bestTo_skip {xs ys : List Int} {k : Nat} (h : ¬ 0 < nth xs k) : bestTo xs ys (k + 1) = bestTo xs ys k := by
  unfold bestTo
  rw [someTo_succ, show timesTo xs ys (k + 1) = timesTo xs ys k from by rw [timesTo, if_neg h], show decide (0 < nth xs k) = false from by simpa using h, Bool.or_false]
theorem bestTo_first {xs ys : List Int} {k : Nat} (hy : ∀ j, j < xs.length → 0 ≤ nth ys j ∧ nth ys j ≤ 1000) (hk : k < xs.length) (h : 0 < nth xs k) (hs : someTo xs k = false) : bestTo xs ys (k + 1) = nth ys k / nth xs k := by
  have h1000 : ∀ j, someTo xs j = false → timesTo xs ys j = 1000 := by
    intro j
    induction j with
    | zero => intro _; rfl
    | succ j ih =>
      intro hj
      rw [someTo_succ, Bool.or_eq_false_iff] at hj
      unfold timesTo
      rw [if_neg (by simpa using hj.2)]
      exact ih hj.1
  have hd := div_bd h (hy k hk)
  unfold bestTo timesTo
  rw [someTo_succ, h1000 k hs, if_pos h, show decide (0 < nth xs k) = true from by simpa using h, Bool.or_true, if_pos rfl]
  unfold minI
  split <;> omega
theorem bestTo_more {xs ys : List Int} {k : Nat} (h : 0 < nth xs k) (hs : someTo xs k = true) : bestTo xs ys (k + 1) = if nth ys k / nth xs k < bestTo xs ys k then nth ys k / nth xs k else bestTo xs ys k := by
  unfold bestTo
  rw [someTo_succ, hs]
  simp only [Bool.true_or, if_true]
  rw [timesTo, if_pos h, minI]
  split <;> split <;> omega
theorem someTo_sum {xs : List Int} (h : isBagS xs = true) : (sumS xs == 0) = !someTo xs xs.length := by
  have key : ∀ k, k ≤ xs.length → (0 ≤ sumTo xs k ∧ sumTo xs k ≤ 1000 * k) ∧ ((sumTo xs k = 0) ↔ someTo xs k = false) := by
    intro k
    induction k with
    | zero => intro _; simp [sumTo, someTo]
    | succ k ih =>
      intro hk
      obtain ⟨⟨h1, h2⟩, h3⟩ := ih (by omega)
      have hb := isBagS_at h (k := k) (by omega)
      have hl := (isBagS_len h).2
      have e : sumTo xs (k + 1) = sumTo xs k + nth xs k := by
        rw [sumTo, wrap64]; omega
      rw [e, someTo_succ]
      refine ⟨⟨by omega, by push_cast; omega⟩, ?_⟩
      rw [Bool.or_eq_false_iff, ← h3]
      simp
      omega
  have := (key xs.length (Nat.le_refl _)).2
  unfold sumS
  cases hs : someTo xs xs.length
  · rw [hs] at this; simp [this.2 rfl]
  · rw [hs] at this
    have h0 : ¬ sumTo xs xs.length = 0 := fun e => by have := this.1 e; cases this
    simp [h0]
def timesInS (xs ys : List Int) : Int × Int := if twoS xs ys = 0 then (if sumS xs == 0 then (0, 4) else (timesS xs ys, 0)) else (0, twoS xs ys)
end Go.Proofs.Ytkjmehpehopncaa

/- Lists of rows under construction: each row's data lie in memory of their own. No program is in sight. -/
namespace Go.Proofs.Ytkjmehpehopncaa
open Go.RowKit

/-- 'append' onto a list of one's own: where the result lies. -/
theorem run_app {P : Program} (w : World) (base : Nat) (t ty e : TypeId) (i : TypeInfo) (z : Value) (size bytes : Nat) (ht : P.underlying t = some (.slice e)) (hi : P.info? e = some i) (hz : i.zero = some z)
    (hsize : i.size = size) (hby : i.bytes = bytes) (hzs : z.cells.size = size) (hsz : 0 < size)
    (v : Value) (n : Nat) (xs : List Value) (hown : w.ownsRow base e size v n xs)
    (a : Addr) (m c : Nat) (news : List Value) (hl : news.length = m * size) (hnews : ∀ j u, news[j]? = some u → w.cell? (a.add j) = some u) (h1 : ∀ u ∈ news, u.oneCell' = true)
    (h63 : n + m ≤ maxLen) (hbytes : (n + m) * bytes ≤ 140737488355328) (hbase : base ≤ w.heap.size) (hm : 0 < m) :
    ∃ v' w', (Builtin.append_ #[t, t] ty #[v, .slice (some a) m c]).run P w = .ok v' w' ∧ w'.ownsRow base e size v' (n + m) (xs ++ news) ∧ w.grownBy w' v.ownBlock ∧
      (∀ g, v'.ownBlock = some g → v.ownBlock = some g ∨ w.heap.size ≤ g) := by
  obtain ⟨v', w', hr, h2, h3, _⟩ := run_append_own (P := P) w base t ty e i z size bytes ht hi hz hsize hby hzs hsz v n xs hown a m c news hl hnews h1 h63 hbytes hbase
  refine ⟨v', w', hr, h2, h3, ?_⟩
  have hsmall : n + m ≤ 9223372036854775807 := by simp only [maxLen] at h63; omega
  subst hsize
  subst hby
  rcases hown.2 with ⟨rfl, rfl⟩ | ⟨g, cap, cur, rfl, hbg, hg, hnc, hcm, hcs, htake⟩
  · have hr2 := run_append_nil (P := P) w t ty e i z ht hi hz a m c news hl hnews hm (by omega) (by have hb := hbytes; simp only [Nat.zero_add] at hb; omega)
    rw [hr] at hr2
    injection hr2 with e1 e2
    subst e1
    intro g hg; right
    simp [Value.ownBlock] at hg; omega
  · by_cases hroom : n + m ≤ cap
    · have hfit : n * i.size + news.length ≤ cur.size := by rw [hl, hcs, ← Nat.add_mul]; exact Nat.mul_le_mul_right _ hroom
      have hr2 := run_append_room (P := P) w t ty e i ht hi g n cap cur hg a m c news hl hnews h1 hroom hfit
      rw [hr] at hr2
      injection hr2 with e1 e2
      subst e1
      intro g' hg'; left
      simpa [Value.ownBlock] using hg'
    · have holds : ∀ j u, xs[j]? = some u → w.cell? ((⟨g, 0, none⟩ : Addr).add j) = some u := hown.cells (g := g) rfl
      have hr2 := run_append_grow (P := P) w t ty e i z ht hi hz ⟨g, 0, none⟩ n cap xs hown.1 holds a m c news hl hnews (by omega) (by omega) (growslice_fits (by omega) hbytes)
      rw [hr] at hr2
      injection hr2 with e1 e2
      subst e1
      intro g' hg'; right
      simp [Value.ownBlock] at hg'; omega

/-- The block of a slice's array. -/
def ob (v : Value) : List Nat := match v.ownBlock with | some g => [g] | none => []
theorem mem_ob {v : Value} {g : Nat} : g ∈ ob v ↔ v.ownBlock = some g := by
  unfold ob
  cases h : v.ownBlock with
  | none => simp
  | some x => simp [eq_comm]
/-- v is a list of n rows (of k cells each) that is being built: its cells hold the data ds; all of it lies in the blocks G, from B on. -/
def Lst (E : TypeId) (k : Nat) (w : World) (B : Nat) (v : Value) (n : Nat) (ds : List D) (G : List Nat) : Prop :=
  ∃ vs F, w.ownsRow B E k v n vs ∧ OwA w ds vs F ∧ F.Nodup ∧ (∀ g, g ∈ F → B ≤ g) ∧ (∀ g, g ∈ ob v → g ∉ F) ∧ G = ob v ++ F
theorem OwA.lt {w : World} : ∀ (ds : List D) (vs : List Value) (F : List Nat), OwA w ds vs F → ∀ g, g ∈ F → g < w.heap.size
  | [], [], F, h, g, hg => by rw [show F = [] from h] at hg; cases hg
  | d :: ds, v :: vs, F, h, g, hg => by
    obtain ⟨F1, F2, h1, h2, rfl⟩ := h
    rcases List.mem_append.1 hg with hg | hg
    · exact Ow.lt d v F1 h1 g hg
    · exact OwA.lt ds vs F2 h2 g hg
  | [], _ :: _, _, h, _, _ => h.elim
  | _ :: _, [], _, h, _, _ => h.elim
theorem OwA.stable {w w' : World} : ∀ (ds : List D) (vs : List Value) (F : List Nat), Agree (· ∈ F) w w' → OwA w ds vs F → OwA w' ds vs F
  | [], [], _, _, h => h
  | d :: ds, v :: vs, F, ha, h => by
    obtain ⟨F1, F2, h1, h2, rfl⟩ := h
    exact ⟨F1, F2, Ow.stable d v F1 (fun k hk => ha k (by simp [hk])) h1, OwA.stable ds vs F2 (fun k hk => ha k (by simp [hk])) h2, rfl⟩
  | [], _ :: _, _, _, h => h.elim
  | _ :: _, [], _, _, h => h.elim
theorem OwA.app {w : World} : ∀ (ds : List D) (vs : List Value) (F : List Nat) (ds' : List D) (vs' : List Value) (F' : List Nat), OwA w ds vs F → OwA w ds' vs' F' → OwA w (ds ++ ds') (vs ++ vs') (F ++ F')
  | [], [], F, ds', vs', F', h, h' => by rw [show F = [] from h]; exact h'
  | d :: ds, v :: vs, F, ds', vs', F', h, h' => by
    obtain ⟨F1, F2, h1, h2, rfl⟩ := h
    exact ⟨F1, F2 ++ F', h1, OwA.app ds vs F2 ds' vs' F' h2 h', by simp⟩
  | [], _ :: _, _, _, _, _, h, _ => h.elim
  | _ :: _, [], _, _, _, _, h, _ => h.elim
theorem OwA.owL {w : World} {g : Nat} : ∀ (ds : List D) (vs : List Value) (F : List Nat) (o : Nat), OwA w ds vs F → (∀ j u, vs[j]? = some u → w.cell? ⟨g, o + j, none⟩ = some u ∧ w.frozen? ⟨g, o + j, none⟩ = false) → OwL w ds g o F
  | [], [], _, _, h, _ => h
  | d :: ds, v :: vs, F, o, h, hc => by
    obtain ⟨F1, F2, h1, h2, rfl⟩ := h
    have h0 := hc 0 v (by simp)
    refine ⟨v, F1, F2, by simpa using h0.1, by simpa using h0.2, h1, OwA.owL ds vs F2 (o + 1) h2 (fun j u hu => ?_), rfl⟩
    have := hc (j + 1) u (by simpa using hu)
    rwa [show o + (j + 1) = o + 1 + j from by omega] at this
  | [], _ :: _, _, _, h, _ => h.elim
  | _ :: _, [], _, _, h, _ => h.elim
theorem ownsRow_kept {w w' : World} {B : Nat} {E : TypeId} {k n : Nat} {v : Value} {vs : List Value} (h : w.ownsRow B E k v n vs) (hb : ∀ g, g ∈ ob v → w'.heap[g]? = w.heap[g]?) : w'.ownsRow B E k v n vs := by
  obtain ⟨h0, h2⟩ := h
  refine ⟨h0, ?_⟩
  rcases h2 with h2 | ⟨g, cap, cur, rfl, hB, hg, h3⟩
  · exact .inl h2
  · exact .inr ⟨g, cap, cur, rfl, hB, (hb g (mem_ob.2 rfl)).trans hg, h3⟩
theorem ob_lt {w : World} {B : Nat} {E : TypeId} {k n : Nat} {v : Value} {vs : List Value} (h : w.ownsRow B E k v n vs) : ∀ g, g ∈ ob v → B ≤ g ∧ g < w.heap.size := fun g hg => h.lt g (mem_ob.1 hg)
theorem Lst.lt {E : TypeId} {k : Nat} {w : World} {B : Nat} {v : Value} {n : Nat} {ds : List D} {G : List Nat} (h : Lst E k w B v n ds G) : ∀ g, g ∈ G → B ≤ g ∧ g < w.heap.size := by
  obtain ⟨vs, F, h1, h2, h3, h4, h5, rfl⟩ := h
  intro g hg
  rcases List.mem_append.1 hg with hg | hg
  · exact ob_lt h1 g hg
  · exact ⟨h4 g hg, OwA.lt ds vs F h2 g hg⟩
theorem Lst.keep {E : TypeId} {k : Nat} {w w' : World} {B : Nat} {v : Value} {n : Nat} {ds : List D} {G F' : List Nat} (h : Lst E k w B v n ds G) (hc : Chg F' w w') (hd : ∀ g, g ∈ G → g ∉ F') : Lst E k w' B v n ds G := by
  have hlt := h.lt
  obtain ⟨vs, F, h1, h2, h3, h4, h5, rfl⟩ := h
  exact ⟨vs, F, ownsRow_kept h1 (fun g hg => hc.block g (hlt g (by simp [hg])).2 (hd g (by simp [hg]))), OwA.stable ds vs F (fun g hg => hc.block g (hlt g (by simp [hg])).2 (hd g (by simp [hg]))) h2, h3, h4, h5, rfl⟩
theorem Lst.below {E : TypeId} {k : Nat} {w w' : World} {B : Nat} {v : Value} {n : Nat} {ds : List D} {G : List Nat} (h : Lst E k w B v n ds G) (hb : Below w.heap.size w w') : Lst E k w' B v n ds G :=
  h.keep (F' := []) (Chg.ofBelow hb) (by simp)
theorem Lst.val {E : TypeId} {k : Nat} {w : World} {B : Nat} {v : Value} {n : Nat} {ds : List D} {G : List Nat} (h : Lst E k w B v n ds G) : ds.length = n * k ∧ ∃ a c, v = .slice a n c := by
  obtain ⟨vs, F, h1, h2, _⟩ := h
  refine ⟨by rw [← owA_len ds vs F h2]; exact h1.1, ?_⟩
  rcases h1.2 with ⟨rfl, rfl⟩ | ⟨g, cap, cur, rfl, _⟩
  · exact ⟨none, 0, rfl⟩
  · exact ⟨_, cap, rfl⟩
theorem Lst.nil (E : TypeId) (k : Nat) (w : World) (B : Nat) : Lst E k w B (.slice none 0 0) 0 [] [] :=
  ⟨[], [], World.ownsRow_nil w B E k, rfl, by simp, by simp, by simp [ob, Value.ownBlock], by simp [ob, Value.ownBlock]⟩
theorem Lst.made (E : TypeId) (k : Nat) (w : World) (B : Nat) (hB : B ≤ w.heap.size) : Lst E k (w.alloc (.cells #[] E)) B (.slice (some ⟨w.heap.size, 0, none⟩) 0 0) 0 [] [w.heap.size] :=
  ⟨[], [], by have := World.ownsRow_made (size := k) (base := B) (e := E) w #[] 0 hB (by simp [maxLen]) (by simp); simpa using this, rfl, by simp, by simp, by simp, by simp [ob, Value.ownBlock]⟩
/-- What has been built is owned. -/
theorem Lst.ow {E : TypeId} {k : Nat} {w : World} {B : Nat} {v : Value} {n : Nat} {ds : List D} {G : List Nat} (h : Lst E k w B v n ds G) (_hk : 0 < k) (hm : n ≤ maxLen) : ∃ G', Ow w (.l k ds) v G' ∧ G'.Nodup ∧ (∀ g, g ∈ G' → g ∈ G) := by
  have hv := h.val
  obtain ⟨vs, F, h1, h2, h3, h4, h5, rfl⟩ := h
  obtain ⟨hl, a, c, rfl⟩ := hv
  by_cases e : ds = []
  · subst e
    exact ⟨[], ⟨a, n, c, rfl, hl, hm, .inl ⟨rfl, rfl⟩⟩, by simp, by simp⟩
  · have hcells := fun g => World.ownsRow.cells (g := g) h1
    rcases h1.2 with ⟨hv, rfl⟩ | ⟨g, cap, cur, hv, hB, hg, hcp, _⟩
    · rw [Nat.zero_mul] at hl
      exact absurd (List.eq_nil_of_length_eq_zero hl) e
    · cases hv
      refine ⟨g :: F, ⟨_, n, c, rfl, hl, hm, .inr ⟨g, 0, F, rfl, ⟨e, hcp⟩, rfl, OwA.owL ds vs F 0 h2 fun j u hu => ⟨?_, ?_⟩⟩⟩, List.nodup_cons.2 ⟨h5 g (mem_ob.2 rfl), h3⟩, fun x hx => ?_⟩
      · have := hcells g rfl j u hu
        rwa [Addr.add_lit] at this
      · simp [World.frozen?, hg]
      · rcases List.mem_cons.1 hx with rfl | hx
        · exact List.mem_append_left _ (mem_ob.2 rfl)
        · exact List.mem_append_right _ hx
theorem grown_chg {w w' : World} {v : Value} (h : w.grownBy w' v.ownBlock) : Chg (ob v) w w' :=
  ⟨h.os, h.tape, h.output, h.size, fun k hk hn => h.block k hk (fun e => hn (mem_ob.2 e.symm))⟩
/-- What the next row adds: rows rs in the blocks F2, in front of it the list. -/
structure LstNext (E : TypeId) (k : Nat) (w w' : World) (B : Nat) (v v' : Value) (n : Nat) (ds rs : List D) (G F2 G' : List Nat) : Prop where
  lst : Lst E k w' B v' (n + 1) (ds ++ rs) G'
  chg : Chg (ob v) w w'
  mem : ∀ g, g ∈ G' → g ∈ G ∨ g ∈ F2 ∨ w.heap.size ≤ g
theorem Lst.next {E : TypeId} {k : Nat} {w w' : World} {B : Nat} {v v' : Value} {n : Nat} {ds rs : List D} {vs news : List Value} {F F2 : List Nat} (_h1 : w.ownsRow B E k v n vs) (h2 : OwA w ds vs F) (h3 : F.Nodup) (h4 : ∀ g, g ∈ F → B ≤ g) (h5 : ∀ g, g ∈ ob v → g ∉ F)
    (g1 : OwA w rs news F2) (g2 : F2.Nodup) (g3 : ∀ g, g ∈ F2 → B ≤ g) (g4 : ∀ g, g ∈ F2 → g ∉ ob v ++ F) (o1 : w'.ownsRow B E k v' (n + 1) (vs ++ news)) (o2 : w.grownBy w' v.ownBlock) (o3 : ∀ g, v'.ownBlock = some g → v.ownBlock = some g ∨ w.heap.size ≤ g) :
    ∃ G', LstNext E k w w' B v v' n ds rs (ob v ++ F) F2 G' := by
  have hc := grown_chg o2
  have a1 : OwA w' ds vs F := OwA.stable ds vs F (fun g hg => hc.block g (OwA.lt ds vs F h2 g hg) (fun e => h5 g e hg)) h2
  have a2 : OwA w' rs news F2 := OwA.stable rs news F2 (fun g hg => hc.block g (OwA.lt rs news F2 g1 g hg) (fun e => g4 g hg (by simp [e]))) g1
  refine ⟨ob v' ++ (F ++ F2), ⟨vs ++ news, F ++ F2, o1, OwA.app _ _ _ _ _ _ a1 a2, List.nodup_append.2 ⟨h3, g2, fun a ha b hb e => g4 b hb (by subst e; simp [ha])⟩, fun g hg => ?_, fun g hg hg2 => ?_, rfl⟩, hc, fun g hg => ?_⟩
  · rcases List.mem_append.1 hg with hg | hg
    · exact h4 g hg
    · exact g3 g hg
  · rcases o3 g (mem_ob.1 hg) with hh | hh
    · rcases List.mem_append.1 hg2 with hg2 | hg2
      · exact h5 g (mem_ob.2 hh) hg2
      · exact g4 g hg2 (by simp [mem_ob.2 hh])
    · rcases List.mem_append.1 hg2 with hg2 | hg2
      · have := OwA.lt ds vs F h2 g hg2; omega
      · have := OwA.lt rs news F2 g1 g hg2; omega
  · rcases List.mem_append.1 hg with hg | hg
    · rcases o3 g (mem_ob.1 hg) with hh | hh
      · exact .inl (by simp [mem_ob.2 hh])
      · exact .inr (.inr hh)
    · rcases List.mem_append.1 hg with hg | hg
      · exact .inl (by simp [hg])
      · exact .inr (.inl hg)
/-- What a row that lies at g (in its own new block) takes. -/
structure RowAt (w : World) (g k : Nat) (B : Nat) (rs : List D) (news : List Value) (F2 G : List Nat) : Prop where
  own : OwA w rs news F2
  len : news.length = k
  nodup : F2.Nodup
  lo : ∀ x, x ∈ F2 → B ≤ x
  apart : ∀ x, x ∈ F2 → x ∉ G
  cells : ∀ j u, news[j]? = some u → w.cell? ⟨g, j, none⟩ = some u
  one : ∀ u ∈ news, u.oneCell' = true
theorem run_lst {P : Program} {w : World} {B : Nat} {T ty E : TypeId} {k bytes : Nat} {z : Value} (tab : Tab P T E z k bytes) (hzs : z.cells.size = k) (hk : 0 < k) (hby : bytes ≤ 1024)
    {v : Value} {n : Nat} {ds rs : List D} {G F2 : List Nat} {news : List Value} (h : Lst E k w B v n ds G) {g : Nat} (hr : RowAt w g k B rs news F2 G) (hlen : n < 4294967296) (hB : B ≤ w.heap.size) :
    ∃ v' w', (Builtin.append_ #[T, T] ty #[v, .slice (some ⟨g, 0, none⟩) 1 1]).run P w = .ok v' w' ∧ ∃ G', LstNext E k w w' B v v' n ds rs G F2 G' := by
  obtain ⟨vs, F, h1, h2, h3, h4, h5, rfl⟩ := h
  obtain ⟨i0, hi, hz0, hz1, hz2⟩ := info_parts tab.info
  obtain ⟨v', w', e, o1, o2, o3⟩ := run_app (P := P) w B T ty E i0 z k bytes tab.under hi hz0 hz1 hz2 hzs hk v n vs h1 ⟨g, 0, none⟩ 1 1 news (by rw [hr.len, Nat.one_mul]) (fun j u hu => by rw [Addr.add_lit, Nat.zero_add]; exact hr.cells j u hu) hr.one (by unfold maxLen; omega)
    (by have : (n + 1) * bytes ≤ 4294967296 * 1024 := Nat.mul_le_mul (by omega) hby
        omega) hB (by omega)
  exact ⟨v', w', e, Lst.next h1 h2 h3 h4 h5 hr.own hr.nodup hr.lo hr.apart o1 o2 o3⟩
/-- 'append(v, row)' in the order of the text. -/
theorem app_lst {P : Program} {ops : Array Oper} {rest : List Oper} {o : Oper} {ac : Act} {Q : Exit → Act → World → Prop} {w : World} (hgd : o.guard = none) (s x : Operand) (T : TypeId)
    (ho : o.op = .call { callee := .builtin .append, args := #[s, x], argTypes := #[T, T] }) {E k bytes : Nat} {z : Value} (tab : Tab P T E z k bytes) (hzs : z.cells.size = k) (hk : 0 < k) (hby : bytes ≤ 1024)
    (B : Nat) (v : Value) (n : Nat) (ds rs : List D) (G F2 : List Nat) (news : List Value) (hs : ac.eval s = v) (h : Lst E k w B v n ds G) (g : Nat) (hx : ac.eval x = .slice (some ⟨g, 0, none⟩) 1 1) (hr : RowAt w g k B rs news F2 G) (hlen : n < 4294967296) (hB : B ≤ w.heap.size)
    (K : ∀ v' w' G', LstNext E k w w' B v v' n ds rs G F2 G' → wpList P ops Q rest (ac.put o.dst v') w') : wpList P ops Q (o :: rest) ac w := by
  refine wpList_plain hgd fun _ hK => ?_
  obtain ⟨v', w', e, G', hn⟩ := run_lst (P := P) (ty := o.type) tab hzs hk hby h hr hlen hB
  unfold Oper.wp execOp
  simp only [ho, resolve, invoke, builtin, Sem.run_bind, Sem.run_pure, Result.andThen_ok, List.map_toArray, List.map_cons, List.map_nil, hs, hx, e]
  exact hK _ _ (K v' w' G' hn)
/-- The same at a step of a region that draws its order. -/
theorem step_lst {P : Program} {ops : Array Oper} {o : Oper} {ac : Act} {w : World} {K : Act → World → Prop} {Q : Exit → Act → World → Prop} {X : Prop} (hgd : o.guard = none) (s x : Operand) (T : TypeId)
    (ho : o.op = .call { callee := .builtin .append, args := #[s, x], argTypes := #[T, T] }) {E k bytes : Nat} {z : Value} (tab : Tab P T E z k bytes) (hzs : z.cells.size = k) (hk : 0 < k) (hby : bytes ≤ 1024)
    (B : Nat) (v : Value) (n : Nat) (ds rs : List D) (G F2 : List Nat) (news : List Value) (hs : ac.eval s = v) (h : Lst E k w B v n ds G) (g : Nat) (hx : ac.eval x = .slice (some ⟨g, 0, none⟩) 1 1) (hr : RowAt w g k B rs news F2 G) (hlen : n < 4294967296) (hB : B ≤ w.heap.size)
    (hK : ∀ v' w' G', LstNext E k w w' B v v' n ds rs G F2 G' → K (ac.put o.dst v') w') : if Region.wanted o (yielded ops ac.tmps) = true then Oper.wp P o ac w K Q else X := by
  have hw : Region.wanted o (yielded ops ac.tmps) = true := by simp [Region.wanted, hgd]
  rw [if_pos hw]
  obtain ⟨v', w', e, G', hn⟩ := run_lst (P := P) (ty := o.type) tab hzs hk hby h hr hlen hB
  unfold Oper.wp execOp
  simp only [ho, resolve, invoke, builtin, Sem.run_bind, Sem.run_pure, Result.andThen_ok, List.map_toArray, List.map_cons, List.map_nil, hs, hx, e]
  exact hK v' w' G' hn
theorem Chg.cell {F : List Nat} {w w' : World} (h : Chg F w w') {b : Nat} (hb : b < w.heap.size) (hF : b ∉ F) (i : Nat) : w'.cell? ⟨b, i, none⟩ = w.cell? ⟨b, i, none⟩ := World.cell?_of_block (w := w) (h.block b hb hF)
theorem Chg.frozen {F : List Nat} {w w' : World} (h : Chg F w w') {b : Nat} (hb : b < w.heap.size) (hF : b ∉ F) (i : Nat) : w'.frozen? ⟨b, i, none⟩ = w.frozen? ⟨b, i, none⟩ := World.frozen?_of_block (w := w) (h.block b hb hF)
theorem Chg.refl (F : List Nat) (w : World) : Chg F w w := ⟨rfl, rfl, rfl, Nat.le_refl _, fun _ _ _ => rfl⟩
end Go.Proofs.Ytkjmehpehopncaa

/- Lists of lists that are collected: copies of lists, what is added, what is told. -/
namespace Go.Proofs.Ytkjmehpehopncaa
open Go.RowKit

/-- A call that returns a datum of its own, at a step of a region that draws its order. -/
theorem step_callD {P : Program} {ops : Array Oper} {o : Oper} {ac : Act} {w : World} {K : Act → World → Prop} {Q : Exit → Act → World → Prop} {X : Prop} (hgd : o.guard = none) (f : FuncId) (xs : Array Operand) (ts : Array TypeId)
    (ho : o.op = .call { callee := .value (.func f), args := xs, argTypes := ts }) (hrun : ∀ args w, (callFunc f args).run P w = .ok (.enter f args) w) (vs : Array Value) (hv : xs.map ac.eval = vs) (d : D)
    (h : Calls P f vs w (RetD w d)) (hK : ∀ v F w', Below w.heap.size w w' → Ow w' d v F → F.Nodup → (∀ g, g ∈ F → w.heap.size ≤ g) → K (ac.put o.dst v) w') : if Region.wanted o (yielded ops ac.tmps) = true then Oper.wp P o ac w K Q else X := by
  have hw : Region.wanted o (yielded ops ac.tmps) = true := by simp [Region.wanted, hgd]
  rw [if_pos hw]
  unfold Oper.wp execOp
  simp only [ho, resolve, Act.eval, Deferred.ofValue, Sem.run_bind, Sem.run_pure, Result.andThen_ok, invoke, Array.append_empty]
  rw [show xs.map (Act.eval ac) = vs from hv]
  simp only [Array.empty_append, hrun, Oper.upon_enter]
  refine h.mono fun e w' ⟨v, F, he, h1, h2, h3, h4⟩ => ?_
  subst he
  exact hK v F w' h1 h2 h3 h4
theorem make_run {P : Program} {T E k bytes : Nat} {z : Value} (tab : Tab P T E z k bytes) (_hk : 0 < k) (hby : bytes ≤ 1024) (n : Nat) (hn : n ≤ 4294967296) (w : World) :
    (Instr.makeSlice T (.int .i64 n) (.int .i64 n)).run P w = .ok (.slice (some ⟨w.heap.size, 0, none⟩) n n) (w.alloc (.cells (madeCells z.cells (n * k)) E)) := by
  obtain ⟨i0, hi, hz0, hz1, hz2⟩ := info_parts tab.info
  have hb : (i0.bytes : Int) * (n : Int) ≤ 281474976710656 := by
    have h : ((i0.bytes * n : Nat) : Int) ≤ 281474976710656 := by
      rw [hz2]
      have : bytes * n ≤ 1024 * 4294967296 := Nat.mul_le_mul hby hn
      omega
    rwa [Int.natCast_mul] at h
  have hr := run_make (P := P) w T E i0 z tab.under hi hz0 .i64 .i64 n n (by omega) (Int.le_refl _) hb (by omega)
  simp only [Int.toNat_natCast, hz1] at hr
  exact hr
theorem make_run1 {P : Program} {T E bytes : Nat} {z : Value} (tab : Tab P T E z 1 bytes) (hz : z.cells = #[z]) (hby : bytes ≤ 1024) (n : Nat) (hn : n ≤ 4294967296) (w : World) :
    (Instr.makeSlice T (.int .i64 n) (.int .i64 n)).run P w = .ok (.slice (some ⟨w.heap.size, 0, none⟩) n n) (w.alloc (.cells (Array.replicate n z) E)) := by
  rw [make_run tab (by omega) hby n hn w]
  congr 3
  apply Array.ext'
  rw [madeCells_one z hz]
  simp
theorem run_eql_some_nil {P : Program} (w : World) {t e : TypeId} (a : Addr) (n c : Nat) (ht : P.underlying t = some (.slice e)) :
    (binOp .eql t (.slice (some a) n c) (.slice none 0 0)).run P w = .ok (.bool false) w := by
  have h : ∀ d : Nat, (Op.equalIn (d + 1) t (.slice (some a) n c) (.slice none 0 0)).run P w = .ok false w := fun d => by
    simp [Op.equalIn, run_underlying ht]
  simp only [binOp]
  simp [Op.equal, Op.maxDepth, h 9999]
theorem SlI.addr {S : Nat → Prop} {w : World} {a : Option Addr} {xs : List Int} (h : SlI S w a xs) (h0 : 0 < xs.length) : ∃ ad, a = some ad := by
  obtain ⟨g, o, e⟩ := (h.ptr h0).2
  exact ⟨_, e⟩
/-- 'append(v, xs...)' of numbers. -/
theorem app_many {P : Program} {ops : Array Oper} {rest : List Oper} {o : Oper} {ac : Act} {Q : Exit → Act → World → Prop} {w : World} (hgd : o.guard = none) (s x : Operand) (T : TypeId)
    (ho : o.op = .call { callee := .builtin .append, args := #[s, x], argTypes := #[T, T] }) {E bytes : Nat} {z : Value} (tab : Tab P T E z 1 bytes) (hzs : z.cells.size = 1) (hby : bytes ≤ 1024)
    (B : Nat) (v : Value) (vs : List Value) (hs : ac.eval s = v) (hown : Bld E w B v vs) (S : Nat → Prop) (a : Option Addr) (c : Nat) (xs : List Int) (hx : ac.eval x = .slice a xs.length c) (hsl : SlI S w a xs) (ha : ∃ ad, a = some ad) (hlen : vs.length + xs.length < 4294967296) (hB : B ≤ w.heap.size)
    (K : ∀ v' w', Bld E w' B v' (vs ++ xs.map (.int .i64)) → Below B w w' → wpList P ops Q rest (ac.put o.dst v') w') : wpList P ops Q (o :: rest) ac w := by
  obtain ⟨i0, hi, hz0, hz1, hz2⟩ := info_parts tab.info
  have hbytes : (vs.length + xs.length) * bytes ≤ 140737488355328 := by
    have : (vs.length + xs.length) * bytes ≤ 4294967296 * 1024 := Nat.mul_le_mul (by omega) hby
    omega
  have hlt := hown.lt
  obtain ⟨ad, rfl⟩ := ha
  have e0 : xs = [] ∨ ∃ g p, ad = ⟨g, p, none⟩ := by
    cases xs with
    | nil => exact .inl rfl
    | cons y ys =>
      obtain ⟨g, p, e⟩ := (hsl.ptr (by simp)).2
      exact .inr ⟨g, p, by simpa using e⟩
  refine wpList_append_own w hgd s x T ho B E i0 z 1 bytes tab.under hi hz0 hz1 hz2 hzs (by decide) v vs.length vs hs hown ad xs.length c (xs.map (.int .i64)) hx (by simp) ?_ ?_ (by unfold maxLen; omega) hbytes hB ?_
  · intro j u hu
    have hj : j < xs.length := by
      have := (List.getElem?_eq_some_iff.1 hu).1
      simpa using this
    rcases e0 with rfl | ⟨g, p, rfl⟩
    · simp at hj
    · have := hsl.cell j hj
      rw [Addr.add_lit]
      simp only [adr, blk, ofs] at this
      rw [this]
      simp [hj] at hu
      rw [← hu, nth_lt hj]
  · intro u hu
    obtain ⟨y, _, rfl⟩ := List.mem_map.1 hu
    rfl
  · intro v' w' h2 h3 _
    refine K v' w' (by simpa [Bld] using h2) ?_
    exact (Below.refl B w).grown h3 hB fun k hk => (hlt k hk).1
/-- The call returns a list of numbers of its own, to which more can be added. -/
def RetB (E : TypeId) (w : World) (xs : List Int) (e : Ending) (w' : World) : Prop := ∃ v, e = .returned v ∧ Below w.heap.size w w' ∧ Bld E w' w.heap.size v (xs.map (.int .i64))
theorem RetB.d {E : TypeId} {w : World} {xs : List Int} {e : Ending} {w' : World} (h : RetB E w xs e w') (hl : xs.length ≤ maxLen) : RetD w (dI xs) e w' := by
  obtain ⟨v, rfl, hb, hbl⟩ := h
  exact RetD.ofBld hbl hl hb
/-- A call that returns a list of its own, at a step of a region that draws its order. -/
theorem step_callB {P : Program} {ops : Array Oper} {o : Oper} {ac : Act} {w : World} {K : Act → World → Prop} {Q : Exit → Act → World → Prop} {X : Prop} (hgd : o.guard = none) (f : FuncId) (xs : Array Operand) (ts : Array TypeId)
    (ho : o.op = .call { callee := .value (.func f), args := xs, argTypes := ts }) (hrun : ∀ args w, (callFunc f args).run P w = .ok (.enter f args) w) (vs : Array Value) (hv : xs.map ac.eval = vs) {E : TypeId} (ys : List Int)
    (h : Calls P f vs w (RetB E w ys)) (hK : ∀ v w', Below w.heap.size w w' → Bld E w' w.heap.size v (ys.map (.int .i64)) → K (ac.put o.dst v) w') : if Region.wanted o (yielded ops ac.tmps) = true then Oper.wp P o ac w K Q else X := by
  have hw : Region.wanted o (yielded ops ac.tmps) = true := by simp [Region.wanted, hgd]
  rw [if_pos hw]
  unfold Oper.wp execOp
  simp only [ho, resolve, Act.eval, Deferred.ofValue, Sem.run_bind, Sem.run_pure, Result.andThen_ok, invoke, Array.append_empty]
  rw [show xs.map (Act.eval ac) = vs from hv]
  simp only [Array.empty_append, hrun, Oper.upon_enter]
  refine h.mono fun e w' ⟨v, he, h1, h2⟩ => ?_
  subst he
  exact hK v w' h1 h2
set_option maxHeartbeats 400000 in
theorem l00OwnB_c (S : Nat → Prop) (a : Option Addr) (c : Nat) (xs : List Int) (w : World) (hx : SlI S w a xs) (ha : ∃ ad, a = some ad) (l1 : xs.length < 4294967296) :
    Calls Try.prog 67 #[.slice a xs.length c] w (RetB 2 w xs) := by
  have hbl := Bld.empty 2 w w.heap.size (Nat.le_refl _)
  have hx' := hx.below (below_alloc w (.cells #[] 2))
  go_enter Try.func67, Try.ntmps67
  go_wp2_with (at_builtin; refine app_many rfl _ _ 24 rfl tabI rfl (by decide) w.heap.size _ [] rfl hbl S a c xs rfl hx' ha (by simpa using l1) (by simp) ?_)
  intro v' w1 hbl1 hb1
  replace hbl1 : Bld 2 w1 w.heap.size v' (xs.map (.int .i64)) := hbl1
  go_wp2
  go_ret
  exact ⟨v', rfl, (below_alloc _ _).trans hb1, hbl1⟩
set_option maxHeartbeats 400000 in
theorem l00Own_c (S : Nat → Prop) (a : Option Addr) (c : Nat) (xs : List Int) (w : World) (hx : SlI S w a xs) (ha : ∃ ad, a = some ad) (l1 : xs.length < 4294967296) :
    Calls Try.prog 67 #[.slice a xs.length c] w (RetD w (dI xs)) := by
  have hbl := Bld.empty 2 w w.heap.size (Nat.le_refl _)
  have hx' := hx.below (below_alloc w (.cells #[] 2))
  go_enter Try.func67, Try.ntmps67
  go_wp2_with (at_builtin; refine app_many rfl _ _ 24 rfl tabI rfl (by decide) w.heap.size _ [] rfl hbl S a c xs rfl hx' ha (by simpa using l1) (by simp) ?_)
  intro v' w1 hbl1 hb1
  replace hbl1 : Bld 2 w1 w.heap.size v' (xs.map (.int .i64)) := hbl1
  go_wp2
  go_ret
  exact RetD.ofBld hbl1 (by unfold maxLen; omega) ((below_alloc _ _).trans hb1)
set_option maxHeartbeats 400000 in
set_option maxRecDepth 100000 in
theorem clone_c (S : Nat → Prop) (ad : Addr) (c : Nat) (xs : List Int) (w : World) (hx : SlI S w (some ad) xs) (l1 : xs.length < 4294967296) :
    Calls Try.prog 49 #[.slice (some ad) xs.length c] w (RetD w (dI xs)) := by
  have hbl := Bld.empty 2 w w.heap.size (Nat.le_refl _)
  have hx' := hx.below (below_alloc w (.cells #[] 2))
  have heq := fun (w : World) => run_eql_some_nil (P := Try.prog) w ad xs.length c tabI.under
  go_enter Try.func49, Try.ntmps49
  go_wp2_with (at_builtin; refine app_many rfl _ _ 24 rfl tabI rfl (by decide) w.heap.size _ [] rfl hbl S (some ad) c xs rfl hx' ⟨ad, rfl⟩ (by simpa using l1) (by simp) ?_)
  intro v' w1 hbl1 hb1
  replace hbl1 : Bld 2 w1 w.heap.size v' (xs.map (.int .i64)) := hbl1
  go_wp2
  go_ret
  exact RetD.ofBld hbl1 (by unfold maxLen; omega) ((below_alloc _ _).trans hb1)
/-- The cell at gl holds a list of rows that is being built, in the blocks G. -/
structure Box (E : TypeId) (k : Nat) (w : World) (B gl : Nat) (n : Nat) (ds : List D) (G : List Nat) : Prop where
  free : w.frozen? ⟨gl, 0, none⟩ = false
  has : ∃ v, w.cell? ⟨gl, 0, none⟩ = some v ∧ Lst E k w B v n ds G
  out : gl ∉ G
theorem Box.lt {E : TypeId} {k : Nat} {w : World} {B gl n : Nat} {ds : List D} {G : List Nat} (h : Box E k w B gl n ds G) : gl < w.heap.size ∧ ∀ g, g ∈ G → B ≤ g ∧ g < w.heap.size := by
  obtain ⟨v, h1, h2⟩ := h.has
  exact ⟨World.block_lt_of_cell? w _ h1, h2.lt⟩
theorem Box.keep {E : TypeId} {k : Nat} {w w' : World} {B gl n : Nat} {ds : List D} {G F' : List Nat} (h : Box E k w B gl n ds G) (hc : Chg F' w w') (hd : gl ∉ F' ∧ ∀ g, g ∈ G → g ∉ F') : Box E k w' B gl n ds G := by
  obtain ⟨v, h1, h2⟩ := h.has
  have hl := h.lt.1
  exact ⟨by rw [hc.frozen hl hd.1]; exact h.free, ⟨v, by rw [hc.cell hl hd.1]; exact h1, h2.keep hc hd.2⟩, h.out⟩
/-- What adding a row does to the cell that holds the list. -/
def AddPost (E : TypeId) (k : Nat) (w : World) (B gl n : Nat) (ds rs : List D) (G : List Nat) (e : Ending) (w' : World) : Prop :=
  e = .returned (.bool (decide ((n : Int) + 1 ≤ 2000))) ∧ ∃ G', Box E k w' B gl (n + 1) (ds ++ rs) G' ∧ Chg (gl :: G) w w' ∧ ∀ g, g ∈ G' → g ∈ G ∨ w.heap.size ≤ g
theorem chg_set (w : World) (p : Addr) (v : Value) (F : List Nat) (h : p.block ∈ F) : Chg F w (w.setCell p v) := ((Exc.setCell w p v).wider (fun k hk => by simp at hk; subst hk; exact h)).chg
theorem ob_sub {E : TypeId} {k : Nat} {w : World} {B : Nat} {v : Value} {n : Nat} {ds : List D} {G : List Nat} (h : Lst E k w B v n ds G) : ∀ g, g ∈ ob v → g ∈ G := by
  obtain ⟨vs, F, _, _, _, _, _, rfl⟩ := h
  intro g hg; simp [hg]
end Go.Proofs.Ytkjmehpehopncaa

/- All bags of a size, all parts of a bag: the plain lists, and the functions that collect them. -/
namespace Go.Proofs.Ytkjmehpehopncaa
open Go.RowKit

/-- The first 2001 of what has been collected and of what is added. -/
def capA (L all : List (List Int)) : List (List Int) := (L ++ all).take 2001
theorem capA_len (L all : List (List Int)) : (capA L all).length ≤ 2001 := by simp [capA]; omega
theorem capA_nil {L : List (List Int)} (h : L.length ≤ 2001) : capA L [] = L := by simp [capA, List.take_of_length_le h]
theorem capA_capA (L a b : List (List Int)) : capA (capA L a) b = capA L (a ++ b) := by
  unfold capA
  rw [← List.append_assoc, List.take_append (l₁ := (L ++ a).take 2001), List.take_append (l₁ := L ++ a), List.take_take, Nat.min_self, List.length_take]
  congr 2
  omega
theorem capA_one {L : List (List Int)} (h : L.length ≤ 2000) (x : List Int) : capA L [x] = L ++ [x] := by
  unfold capA; rw [List.take_of_length_le]; simp; omega
theorem capA_le {L a b : List (List Int)} (h : (capA L (a ++ b)).length ≤ 2000) : (capA L a).length ≤ 2000 := by
  simp [capA] at h ⊢; omega
theorem capA_full {L a : List (List Int)} (b : List (List Int)) (h : ¬ (capA L a).length ≤ 2000) : capA L (a ++ b) = capA L a := by
  have h' : 2001 ≤ (L ++ a).length := by simp [capA] at h ⊢; omega
  unfold capA
  rw [← List.append_assoc, List.take_append_of_le_length h']
/-- All lists of r + 1 numbers with the sum l. -/
def ofSz : Nat → Nat → List (List Int)
  | 0, l => [[(l : Int)]]
  | r + 1, l => (List.range (l + 1)).flatMap fun n => (ofSz r (l - n)).map ((n : Int) :: ·)
theorem ofSz_len : ∀ (r l : Nat) (x : List Int), x ∈ ofSz r l → x.length = r + 1
  | 0, l, x, h => by simp [ofSz] at h; subst h; rfl
  | r + 1, l, x, h => by
    simp only [ofSz, List.mem_flatMap, List.mem_map] at h
    obtain ⟨n, _, y, hy, rfl⟩ := h
    simp [ofSz_len r _ y hy]
/-- The lists that begin with p and one of the first j numbers. -/
def ofSzTo (p : List Int) (r l j : Nat) : List (List Int) := (List.range j).flatMap fun n => (ofSz r (l - n)).map fun y => p ++ (n : Int) :: y
theorem ofSzTo_succ (p : List Int) (r l j : Nat) : ofSzTo p r l (j + 1) = ofSzTo p r l j ++ (ofSz r (l - j)).map fun y => p ++ (j : Int) :: y := by simp [ofSzTo, List.range_succ]
theorem ofSzTo_full (p : List Int) (r l : Nat) : ofSzTo p r l (l + 1) = (ofSz (r + 1) l).map (p ++ ·) := by
  simp [ofSzTo, ofSz, List.map_flatMap, List.map_map, Function.comp_def]
theorem ofSzTo_split (p : List Int) (r l : Nat) {j m : Nat} (h : j ≤ m) : ∃ rest, ofSzTo p r l m = ofSzTo p r l j ++ rest := by
  induction m with
  | zero => exact ⟨[], by rw [show j = 0 from by omega]; simp⟩
  | succ m ih =>
    by_cases e : j = m + 1
    · subst e; exact ⟨[], by simp⟩
    · obtain ⟨rest, e⟩ := ih (by omega)
      exact ⟨_, by rw [ofSzTo_succ, e, List.append_assoc]⟩
theorem take_set_succ {bs : List Int} {k : Nat} (hk : k < bs.length) (x : Int) : (bs.set k x).take (k + 1) = bs.take k ++ [x] := by
  rw [List.take_succ_eq_append_getElem (by simpa using hk), List.take_set, List.set_eq_of_length_le (by simp; omega)]
  simp
/-- All lists, if there are not too many. -/
def lim (all : List (List Int)) : List (List Int) × Int := if all.length ≤ 2000 then (all, 0) else ([], 3)
theorem lim_take (all : List (List Int)) : lim (all.take 2001) = lim all := by
  unfold lim
  rw [List.length_take]
  by_cases hq : all.length ≤ 2000
  · rw [if_pos (by omega), if_pos hq, List.take_of_length_le (by omega)]
  · rw [if_neg (by omega), if_neg hq]
def bagsOfSizeS (kinds size : Int) : List (List Int) × Int :=
  if inRg kinds 1 8 = true ∧ inRg size 0 1000 = true then lim (ofSz (kinds.toNat - 1) size.toNat) else ([], 2)
/-- All lists within a list, over the places from k on. -/
def partsS : List Int → List (List Int)
  | [] => [[]]
  | b :: bs => (List.range (b.toNat + 1)).flatMap fun (n : Nat) => (partsS bs).map ((n : Int) :: ·)
theorem partsS_len : ∀ (b : List Int) (x : List Int), x ∈ partsS b → x.length = b.length
  | [], x, h => by simp [partsS] at h; subst h; rfl
  | b :: bs, x, h => by
    simp only [partsS, List.mem_flatMap, List.mem_map] at h
    obtain ⟨n, _, y, hy, rfl⟩ := h
    simp [partsS_len bs y hy]
def partsTo (p : List Int) (bs : List Int) (j : Nat) : List (List Int) := (List.range j).flatMap fun (n : Nat) => (partsS bs).map fun y => p ++ (n : Int) :: y
theorem partsTo_succ (p : List Int) (bs : List Int) (j : Nat) : partsTo p bs (j + 1) = partsTo p bs j ++ (partsS bs).map fun y => p ++ (j : Int) :: y := by simp [partsTo, List.range_succ]
theorem partsTo_full (p : List Int) (b : Int) (bs : List Int) : partsTo p bs (b.toNat + 1) = (partsS (b :: bs)).map (p ++ ·) := by
  simp [partsTo, partsS, List.map_flatMap, List.map_map, Function.comp_def]
def partsOfS (b : List Int) : List (List Int) × Int := if isBagS b = true then lim (partsS b) else ([], 1)

theorem cntL_lists {m : Nat} : ∀ xss : List (List Int), (∀ x, x ∈ xss → x.length ≤ m) → cntL (xss.map dI) ≤ xss.length * m
  | [], _ => by simp [cntL]
  | x :: xss, h => by
    have h1 := h x (by simp)
    have h2 := cntL_lists xss (fun y hy => h y (by simp [hy]))
    simp only [List.map_cons, cntL, cnt_dI, List.length_cons, Nat.add_mul]
    omega
theorem lim_cnt {all : List (List Int)} {m : Nat} (hm : m ≤ 1000) (h : ∀ x, x ∈ all → x.length ≤ m) : cnt (dII (lim all).1) ≤ 16777216 := by
  unfold lim
  split
  · rename_i hq
    have := cntL_lists all h
    have h2 : all.length * m ≤ 2000 * 1000 := Nat.mul_le_mul hq hm
    show cntL (all.map dI) ≤ _
    omega
  · simp [dII, cnt, cntL]
theorem bagsOfSize_cnt (kinds size : Int) : cnt (dII (bagsOfSizeS kinds size).1) ≤ 16777216 := by
  unfold bagsOfSizeS
  split
  · rename_i h
    have b1 : 1 ≤ kinds ∧ kinds ≤ 8 := by simpa [inRg] using h.1
    exact lim_cnt (m := 8) (by omega) (fun x hx => by rw [ofSz_len _ _ x hx]; omega)
  · simp [dII, cnt, cntL]
theorem partsOf_cnt (b : List Int) : cnt (dII (partsOfS b).1) ≤ 16777216 := by
  unfold partsOfS
  split
  · rename_i h
    have := isBagS_len h
    exact lim_cnt (m := 8) (by omega) (fun x hx => by rw [partsS_len _ x hx]; omega)
  · simp [dII, cnt, cntL]
/-- A closure's state: the captured variables C, the numbers bs in block gb, the lists L that are being collected at gl. -/
structure Enm (w : World) (B : Nat) (C : List (Nat × Value)) (gb gl : Nat) (bs : List Int) (L : List (List Int)) (G : List Nat) (E : TypeId) : Prop where
  caps : ∀ p v, (p, v) ∈ C → w.cell? ⟨p, 0, none⟩ = some v ∧ p ≠ gb ∧ p ≠ gl ∧ p ∉ G
  cells : ∀ i, i < bs.length → w.cell? ⟨gb, i, none⟩ = some (.int .i64 (nth bs i))
  free : ∀ i, w.frozen? ⟨gb, i, none⟩ = false
  box : Box E 1 w B gl L.length (L.map dI) G
  ne : gb ≠ gl
  out : gb ∉ G
  lt : gb < w.heap.size
  base : B ≤ gb ∧ B ≤ gl ∧ B ≤ w.heap.size
theorem Enm.slI {w : World} {B : Nat} {C : List (Nat × Value)} {gb gl : Nat} {bs : List Int} {L : List (List Int)} {G : List Nat} {E : TypeId} (h : Enm w B C gb gl bs L G E) (hl : bs.length ≤ maxLen) : SlI Any w (some ⟨gb, 0, none⟩) bs :=
  ⟨hl, fun _ => ⟨trivial, gb, 0, rfl⟩, fun i hi => by have := h.cells i hi; simpa [adr, blk, ofs] using this⟩
/-- A number is stored. -/
theorem Enm.set {w : World} {B : Nat} {C : List (Nat × Value)} {gb gl : Nat} {bs : List Int} {L : List (List Int)} {G : List Nat} {E : TypeId} (h : Enm w B C gb gl bs L G E) {k : Nat} (hk : k < bs.length) (x : Int) :
    Enm (w.setCell ⟨gb, k, none⟩ (.int .i64 x)) B C gb gl (bs.set k x) L G E := by
  have hc := chg_set w ⟨gb, k, none⟩ (.int .i64 x) [gb] (by simp)
  have hs : w.heap.size = (w.setCell ⟨gb, k, none⟩ (.int .i64 x)).heap.size := (Exc.setCell w ⟨gb, k, none⟩ (.int .i64 x)).size.symm
  refine ⟨fun p v hp => ?_, fun i hi => ?_, fun i => by rw [World.frozen?_setCell]; exact h.free i, h.box.keep hc ⟨by simp; exact fun e => h.ne e.symm, fun g hg => by simp; rintro rfl; exact h.out hg⟩, h.ne, h.out, by rw [← hs]; exact h.lt, by rw [← hs]; exact h.base⟩
  · obtain ⟨h1, h2, h3, h4⟩ := h.caps p v hp
    exact ⟨by rw [World.cell?_setCell_other _ _ _ _ (by intro e; simp at e <;> omega)]; exact h1, h2, h3, h4⟩
  · simp at hi
    by_cases e : i = k
    · subst e
      rw [World.cell?_setCell_same _ _ _ (h.cells i hi)]
      simp [nth, hi]
    · rw [World.cell?_setCell_other _ _ _ _ (by intro e'; simp at e' <;> omega), h.cells i hi]
      simp [nth, Ne.symm e]
/-- The old blocks but those of the numbers and of the lists are as they were. -/
theorem Enm.chg {w w' : World} {B : Nat} {C : List (Nat × Value)} {gb gl : Nat} {bs : List Int} {L L' : List (List Int)} {G G' : List Nat} {E : TypeId} (h : Enm w B C gb gl bs L G E) (hc : Chg (gl :: G) w w') (hb : Box E 1 w' B gl L'.length (L'.map dI) G') (hm : ∀ g, g ∈ G' → g ∈ G ∨ w.heap.size ≤ g) :
    Enm w' B C gb gl bs L' G' E := by
  have n1 : gb ∉ gl :: G := by simp; exact ⟨h.ne, h.out⟩
  refine ⟨fun p v hp => ?_, fun i hi => by rw [hc.cell h.lt n1]; exact h.cells i hi, fun i => by rw [hc.frozen h.lt n1]; exact h.free i, hb, h.ne, fun hg => ?_, Nat.lt_of_lt_of_le h.lt hc.size, ⟨h.base.1, h.base.2.1, Nat.le_trans h.base.2.2 hc.size⟩⟩
  · obtain ⟨h1, h2, h3, h4⟩ := h.caps p v hp
    have hlt := World.block_lt_of_cell? w _ h1
    refine ⟨by rw [hc.cell hlt (by simp; exact ⟨h3, h4⟩)]; exact h1, h2, h3, fun hg => ?_⟩
    rcases hm p hg with hh | hh
    · exact h4 hh
    · simp at hlt; omega
  · rcases hm gb hg with hh | hh
    · exact h.out hh
    · have := h.lt; omega
/-- What a closure's call leaves: lists added, the numbers from place k on changed. -/
def EnmPost (w : World) (B : Nat) (C : List (Nat × Value)) (gb gl : Nat) (bs : List Int) (k : Nat) (L' : List (List Int)) (G : List Nat) (E : TypeId) (e : Ending) (w' : World) : Prop :=
  e = .returned (.bool (decide (L'.length ≤ 2000))) ∧ ∃ bs' G', Enm w' B C gb gl bs' L' G' E ∧ bs'.length = bs.length ∧ bs'.take k = bs.take k ∧ Chg (gb :: gl :: G) w w' ∧ ∀ g, g ∈ G' → g ∈ G ∨ w.heap.size ≤ g
theorem take_set_of_le {bs : List Int} {k : Nat} {x : Int} : (bs.set k x).take k = bs.take k := by
  rw [List.take_set, List.set_eq_of_length_le (by simp; omega)]
/-- The four cells that a function which lists lists begins with: at po what points to gl, where the lists are collected; at pb the numbers' slice, the numbers in gb. -/
def Init (w : World) (K : Nat) (s6 s7 : Value) (wx : World) : Prop :=
  ∃ po pb gl gb : Nat, s6 = .pointer (some ⟨po, 0, none⟩) ∧ s7 = .pointer (some ⟨pb, 0, none⟩) ∧ wx.cell? ⟨po, 0, none⟩ = some (.pointer (some ⟨gl, 0, none⟩)) ∧ wx.cell? ⟨pb, 0, none⟩ = some (.slice (some ⟨gb, 0, none⟩) K K) ∧ wx.cell? ⟨gl, 0, none⟩ = some (.slice none 0 0) ∧
    wx.frozen? ⟨gl, 0, none⟩ = false ∧ (∀ i, i < K → wx.cell? ⟨gb, i, none⟩ = some (.int .i64 0)) ∧ (∀ i, wx.frozen? ⟨gb, i, none⟩ = false) ∧ (w.heap.size ≤ po ∧ w.heap.size ≤ pb ∧ w.heap.size ≤ gl ∧ w.heap.size ≤ gb) ∧ (gb < wx.heap.size ∧ po ≠ pb ∧ po ≠ gl ∧ po ≠ gb ∧ pb ≠ gl ∧ pb ≠ gb ∧ gl ≠ gb) ∧ Below w.heap.size w wx
theorem Init.enm {wx : World} {K gl gb B : Nat} {C : List (Nat × Value)} {E : TypeId} (h1 : wx.cell? ⟨gl, 0, none⟩ = some (.slice none 0 0)) (h2 : wx.frozen? ⟨gl, 0, none⟩ = false) (h3 : ∀ i, i < K → wx.cell? ⟨gb, i, none⟩ = some (.int .i64 0)) (h4 : ∀ i, wx.frozen? ⟨gb, i, none⟩ = false)
    (h5 : gb < wx.heap.size) (h6 : gl ≠ gb) (h7 : B ≤ gb ∧ B ≤ gl ∧ B ≤ wx.heap.size) (hC : ∀ p v, (p, v) ∈ C → wx.cell? ⟨p, 0, none⟩ = some v ∧ p ≠ gb ∧ p ≠ gl) : Enm wx B C gb gl (List.replicate K 0) [] [] E :=
  ⟨fun p v hp => ⟨(hC p v hp).1, (hC p v hp).2.1, (hC p v hp).2.2, by simp⟩, fun i hi => by simp at hi; rw [h3 i hi]; simp [nth, hi], h4, ⟨h2, ⟨_, h1, Lst.nil _ _ _ _⟩, by simp⟩, fun e => h6 e.symm, by simp, h5, h7⟩

/- All bags of a size, all parts of a bag: the program's functions. -/
end Go.Proofs.Ytkjmehpehopncaa

/- All bags of a size: the reference's functions. -/
namespace Go.Proofs.Ytkjmehpehopncaa
open Go.RowKit

theorem capA_over {L : List (List Int)} (h : 2000 < L.length) (h2 : L.length ≤ 2001) (x : List (List Int)) : capA L x = L := by
  unfold capA; rw [List.take_append_of_le_length (by omega), List.take_of_length_le (by omega)]
theorem Bld.lower {E : TypeId} {w : World} {B B' : Nat} {v : Value} {vs : List Value} (h : Bld E w B v vs) (hB : B' ≤ B) : Bld E w B' v vs := by
  obtain ⟨h0, h2⟩ := h
  refine ⟨h0, ?_⟩
  rcases h2 with h2 | ⟨g, cap, cur, e, h1, h3⟩
  · exact .inl h2
  · exact .inr ⟨g, cap, cur, e, Nat.le_trans hB h1, h3⟩
theorem SlI.chg {w w' : World} {ad : Addr} {xs : List Int} {F : List Nat} (h : SlI Any w (some ad) xs) (hc : Chg F w w') (hn : ad.block ∉ F) : SlI Any w' (some ad) xs :=
  ⟨h.len, h.ptr, fun i hi => by
    have h1 := h.cell i hi
    have hlt := World.block_lt_of_cell? w _ h1
    simp only [adr, blk, ofs] at h1 hlt ⊢
    rw [hc.cell hlt hn]; exact h1⟩
/-- What a function that adds lists to those at gl leaves. -/
def OutPost (w : World) (B gl : Nat) (L' : List (List Int)) (G : List Nat) (E : TypeId) (e : Ending) (w' : World) : Prop :=
  e = .returned (.tuple #[]) ∧ ∃ G', Box E 1 w' B gl L'.length (L'.map dI) G' ∧ Chg (gl :: G) w w' ∧ ∀ g, g ∈ G' → g ∈ G ∨ w.heap.size ≤ g
/- All parts of a bag: the program's functions and the reference's. -/
theorem drop_nth {b : List Int} {k : Nat} (h : k < b.length) : b.drop k = nth b k :: b.drop (k + 1) := by
  rw [nth_lt h, List.drop_eq_getElem_cons h]
theorem partsTo_split (p bs : List Int) {j m : Nat} (h : j ≤ m) : ∃ rest, partsTo p bs m = partsTo p bs j ++ rest := by
  induction m with
  | zero => exact ⟨[], by rw [show j = 0 from by omega]; simp⟩
  | succ m ih =>
    by_cases e : j = m + 1
    · subst e; exact ⟨[], by simp⟩
    · obtain ⟨rest, e⟩ := ih (by omega)
      exact ⟨_, by rw [partsTo_succ, e, List.append_assoc]⟩
end Go.Proofs.Ytkjmehpehopncaa

/- All parts of a bag: the reference's function. -/
namespace Go.Proofs.Ytkjmehpehopncaa
open Go.RowKit

theorem run_app_nil {P : Program} {T E k bytes : Nat} {z : Value} {ty : TypeId} (tab : Tab P T E z k bytes) (w : World) (a : Option Addr) (n c c' : Nat) (hn : n ≤ c) :
    (Builtin.append_ #[T, T] ty #[.slice a n c, .slice none 0 c']).run P w = .ok (.slice a n c) w := by
  obtain ⟨i0, hi, hz0, hz1, hz2⟩ := info_parts tab.info
  have hu := tab.under
  cases a <;> simp [Builtin.append_, run_underlying hu, sizeOf, typeInfo, hi, Sem.run_bind, Builtin.lenOf, Builtin.firstCells, hn, storeCells]
theorem Bld.cap {E : Nat} {w : World} {B : Nat} {v : Value} {vs : List Value} (h : Bld E w B v vs) : ∃ a c, v = .slice a vs.length c ∧ vs.length ≤ c := by
  obtain ⟨_, h2⟩ := h
  rcases h2 with ⟨rfl, h0⟩ | ⟨g, cap, cur, rfl, hB, hg, hn, _⟩
  · have : vs = [] := by simpa using h0
    subst this
    exact ⟨none, 0, rfl, by simp⟩
  · exact ⟨_, cap, rfl, hn⟩
/-- 'append(v, xs...)' of numbers; xs may be nil. -/
theorem app_manyN {P : Program} {ops : Array Oper} {rest : List Oper} {o : Oper} {ac : Act} {Q : Exit → Act → World → Prop} {w : World} (hgd : o.guard = none) (s x : Operand) (T : TypeId)
    (ho : o.op = .call { callee := .builtin .append, args := #[s, x], argTypes := #[T, T] }) {E bytes : Nat} {z : Value} (tab : Tab P T E z 1 bytes) (hzs : z.cells.size = 1) (hby : bytes ≤ 1024)
    (B : Nat) (v : Value) (vs : List Value) (hs : ac.eval s = v) (hown : Bld E w B v vs) (S : Nat → Prop) (a : Option Addr) (c : Nat) (xs : List Int) (hx : ac.eval x = .slice a xs.length c) (hsl : SlI S w a xs) (hlen : vs.length + xs.length < 4294967296) (hB : B ≤ w.heap.size)
    (K : ∀ v' w', Bld E w' B v' (vs ++ xs.map (.int .i64)) → Below B w w' → wpList P ops Q rest (ac.put o.dst v') w') : wpList P ops Q (o :: rest) ac w := by
  cases a with
  | some ad => exact app_many hgd s x T ho tab hzs hby B v vs hs hown S (some ad) c xs hx hsl ⟨ad, rfl⟩ hlen hB K
  | none =>
    have hx0 : xs = [] := by
      cases xs with
      | nil => rfl
      | cons y ys => obtain ⟨g, p, e⟩ := (hsl.ptr (by simp)).2; cases e
    subst hx0
    obtain ⟨a', c', rfl, hc⟩ := hown.cap
    refine wpList_plain hgd fun _ hK => ?_
    have e := run_app_nil (P := P) (ty := o.type) tab w a' vs.length c' c hc
    unfold Oper.wp execOp
    simp only [ho, resolve, invoke, builtin, Sem.run_bind, Sem.run_pure, Result.andThen_ok, List.map_toArray, List.map_cons, List.map_nil, hs, hx]
    simp only [List.length_nil, e, Result.andThen_ok]
    exact hK _ _ (K _ w (by simpa using hown) (Below.refl _ _))
set_option maxHeartbeats 400000 in
theorem l00OwnN_c (S : Nat → Prop) (a : Option Addr) (c : Nat) (xs : List Int) (w : World) (hx : SlI S w a xs) (l1 : xs.length < 4294967296) :
    Calls Try.prog 67 #[.slice a xs.length c] w (RetB 2 w xs) := by
  have hbl := Bld.empty 2 w w.heap.size (Nat.le_refl _)
  have hx' := hx.below (below_alloc w (.cells #[] 2))
  go_enter Try.func67, Try.ntmps67
  go_wp2_with (at_builtin; refine app_manyN rfl _ _ 24 rfl tabI rfl (by decide) w.heap.size _ [] rfl hbl S a c xs rfl hx' (by simpa using l1) (by simp) ?_)
  intro v' w1 hbl1 hb1
  replace hbl1 : Bld 2 w1 w.heap.size v' (xs.map (.int .i64)) := hbl1
  go_wp2
  go_ret
  exact ⟨v', rfl, (below_alloc _ _).trans hb1, hbl1⟩
/-- The list of lists as what is read. -/
theorem Lst.slII {E : TypeId} {w : World} {B : Nat} {v : Value} {L : List (List Int)} {G : List Nat} (h : Lst E 1 w B v L.length (L.map dI) G) (hl : L.length ≤ maxLen) : ∃ a c, v = .slice a L.length c ∧ SlII Any w a L := by
  obtain ⟨_, a, c, rfl⟩ := h.val
  obtain ⟨G', ho, _, _⟩ := h.ow (by omega) hl
  exact ⟨a, c, rfl, Ow.argII ho⟩
/-- A list of one empty list. -/
theorem Lst.unit (E0 E : TypeId) (w : World) : Lst E 1 ((w.alloc (.cells #[] E0)).alloc (.cells #[.slice (some ⟨w.heap.size, 0, none⟩) 0 0] E)) w.heap.size (.slice (some ⟨w.heap.size + 1, 0, none⟩) 1 1) 1 [dI []] [w.heap.size + 1] := by
  refine ⟨[.slice (some ⟨w.heap.size, 0, none⟩) 0 0], [], ⟨by simp, .inr ⟨w.heap.size + 1, 1, #[.slice (some ⟨w.heap.size, 0, none⟩) 0 0], rfl, by omega, ?_, by omega, by simp [maxLen], by simp, by simp⟩⟩, ⟨[], [], Ow_empty _ _ _ _, rfl, rfl⟩, by simp, by simp, by simp, rfl⟩
  have := heap_alloc_new (w.alloc (.cells #[] E0)) (.cells #[.slice (some ⟨w.heap.size, 0, none⟩) 0 0] E)
  simpa using this

/-- A list with each of the first numbers behind it. -/
def extS (x : List Int) (n : Nat) : List (List Int) := (List.range n).map fun (n : Nat) => x ++ [(n : Int)]
theorem extS_succ (x : List Int) (n : Nat) : extS x (n + 1) = extS x n ++ [x ++ [(n : Int)]] := by simp [extS, List.range_succ]
theorem extS_len (x : List Int) (n : Nat) : (extS x n).length = n := by simp [extS]
def rowsTo (l : Nat) (L : List (List Int)) (k : Nat) : List (List Int) := (L.take k).flatMap fun x => extS x (l + 1)
theorem rowsTo_succ {l : Nat} {L : List (List Int)} {k : Nat} (h : k < L.length) : rowsTo l L (k + 1) = rowsTo l L k ++ extS (nthR L k) (l + 1) := by
  rw [rowsTo, List.take_succ_eq_append_getElem h, List.flatMap_append, nthR_lt h]; simp [rowsTo]
theorem rowsTo_len (l : Nat) (L : List (List Int)) : ∀ k, k ≤ L.length → (rowsTo l L k).length = k * (l + 1)
  | 0, _ => by simp [rowsTo]
  | k + 1, h => by rw [rowsTo_succ (by omega), List.length_append, rowsTo_len l L k (by omega), extS_len, Nat.add_mul]; omega
/-- All lists within the first i numbers of a list. -/
def lvTo (b : List Int) : Nat → List (List Int)
  | 0 => [[]]
  | i + 1 => (lvTo b i).flatMap fun x => extS x ((nth b i).toNat + 1)
theorem lvTo_succ (b : List Int) (i : Nat) : lvTo b (i + 1) = rowsTo (nth b i).toNat (lvTo b i) (lvTo b i).length := by simp [lvTo, rowsTo]
theorem lvTo_parts (b : List Int) : ∀ i, i ≤ b.length → partsS b = (lvTo b i).flatMap fun x => (partsS (b.drop i)).map (x ++ ·)
  | 0, _ => by simp [lvTo]
  | i + 1, h => by
    rw [lvTo_parts b i (by omega), show b.drop i = nth b i :: b.drop (i + 1) from by rw [nth_lt (by omega), List.drop_eq_getElem_cons (by omega)]]
    simp only [lvTo, partsS, extS, List.flatMap_assoc, List.map_flatMap, List.flatMap_map, List.map_map]
    congr 1; funext x; congr 1; funext n; congr 1; funext y; simp
theorem partsS_ne : ∀ bs : List Int, 1 ≤ (partsS bs).length
  | [] => by simp [partsS]
  | b :: bs => by
    have := partsS_ne bs
    simp only [partsS, List.range_succ_eq_map, List.flatMap_cons, List.length_append, List.length_map]
    omega
theorem flatMap_ge {α β : Type} (f : α → List β) (h : ∀ x, 1 ≤ (f x).length) : ∀ l : List α, l.length ≤ (l.flatMap f).length
  | [] => by simp
  | x :: l => by have := h x; have := flatMap_ge f h l; simp only [List.flatMap_cons, List.length_append, List.length_cons]; omega
theorem lvTo_le (b : List Int) {i : Nat} (h : i ≤ b.length) : (lvTo b i).length ≤ (partsS b).length := by
  rw [lvTo_parts b i h]
  exact flatMap_ge _ (fun x => by have := partsS_ne (b.drop i); simpa using this) _
theorem lvTo_mem (b : List Int) : ∀ (i : Nat) (x : List Int), x ∈ lvTo b i → x.length = i
  | 0, x, h => by simp [lvTo] at h; subst h; rfl
  | i + 1, x, h => by
    simp only [lvTo, extS, List.mem_flatMap, List.mem_map] at h
    obtain ⟨y, hy, n, _, rfl⟩ := h
    simp [lvTo_mem b i y hy]
theorem Lst.lower {E : TypeId} {k : Nat} {w : World} {B B' : Nat} {v : Value} {n : Nat} {ds : List D} {G : List Nat} (h : Lst E k w B v n ds G) (hB : B' ≤ B) : Lst E k w B' v n ds G := by
  obtain ⟨vs, F, ⟨h0, h1⟩, h2, h3, h4, h5, h6⟩ := h
  refine ⟨vs, F, ⟨h0, ?_⟩, h2, h3, fun g hg => Nat.le_trans hB (h4 g hg), h5, h6⟩
  rcases h1 with h1 | ⟨g, cap, cur, e, h7, h8⟩
  · exact .inl h1
  · exact .inr ⟨g, cap, cur, e, Nat.le_trans hB h7, h8⟩
theorem lvTo_full (b : List Int) : lvTo b b.length = partsS b := by
  rw [lvTo_parts b b.length (Nat.le_refl _), List.drop_length]
  simp [partsS]
end Go.Proofs.Ytkjmehpehopncaa
