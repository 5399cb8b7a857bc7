/- Data of whatever shape: how much there is of them; their marks, cell by cell. No program is in sight. -/
import Derived.Test.YtbnikblhnibgiaaDoorW
import Derived.Test.YtbnikblhnibgiaaDoorU
namespace Go.Proofs.YtbnikblhnibgiaaDoor
open Go.RowKit

mutual
/-- How many cells a datum's marks take. -/
def cnt : D → Nat
  | .i _ => 1
  | .b _ => 1
  | .s _ => 1
  | .l _ ds => cntL ds
def cntL : List D → Nat
  | [] => 0
  | d :: ds => cnt d + cntL ds
end
mutual
/-- The datum with its cells marked from m on. -/
def mkD : Int → D → D
  | m, .i _ => .i m
  | m, .b _ => .b (m % 3 == 0)
  | _, .s t => .s t
  | m, .l k ds => .l k (mkL m ds)
def mkL : Int → List D → List D
  | _, [] => []
  | m, d :: ds => mkD m d :: mkL (m + cnt d) ds
end
mutual
/-- How many cells a datum has behind its own. -/
def vol : D → Nat
  | .i _ => 0
  | .b _ => 0
  | .s _ => 0
  | .l _ ds => volL ds
def volL : List D → Nat
  | [] => 0
  | d :: ds => 1 + vol d + volL ds
end
mutual
theorem cnt_le : ∀ d : D, cnt d ≤ 1 + vol d
  | .i _ => by simp [cnt]
  | .b _ => by simp [cnt]
  | .s _ => by simp [cnt]
  | .l _ ds => by have := cntL_le ds; simp only [cnt, vol]; omega
theorem cntL_le : ∀ ds : List D, cntL ds ≤ volL ds
  | [] => by simp [cntL]
  | d :: ds => by have := cnt_le d; have := cntL_le ds; simp only [cntL, volL]; omega
end
theorem mkL_len : ∀ (ds : List D) (m : Int), (mkL m ds).length = ds.length
  | [], _ => rfl
  | d :: ds, m => by simp [mkL, mkL_len ds]
theorem cntL_app : ∀ (xs bs : List D), cntL (xs ++ bs) = cntL xs + cntL bs
  | [], _ => by simp [cntL]
  | a :: xs, bs => by simp only [List.cons_append, cntL, cntL_app xs bs]; omega
theorem volL_app : ∀ (xs bs : List D), volL (xs ++ bs) = volL xs + volL bs
  | [], _ => by simp [volL]
  | a :: xs, bs => by simp only [List.cons_append, volL, volL_app xs bs]; omega
theorem volL_len : ∀ ds : List D, ds.length ≤ volL ds
  | [] => by simp [volL]
  | d :: ds => by have := volL_len ds; simp only [List.length_cons, volL]; omega
theorem volL_at : ∀ (ds : List D) (q : Nat) (d : D), ds[q]? = some d → 1 + vol d ≤ volL ds
  | [], q, d, h => by simp at h
  | d0 :: ds, 0, d, h => by simp at h; subst h; simp only [volL]; omega
  | d0 :: ds, q + 1, d, h => by have := volL_at ds q d (by simpa using h); simp only [volL]; omega
theorem mkL_app : ∀ (xs bs : List D) (m : Int), mkL m (xs ++ bs) = mkL m xs ++ mkL (m + cntL xs) bs
  | [], bs, m => by simp [mkL, cntL]
  | a :: xs, bs, m => by
    simp only [List.cons_append, mkL, cntL, mkL_app xs bs]
    rw [show m + (cnt a : Int) + (cntL xs : Int) = m + ((cnt a + cntL xs : Nat) : Int) from by omega]
mutual
theorem cnt_mk : ∀ (d : D) (m : Int), cnt (mkD m d) = cnt d
  | .i _, _ => rfl
  | .b _, _ => rfl
  | .s _, _ => rfl
  | .l _ ds, m => by simp only [mkD, cnt, cntL_mk ds]
theorem cntL_mk : ∀ (ds : List D) (m : Int), cntL (mkL m ds) = cntL ds
  | [], _ => rfl
  | d :: ds, m => by simp only [mkL, cntL, cnt_mk d, cntL_mk ds]
end
theorem mkL_get : ∀ (ds : List D) (m : Int) (q : Nat) (d : D), ds[q]? = some d → (mkL m ds)[q]? = some (mkD (m + cntL (ds.take q)) d)
  | [], _, q, d, h => by simp at h
  | d0 :: ds, m, 0, d, h => by simp at h; subst h; simp [mkL, cntL]
  | d0 :: ds, m, q + 1, d, h => by
    simp only [mkL, List.getElem?_cons_succ, List.take_succ_cons, cntL]
    rw [mkL_get ds _ q d (by simpa using h)]
    congr 2; omega
theorem take_succ_get {ds : List D} {q : Nat} {d : D} (h : ds[q]? = some d) : ds.take (q + 1) = ds.take q ++ [d] := by
  obtain ⟨hq, e⟩ := List.getElem?_eq_some_iff.1 h
  rw [List.take_succ_eq_append_getElem hq, e]
theorem cntL_take {ds : List D} {q : Nat} {d : D} (h : ds[q]? = some d) : cntL (ds.take (q + 1)) = cntL (ds.take q) + cnt d := by
  rw [take_succ_get h, cntL_app]; simp [cntL]
theorem cntL_take_le (ds : List D) (q : Nat) : cntL (ds.take q) ≤ cntL ds := by
  have := cntL_app (ds.take q) (ds.drop q)
  rw [List.take_append_drop] at this; omega
theorem mk_ints (xs : List Int) (m : Int) : mkL m (xs.map .i) = (marks m xs.length).map .i := by
  apply List.ext_getElem?
  intro i
  have key : ∀ (ys : List Int) (m : Int), cntL (ys.map .i) = ys.length := by
    intro ys _
    induction ys with
    | nil => rfl
    | cons y ys ih => simp only [List.map_cons, cntL, ih, cnt, List.length_cons]; omega
  by_cases hi : i < xs.length
  · have h1 : (xs.map D.i)[i]? = some (.i xs[i]) := by simp [hi]
    rw [mkL_get _ m i _ h1]
    simp only [mkD, List.getElem?_map]
    rw [← List.map_take, key _ 0]
    simp [marks, hi]; omega
  · rw [List.getElem?_eq_none (by rw [mkL_len]; simp; omega), List.getElem?_eq_none (by simp [marks]; omega)]
theorem mk_dI (xs : List Int) (m : Int) : mkD m (dI xs) = dI (marks m xs.length) := by
  simp only [dI, mkD, mk_ints]
theorem cntL_ints (xs : List Int) : cntL (xs.map .i) = xs.length := by
  induction xs with
  | nil => rfl
  | cons y ys ih => simp only [List.map_cons, cntL, ih, cnt, List.length_cons]; omega
theorem cntL_bools (xs : List Bool) : cntL (xs.map .b) = xs.length := by
  induction xs with
  | nil => rfl
  | cons y ys ih => simp only [List.map_cons, cntL, ih, cnt, List.length_cons]; omega
theorem volL_ints (xs : List Int) : volL (xs.map .i) = xs.length := by
  induction xs with
  | nil => rfl
  | cons y ys ih => simp only [List.map_cons, volL, ih, vol, List.length_cons]; omega
theorem volL_bools (xs : List Bool) : volL (xs.map .b) = xs.length := by
  induction xs with
  | nil => rfl
  | cons y ys ih => simp only [List.map_cons, volL, ih, vol, List.length_cons]; omega
theorem cnt_dI (xs : List Int) : cnt (dI xs) = xs.length := cntL_ints xs
theorem cnt_dB (xs : List Bool) : cnt (dB xs) = xs.length := cntL_bools xs
theorem vol_dI (xs : List Int) : vol (dI xs) = xs.length := volL_ints xs
theorem vol_dB (xs : List Bool) : vol (dB xs) = xs.length := volL_bools xs

/-- The first q cells have been marked. -/
def part (m : Int) (ds : List D) (q : Nat) : List D := mkL m (ds.take q) ++ ds.drop q
theorem part_zero (m : Int) (ds : List D) : part m ds 0 = ds := by simp [part, mkL]
theorem part_full (m : Int) (ds : List D) : part m ds ds.length = mkL m ds := by simp [part]
theorem part_len (m : Int) (ds : List D) (q : Nat) (h : q ≤ ds.length) : (part m ds q).length = ds.length := by simp [part, mkL_len]; omega
theorem part_at {m : Int} {ds : List D} {q : Nat} {d : D} (h : ds[q]? = some d) : (part m ds q)[q]? = some d := by
  have hq := (List.getElem?_eq_some_iff.1 h).1
  unfold part
  rw [List.getElem?_append_right (by rw [mkL_len]; simp; omega), mkL_len, List.length_take, Nat.min_eq_left (by omega), Nat.sub_self, List.getElem?_drop, Nat.add_zero, h]
theorem part_succ {m : Int} {ds : List D} {q : Nat} {d : D} (h : ds[q]? = some d) : (part m ds q).set q (mkD (m + cntL (ds.take q)) d) = part m ds (q + 1) := by
  have hq := (List.getElem?_eq_some_iff.1 h).1
  have hl : (mkL m (ds.take q)).length = q := by rw [mkL_len]; simp; omega
  unfold part
  rw [take_succ_get h, mkL_app, List.append_assoc]
  rw [show (mkL m (ds.take q) ++ ds.drop q).set q (mkD (m + cntL (ds.take q)) d) = mkL m (ds.take q) ++ (ds.drop q).set 0 (mkD (m + cntL (ds.take q)) d) from by
    rw [List.set_append_right _ _ (by omega), hl, Nat.sub_self]]
  congr 1
  obtain ⟨_, e⟩ := List.getElem?_eq_some_iff.1 h
  rw [List.drop_eq_getElem_cons hq, e]
  simp [mkL]

/-- A cell of an owned row. -/
theorem OwL.at {w : World} : ∀ (ds : List D) (g o : Nat) (F : List Nat), OwL w ds g o F → g ∉ F → F.Nodup → ∀ (q : Nat) (d : D), ds[q]? = some d →
    ∃ v Fk, w.cell? ⟨g, o + q, none⟩ = some v ∧ w.frozen? ⟨g, o + q, none⟩ = false ∧ Ow w d v Fk ∧ Fk.Nodup ∧ (∀ x, x ∈ Fk → x ∈ F) ∧
      ∀ (w' : World) (d' : D), Exc Fk w w' → Ow w' d' v Fk → OwL w' (ds.set q d') g o F
  | [], _, _, _, _, _, _, q, d, h => by simp at h
  | d0 :: ds, g, o, F, r, hg, hn, q, d, h => by
    obtain ⟨v, F1, F2, hc, hf, hd, hr, hF⟩ := r
    subst hF
    have hn' := List.nodup_append.1 hn
    have hg1 : g ∉ F1 := fun e => hg (List.mem_append_left _ e)
    have hg2 : g ∉ F2 := fun e => hg (List.mem_append_right _ e)
    cases q with
    | zero =>
      simp at h; subst h
      refine ⟨v, F1, by simpa using hc, by simpa using hf, hd, hn'.1, fun x hx => List.mem_append_left _ hx, fun w' d' he ho => ?_⟩
      have hb := he.block g hg1
      refine ⟨v, F1, F2, by rw [World.cell?_of_block (w := w) hb]; exact hc, by rw [World.frozen?_of_block (w := w) hb]; exact hf, ho, ?_, rfl⟩
      exact OwL.stable ds g (o + 1) F2 hb (fun k hk => he.block k fun hk' => hn'.2.2 k hk' k hk rfl) hr
    | succ q =>
      obtain ⟨u, Fk, h1, h2, h3, h4, h5, h6⟩ := OwL.at ds g (o + 1) F2 hr hg2 hn'.2.1 q d (by simpa using h)
      rw [show o + 1 + q = o + (q + 1) from by omega] at h1 h2
      refine ⟨u, Fk, h1, h2, h3, h4, fun x hx => List.mem_append_right _ (h5 x hx), fun w' d' he ho => ?_⟩
      have hb := he.block g (fun e => hg2 (h5 g e))
      refine ⟨v, F1, F2, by rw [World.cell?_of_block (w := w) hb]; exact hc, by rw [World.frozen?_of_block (w := w) hb]; exact hf, ?_, h6 w' d' he ho, rfl⟩
      exact Ow.stable d0 v F1 (fun k hk => he.block k fun hk' => hn'.2.2 k hk k (h5 k hk') rfl) hd
theorem OwL.put {w : World} {u : Value} {d' : D} : ∀ (ds : List D) (g o : Nat) (F : List Nat), OwL w ds g o F → g ∉ F → ∀ (q : Nat) (d : D), ds[q]? = some d → (∀ w v F, Ow w d v F → F = []) → (∀ w, Ow w d' u []) →
    OwL (w.setCell ⟨g, o + q, none⟩ u) (ds.set q d') g o F
  | [], _, _, _, _, _, q, d, h, _, _ => by simp at h
  | d0 :: ds, g, o, F, r, hg, q, d, h, hs, hu => by
    obtain ⟨v, F1, F2, hc, hf, hd, hr, hF⟩ := r
    subst hF
    have hg1 : g ∉ F1 := fun e => hg (List.mem_append_left _ e)
    have hg2 : g ∉ F2 := fun e => hg (List.mem_append_right _ e)
    cases q with
    | zero =>
      simp at h; subst h
      have := hs _ _ _ hd
      subst this
      refine ⟨u, [], F2, by rw [Nat.add_zero]; exact World.cell?_setCell_same w _ _ hc, by rw [World.frozen?_setCell]; exact hf, hu _, ?_, rfl⟩
      have key : ∀ (ds : List D) (p : Nat) (F : List Nat), OwL w ds g p F → g ∉ F → o < p → OwL (w.setCell ⟨g, o + 0, none⟩ u) ds g p F := by
        intro ds
        induction ds with
        | nil => intro p F r _ _; exact r
        | cons d1 ds ih =>
          intro p F r hg hp
          obtain ⟨v, F1, F2, hc, hf, hd, hr, hF⟩ := r
          subst hF
          refine ⟨v, F1, F2, ?_, by rw [World.frozen?_setCell]; exact hf, Ow.setCell hd (fun e => hg (List.mem_append_left _ e)) u, ih (p + 1) F2 hr (fun e => hg (List.mem_append_right _ e)) (by omega), rfl⟩
          rw [World.cell?_setCell_other _ _ _ _ (by intro e; simp at e <;> omega)]; exact hc
      exact key ds (o + 1) F2 hr hg2 (by omega)
    | succ q =>
      have := OwL.put ds g (o + 1) F2 hr hg2 q d (by simpa using h) hs hu
      rw [show o + 1 + q = o + (q + 1) from by omega] at this
      refine ⟨v, F1, F2, ?_, by rw [World.frozen?_setCell]; exact hf, Ow.setCell hd hg1 u, this, rfl⟩
      rw [World.cell?_setCell_other _ _ _ _ (by intro e; simp at e)]; exact hc

/-- Behind q marks of a row. -/
structure Mks (w wr : World) (a : Option Addr) (ds : List D) (F G : List Nat) (m K : Int) (q : Nat) : Prop where
  num : K = m + cntL (ds.take q)
  foot : (ds = [] ∧ G = []) ∨ (ds ≠ [] ∧ G = blk a :: F)
  exc : Exc G w wr
  own : OwL wr (part m ds q) (blk a) (ofs a) F
  out : blk a ∉ F
  nodup : F.Nodup
theorem Mks.le {w wr : World} {a : Option Addr} {ds : List D} {F G : List Nat} {m K : Int} {q : Nat} (h : Mks w wr a ds F G m K q) : m ≤ K ∧ K ≤ m + cntL ds := by
  have := h.num; have := cntL_take_le ds q; omega
theorem Mks.has {w wr : World} {a : Option Addr} {ds : List D} {F G : List Nat} {m K : Int} {q : Nat} (h : Mks w wr a ds F G m K q) {q' : Nat} {d : D} (hd : ds[q']? = some d) : G = blk a :: F := by
  rcases h.foot with ⟨rfl, _⟩ | ⟨_, h⟩
  · simp at hd
  · exact h
/-- The cell that is marked next: a number or a bool. -/
theorem Mks.cell {w wr : World} {a : Option Addr} {ds : List D} {F G : List Nat} {m K : Int} {q : Nat} (h : Mks w wr a ds F G m K q) {d : D} (hd : ds[q]? = some d) : (∃ v, wr.cell? (adr a q) = some v) ∧ wr.frozen? (adr a q) = false := by
  obtain ⟨v, Fk, h1, h2, _⟩ := OwL.at _ _ _ _ h.own h.out h.nodup q d (part_at hd)
  exact ⟨⟨v, h1⟩, h2⟩
theorem part_from {m : Int} {ds : List D} {q q' : Nat} (hq : q ≤ q') {d : D} (h : ds[q']? = some d) : (part m ds q)[q']? = some d := by
  have hl := (List.getElem?_eq_some_iff.1 h).1
  unfold part
  rw [List.getElem?_append_right (by rw [mkL_len]; simp; omega), mkL_len, List.length_take, Nat.min_eq_left (by omega), List.getElem?_drop, show q + (q' - q) = q' from by omega, h]
/-- A cell that is marked later. -/
theorem Mks.celln {w wr : World} {a : Option Addr} {ds : List D} {F G : List Nat} {m K : Int} {q : Nat} (h : Mks w wr a ds F G m K q) {q' : Nat} (hq : q ≤ q') {d : D} (hd : ds[q']? = some d) : (∃ v, wr.cell? (adr a q') = some v) ∧ wr.frozen? (adr a q') = false := by
  obtain ⟨v, Fk, h1, h2, _⟩ := OwL.at _ _ _ _ h.own h.out h.nodup q' d (part_from hq hd)
  exact ⟨⟨v, h1⟩, h2⟩
theorem Mks.int {w wr : World} {a : Option Addr} {ds : List D} {F G : List Nat} {m K : Int} {q : Nat} (h : Mks w wr a ds F G m K q) {x : Int} (hd : ds[q]? = some (.i x)) : Mks w (wr.setCell (adr a q) (.int .i64 K)) a ds F G m (K + 1) (q + 1) := by
  refine ⟨by rw [cntL_take hd, h.num]; simp [cnt]; omega, h.foot, h.exc.trans ((Exc.setCell wr (adr a q) _).wider (by intro x hx; simp at hx; subst hx; rw [h.has hd]; simp [adr])), ?_, h.out, h.nodup⟩
  rw [← part_succ hd]
  have := OwL.put (u := .int .i64 K) (d' := .i K) _ _ _ _ h.own h.out q _ (part_at hd) (fun _ _ _ r => r.2) (fun _ => ⟨rfl, rfl⟩)
  rw [show mkD (m + cntL (ds.take q)) (.i x) = .i K from by rw [h.num]; rfl]
  exact this
theorem Mks.bool {w wr : World} {a : Option Addr} {ds : List D} {F G : List Nat} {m K : Int} {q : Nat} (h : Mks w wr a ds F G m K q) {x : Bool} (hd : ds[q]? = some (.b x)) : Mks w (wr.setCell (adr a q) (.bool (K % 3 == 0))) a ds F G m (K + 1) (q + 1) := by
  refine ⟨by rw [cntL_take hd, h.num]; simp [cnt]; omega, h.foot, h.exc.trans ((Exc.setCell wr (adr a q) _).wider (by intro x hx; simp at hx; subst hx; rw [h.has hd]; simp [adr])), ?_, h.out, h.nodup⟩
  rw [← part_succ hd]
  have := OwL.put (u := .bool (K % 3 == 0)) (d' := .b (K % 3 == 0)) _ _ _ _ h.own h.out q _ (part_at hd) (fun _ _ _ r => r.2) (fun _ => ⟨rfl, rfl⟩)
  rw [show mkD (m + cntL (ds.take q)) (.b x) = .b (K % 3 == 0) from by rw [h.num]; rfl]
  exact this
/-- The call has marked a datum from m on. -/
def RetMk (w : World) (F : List Nat) (m : Int) (d : D) (v : Value) (e : Ending) (w' : World) : Prop := e = .returned (.int .i64 (m + cnt d)) ∧ Exc F w w' ∧ Ow w' (mkD m d) v F
/-- The cell that is marked next: a list. -/
theorem Mks.list {w wr : World} {a : Option Addr} {ds : List D} {F G : List Nat} {m K : Int} {q : Nat} (h : Mks w wr a ds F G m K q) {d : D} (hd : ds[q]? = some d) :
    ∃ v Fk, wr.cell? (adr a q) = some v ∧ Ow wr d v Fk ∧ Fk.Nodup ∧ Hid (∀ w', Exc Fk wr w' → Ow w' (mkD K d) v Fk → Mks w w' a ds F G m (K + cnt d) (q + 1)) := by
  obtain ⟨v, Fk, h1, h2, h3, h4, h5, h6⟩ := OwL.at _ _ _ _ h.own h.out h.nodup q d (part_at hd)
  refine ⟨v, Fk, h1, h3, h4, Lib.hid fun w' he ho => ⟨by rw [cntL_take hd, h.num]; omega, h.foot, h.exc.trans (he.wider fun k hk => by rw [h.has hd]; exact List.mem_cons_of_mem _ (h5 k hk)), ?_, h.out, h.nodup⟩⟩
  rw [← part_succ hd]
  rw [h.num] at ho
  exact h6 w' _ he ho
theorem Ow.mks {w : World} {k n : Nat} {ds : List D} {v : Value} {F : List Nat} (h : Ow w (.l k ds) v F) (hnd : F.Nodup) (hn : ds.length = n * k) (hk : 0 < k) :
    ∃ a c F', v = .slice a n c ∧ n ≤ maxLen ∧ (0 < n → ∃ g o, a = some ⟨g, o, none⟩) ∧ n ≤ c ∧ ∀ m, Mks w w a ds F' F m m 0 := by
  obtain ⟨a, n', c, hv, hl, hm, hp⟩ := h
  have e : n' = n := Nat.eq_of_mul_eq_mul_right hk (hl.symm.trans hn)
  subst e
  rcases hp with ⟨rfl, rfl⟩ | ⟨g, o, F', rfl, ⟨hne, hcp⟩, rfl, hr⟩
  · have h0 : n' = 0 := by
      rcases Nat.mul_eq_zero.1 hl.symm with h | h
      · exact h
      · omega
    subst h0
    exact ⟨a, c, [], hv, hm, fun h => absurd h (by omega), by omega, fun m => ⟨by simp [cntL], .inl ⟨rfl, rfl⟩, Exc.refl _ _, rfl, by simp, by simp⟩⟩
  · obtain ⟨h1, h2⟩ := List.nodup_cons.1 hnd
    exact ⟨_, c, F', hv, hm, fun _ => ⟨g, o, rfl⟩, hcp, fun m => ⟨by simp [cntL], .inr ⟨hne, rfl⟩, Exc.refl _ _, by rw [part_zero]; exact hr, h1, h2⟩⟩
theorem Mks.done {w wr : World} {a : Option Addr} {k n c : Nat} {ds : List D} {F G : List Nat} {m K : Int} (h : Mks w wr a ds F G m K ds.length) (ha : 0 < n → ∃ g o, a = some ⟨g, o, none⟩) (hm : n ≤ maxLen) (hl : ds.length = n * k) (hcp : n ≤ c) :
    RetMk w G m (.l k ds) (.slice a n c) (.returned (.int .i64 K)) wr := by
  refine ⟨by rw [h.num, List.take_length]; rfl, h.exc, ?_⟩
  rcases h.foot with ⟨rfl, rfl⟩ | ⟨hne, rfl⟩
  · exact ⟨_, n, c, rfl, by simpa [mkL] using hl, hm, .inl ⟨rfl, rfl⟩⟩
  · have h0 : 0 < n := Nat.pos_of_ne_zero fun e => hne (List.eq_nil_of_length_eq_zero (by rw [hl, e, Nat.zero_mul]))
    obtain ⟨g, o, rfl⟩ := ha h0
    refine ⟨_, n, c, rfl, by rw [mkL_len]; exact hl, hm, .inr ⟨g, o, F, rfl, ⟨fun e => hne ?_, hcp⟩, rfl, ?_⟩⟩
    · have := congrArg List.length e
      rw [mkL_len] at this
      exact List.eq_nil_of_length_eq_zero this
    · have := h.own
      rw [part_full] at this
      exact this

/-- A list's cells, wherever the old memory is left alone. -/
theorem Rd.row {S : Nat → Prop} {w : World} {k n : Nat} {ds : List D} {v : Value} (h : Rd S w (.l k ds) v) (hn : ds.length = n * k) (hk : 0 < k) :
    ∃ a c, v = .slice a n c ∧ n ≤ maxLen ∧ (0 < n → ∃ g o, a = some ⟨g, o, none⟩) ∧ Hid (∀ wr, Below w.heap.size w wr → ∀ q d, ds[q]? = some d → ∃ u, wr.cell? (adr a q) = some u ∧ Rd S wr d u) := by
  have h' := h
  obtain ⟨a, n', c, rfl, hl, hm, hp, hr⟩ := h
  have e : n' = n := Nat.eq_of_mul_eq_mul_right hk (hl.symm.trans hn)
  subst e
  refine ⟨a, c, rfl, hm, fun h0 => ?_, Lib.hid fun wr hb q d hd => ?_⟩
  · rcases hp with hp | hp
    · subst hp
      have : 0 < n' * k := Nat.mul_pos h0 hk
      simp at hl; omega
    · exact hp.2
  · obtain ⟨a2, n2, c2, e2, _, _, _, hr2⟩ := h'.below hb
    cases e2
    exact RdL.get _ _ _ hr2 q d hd
theorem Rd.any {S : Nat → Prop} {w : World} {d : D} {v : Value} (h : Rd S w d v) : Rd Any w d v := Rd.wider (fun _ _ _ => trivial) d v h
theorem Ow.rdA {w : World} {d : D} {v : Value} {F : List Nat} (h : Ow w d v F) : Rd Any w d v := (Ow.rd d v F h).any
theorem Fit.rows {es : List Sh} {d : D} {k : Nat} (hk : es.length = k) (h : Fit (.l es) d) : ∃ ds, d = .l k ds ∧ ∃ n, ds.length = n * k ∧ Hid (∀ i, i < n → ∀ j e, es[j]? = some e → ∃ x, ds[i * k + j]? = some x ∧ Fit e x) := by
  subst hk
  obtain ⟨rows, rfl, hr⟩ := h
  have hlen : ∀ r, r ∈ rows → r.length = es.length := fun r h => FitL.len _ _ (hr r h)
  refine ⟨_, rfl, rows.length, flatten_len rows hlen, Lib.hid fun i hi j e he => ?_⟩
  have hj := (List.getElem?_eq_some_iff.1 he).1
  have hget : ∀ (es : List Sh) (ds : List D), FitL es ds → ∀ (j : Nat) (e : Sh), es[j]? = some e → ∃ x, ds[j]? = some x ∧ Fit e x := by
    intro es
    induction es with
    | nil => intro ds _ j e h; simp at h
    | cons e0 es ih =>
      intro ds h j e he
      obtain ⟨d, r, rfl, hd, hr⟩ := h
      cases j with
      | zero => simp at he; subst he; exact ⟨d, rfl, hd⟩
      | succ j => simpa using ih r hr j e (by simpa using he)
  obtain ⟨x, h1, h2⟩ := hget es rows[i] (hr _ (List.getElem_mem hi)) j e he
  refine ⟨x, ?_, h2⟩
  rw [flatten_get rows hlen i j hj, List.getElem?_eq_getElem hi]
  exact h1
theorem Fit.sliceR {es : List Sh} {d : D} {S : Nat → Prop} {w : World} {v : Value} (h : Fit (.l es) d) (r : Rd S w d v) : ∃ a n c, v = .slice a n c := by
  obtain ⟨rows, rfl, _⟩ := h
  obtain ⟨a, n, c, hv, _⟩ := r
  exact ⟨a, n, c, hv⟩
theorem Fit.sliceM {es : List Sh} {d : D} {S : Nat → Prop} {w : World} {v : Value} {m : Int} (h : Fit (.l es) d) (r : Rd S w (mkD m d) v) : ∃ a n c, v = .slice a n c := by
  obtain ⟨rows, rfl, _⟩ := h
  rw [mkD] at r
  obtain ⟨a, n, c, hv, _⟩ := r
  exact ⟨a, n, c, hv⟩
theorem Fit.sliceO {es : List Sh} {d : D} {w : World} {v : Value} {F : List Nat} (h : Fit (.l es) d) (r : Ow w d v F) : ∃ a n c, v = .slice a n c := by
  obtain ⟨rows, rfl, _⟩ := h
  obtain ⟨a, n, c, hv, _⟩ := r
  exact ⟨a, n, c, hv⟩
/-- How much the elements have, their own cells left out. -/
def svol (ds : List D) : Nat := volL ds - ds.length
theorem volL_svol (ds : List D) : volL ds = ds.length + svol ds := by have := volL_len ds; unfold svol; omega
theorem svol_take {ds : List D} {q : Nat} {d : D} (h : ds[q]? = some d) : svol (ds.take (q + 1)) = svol (ds.take q) + vol d := by
  have h1 := volL_svol (ds.take (q + 1))
  have h2 := volL_svol (ds.take q)
  rw [take_succ_get h, volL_app] at h1
  have h3 : volL [d] = 1 + vol d := by simp [volL]
  rw [take_succ_get h]
  simp only [List.length_append, List.length_cons, List.length_nil] at h1 ⊢
  omega
theorem svol_zero : ∀ ds : List D, (∀ (q : Nat) (d : D), ds[q]? = some d → vol d = 0) → svol ds = 0
  | [], _ => by simp [svol, volL]
  | d :: ds, h => by
    have h0 := h 0 d (by simp)
    have := svol_zero ds (fun q d hd => h (q + 1) d (by simpa using hd))
    have h1 := volL_svol ds
    have h2 := volL_svol (d :: ds)
    simp only [volL, List.length_cons] at h2
    omega
theorem cntL_at : ∀ (ds : List D) (q : Nat) (d : D), ds[q]? = some d → cnt d ≤ cntL ds
  | [], q, d, h => by simp at h
  | d0 :: ds, 0, d, h => by simp at h; subst h; simp only [cntL]; omega
  | d0 :: ds, q + 1, d, h => by have := cntL_at ds q d (by simpa using h); simp only [cntL]; omega
theorem owA_len {w : World} : ∀ (ds : List D) (vs : List Value) (F : List Nat), OwA w ds vs F → vs.length = ds.length
  | [], [], _, _ => rfl
  | _ :: ds, _ :: vs, _, h => by obtain ⟨F1, F2, _, h2, _⟩ := h; simp [owA_len ds vs F2 h2]
  | [], _ :: _, _, h => h.elim
  | _ :: _, [], _, h => h.elim
/-- What is left of left by the law's measure; if that isn't below 0, what there is is not much. -/
def RetSv (w : World) (left : Int) (V : Nat) (e : Ending) (w' : World) : Prop := ∃ L : Int, e = .returned (.int .i64 L) ∧ Below w.heap.size w w' ∧ -1 ≤ L ∧ L ≤ left ∧ (0 ≤ L → (V : Int) + 16 * L ≤ 16 * left)
theorem excell {F : List Nat} {w w' : World} (h : Exc F w w') {b : Nat} (hb : b ∉ F) (i : Nat) : w'.cell? ⟨b, i, none⟩ = w.cell? ⟨b, i, none⟩ := World.cell?_of_block (w := w) (h.block b hb)
theorem take_full {α : Type} {ds : List α} {q : Nat} (h : ds.length = q) : ds.take q = ds := by rw [← h, List.take_length]
/-- Only old blocks in F have changed. -/
structure Chg (F : List Nat) (w w' : World) : Prop where
  os : w'.os = w.os
  tape : w'.tape = w.tape
  output : w'.output = w.output
  size : w.heap.size ≤ w'.heap.size
  block : ∀ k, k < w.heap.size → k ∉ F → w'.heap[k]? = w.heap[k]?
theorem Exc.chg {F : List Nat} {w w' : World} (h : Exc F w w') : Chg F w w' := ⟨h.os, h.tape, h.output, Nat.le_of_eq h.size.symm, fun k _ hk => h.block k hk⟩
theorem Chg.trans {F : List Nat} {w w1 w2 : World} (h : Chg F w w1) (h2 : Chg F w1 w2) : Chg F w w2 :=
  ⟨h2.os.trans h.os, h2.tape.trans h.tape, h2.output.trans h.output, Nat.le_trans h.size h2.size, fun k hk hF => (h2.block k (Nat.lt_of_lt_of_le hk h.size) hF).trans (h.block k hk hF)⟩
theorem Chg.wider {F G : List Nat} {w w1 : World} (h : Chg F w w1) (hs : ∀ k, k ∈ F → k ∈ G) : Chg G w w1 := ⟨h.os, h.tape, h.output, h.size, fun k hk hG => h.block k hk fun h' => hG (hs k h')⟩
theorem Chg.ofBelow {F : List Nat} {w w1 : World} (h : Below w.heap.size w w1) : Chg F w w1 := ⟨h.os, h.tape, h.output, h.size, fun k hk _ => h.block k hk⟩
theorem Chg.below {F : List Nat} {w w' : World} {B : Nat} (h : Chg F w w') (hB : B ≤ w.heap.size) (hF : ∀ g, g ∈ F → B ≤ g) : Below B w w' :=
  ⟨h.os, h.tape, h.output, h.size, fun k hk => h.block k (Nat.lt_of_lt_of_le hk hB) fun hh => by have := hF k hh; omega⟩
theorem Chg.ow {F G : List Nat} {w w' : World} {d : D} {v : Value} (h : Chg F w w') (ho : Ow w d v G) (hd : ∀ g, g ∈ G → g ∉ F) : Ow w' d v G := Ow.stable d v G (fun k hk => h.block k (Ow.lt d v G ho k hk) (hd k hk)) ho
/-- The cells of a new row are stored one by one. -/
def setRow (w : World) (g q : Nat) : List Value → World
  | [] => w
  | v :: vs => setRow (w.setCell ⟨g, q, none⟩ v) g (q + 1) vs
theorem Fil.put {w wr : World} {g n : Nat} {ds : List D} {F : List Nat} {d : D} {v : Value} {F' : List Nat} (hc : Fil w wr g n ds F) (ho : Ow wr d v F') (hn : F'.Nodup) (hg' : g ∉ F') (hd : ∀ x, x ∈ F → x ∉ F') (hl : ∀ x, x ∈ F' → w.heap.size ≤ x) (hk : ds.length < n) :
    Fil w (wr.setCell ⟨g, ds.length, none⟩ v) g n (ds ++ [d]) (F ++ F') := by
  obtain ⟨u, hu⟩ := hc.has _ hk
  refine ⟨hc.below.setCell hc.base _, hc.base, by rw [show (wr.setCell ⟨g, ds.length, none⟩ v).heap.size = wr.heap.size from (Exc.setCell wr ⟨g, ds.length, none⟩ v).size]; exact hc.lt, ?_, ?_, ?_, ?_, fun i hi => ?_, fun i => by rw [World.frozen?_setCell]; exact hc.free i⟩
  · exact OwL.snoc ds g 0 F (OwL.setCell ds g 0 F hc.own hc.out _ _ (by omega)) (by rw [Nat.zero_add]; exact World.cell?_setCell_same wr _ _ hu) (by rw [World.frozen?_setCell]; exact hc.free _) (Ow.setCell ho hg' v)
  · intro e; rcases List.mem_append.1 e with e | e
    · exact hc.out e
    · exact hg' e
  · refine List.nodup_append.2 ⟨hc.nodup, hn, fun a ha b hb' e => ?_⟩
    subst e
    exact hd a ha hb'
  · intro x hx; rcases List.mem_append.1 hx with hx | hx
    · exact hc.fresh x hx
    · exact hl x hx
  · by_cases e : i = ds.length
    · subst e; exact ⟨v, World.cell?_setCell_same wr _ _ hu⟩
    · obtain ⟨u', hu'⟩ := hc.has i hi
      exact ⟨u', by rw [World.cell?_setCell_other _ _ _ _ (by intro e'; simp at e' <;> omega)]; exact hu'⟩
theorem OwA.setCell {w : World} {p : Addr} {u : Value} : ∀ (ds : List D) (vs : List Value) (F : List Nat), OwA w ds vs F → p.block ∉ F → OwA (w.setCell p u) ds vs F
  | [], [], _, h, _ => h
  | d :: ds, v :: vs, F, h, hp => by
    obtain ⟨F1, F2, h1, h2, rfl⟩ := h
    exact ⟨F1, F2, Ow.setCell h1 (fun e => hp (List.mem_append_left _ e)) u, OwA.setCell ds vs F2 h2 (fun e => hp (List.mem_append_right _ e)), rfl⟩
  | [], _ :: _, _, h, _ => h.elim
  | _ :: _, [], _, h, _ => h.elim
theorem Fil.rowAux {w : World} {g n : Nat} : ∀ (rs : List D) (vs : List Value) (wr : World) (ds : List D) (F F' : List Nat), Fil w wr g n ds F → OwA wr rs vs F' → F'.Nodup → g ∉ F' → (∀ x, x ∈ F → x ∉ F') → (∀ x, x ∈ F' → w.heap.size ≤ x) → ds.length + rs.length ≤ n →
    Fil w (setRow wr g ds.length vs) g n (ds ++ rs) (F ++ F')
  | [], [], wr, ds, F, F', h, ho, _, _, _, _, _ => by
    rw [show F' = [] from ho, List.append_nil, List.append_nil]; exact h
  | d :: rs, v :: vs, wr, ds, F, F', h, ho, hn, hg, hd, hl, hk => by
    obtain ⟨F1, F2, h1, h2, rfl⟩ := ho
    obtain ⟨n1, n2, n3⟩ := List.nodup_append.1 hn
    simp only [List.length_cons] at hk
    have hp := h.put h1 n1 (fun e => hg (List.mem_append_left _ e)) (fun x hx e => hd x hx (List.mem_append_left _ e)) (fun x hx => hl x (List.mem_append_left _ hx)) (by omega)
    have := Fil.rowAux rs vs _ (ds ++ [d]) (F ++ F1) F2 hp (OwA.setCell rs vs F2 h2 (fun e => hg (List.mem_append_right _ e))) n2 (fun e => hg (List.mem_append_right _ e)) (fun x hx e => by
      rcases List.mem_append.1 hx with hx | hx
      · exact hd x hx (List.mem_append_right _ e)
      · exact n3 x hx x e rfl) (fun x hx => hl x (List.mem_append_right _ hx)) (by simp; omega)
    rw [List.append_assoc, List.append_assoc, List.length_append] at this
    exact this
  | [], _ :: _, _, _, _, _, _, ho, _, _, _, _, _ => ho.elim
  | _ :: _, [], _, _, _, _, _, ho, _, _, _, _, _ => ho.elim
/-- One row more. -/
theorem Fil.row {w wr w' : World} {g n : Nat} {ds rs : List D} {vs : List Value} {F F' : List Nat} (h : Fil w wr g n ds F) (hb : Below wr.heap.size wr w') (ho : OwA w' rs vs F') (hn : F'.Nodup) (hl : ∀ x, x ∈ F' → wr.heap.size ≤ x) (hk : ds.length + rs.length ≤ n) :
    Fil w (setRow w' g ds.length vs) g n (ds ++ rs) (F ++ F') :=
  Fil.rowAux rs vs w' ds F F' (h.carry hb) ho hn (fun e => by have := hl g e; have := h.lt; omega) (fun x hx e => by have := OwL.lt ds g 0 F h.own x hx; have := hl x e; omega) (fun x hx => by have := hl x hx; have := h.below.size; omega) hk
theorem Fil.startRow {E k : Nat} {w w0 : World} {n c : Nat} {cs : List Value} (h : w0.ownsRow w.heap.size E k (.slice (some ⟨w.heap.size, 0, none⟩) n c) n cs) (hb : Below w.heap.size w w0) : Fil w w0 w.heap.size (n * k) [] [] := by
  refine ⟨hb, Nat.le_refl _, (h.lt _ rfl).2, rfl, by simp, by simp, by simp, fun i hi => ?_, fun i => ?_⟩
  · have hl := h.1
    have := World.ownsRow.cells (g := w.heap.size) h rfl i cs[i] (by simp [hl, hi])
    rw [Addr.add_lit, Nat.zero_add] at this
    exact ⟨_, this⟩
  · rcases h.2 with ⟨h1, _⟩ | ⟨g', cap, cur, h1, _, hg', _⟩
    · cases h1
    · cases h1; simp [World.frozen?, hg']
theorem Fil.retRow {w wr : World} {g n k : Nat} {ds : List D} {F : List Nat} (h : Fil w wr g (n * k) ds F) (hn : ds.length = n * k) (hm : n ≤ maxLen) : RetD w (.l k ds) (.returned (.slice (some ⟨g, 0, none⟩) n n)) wr := by
  by_cases e : ds = []
  · subst e
    exact ⟨_, [], rfl, h.below, ⟨_, n, n, rfl, hn, hm, .inl ⟨rfl, rfl⟩⟩, by simp, by simp⟩
  · refine ⟨_, g :: F, rfl, h.below, ⟨_, n, n, rfl, hn, hm, .inr ⟨g, 0, F, rfl, ⟨e, Nat.le_refl _⟩, rfl, h.own⟩⟩, List.nodup_cons.2 ⟨h.out, h.nodup⟩, fun x hx => ?_⟩
    rcases List.mem_cons.1 hx with rfl | hx
    · exact h.base
    · exact h.fresh x hx
/-- The rows of a list, cell by cell. -/
theorem row_get {τ : Type} (f : τ → List D) (k : Nat) (hk : ∀ x, (f x).length = k) : ∀ (xs : List τ) (i j : Nat) (x : τ), xs[i]? = some x → j < k → (xs.flatMap f)[i * k + j]? = (f x)[j]?
  | [], i, j, x, h, _ => by simp at h
  | x0 :: xs, 0, j, x, h, hj => by
    simp at h; subst h
    rw [List.flatMap_cons, List.getElem?_append_left (by rw [hk]; omega)]; simp
  | x0 :: xs, i + 1, j, x, h, hj => by
    rw [List.flatMap_cons, List.getElem?_append_right (by rw [hk]; rw [Nat.add_mul]; omega)]
    have := row_get f k hk xs i j x (by simpa using h) hj
    rw [show (i + 1) * k + j - (f x0).length = i * k + j from by rw [hk, Nat.add_mul]; omega, this]
theorem row_len {τ : Type} (f : τ → List D) (k : Nat) (hk : ∀ x, (f x).length = k) (xs : List τ) : (xs.flatMap f).length = xs.length * k := by
  induction xs with
  | nil => simp
  | cons x xs ih => rw [List.flatMap_cons, List.length_append, ih, hk, List.length_cons, Nat.add_mul]; omega
end Go.Proofs.YtbnikblhnibgiaaDoor
