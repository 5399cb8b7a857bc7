/- Reversed systems that pass objects. Written by mkrv.py. -/
import Derived.Test.YtkoojiplfbcalaaQC
import Derived.Test.YtkoojiplfbcalaaSF
namespace Go.Proofs.Ytkoojiplfbcalaa
open Go.RowKit

/-- The rule that passes the other way. -/
def revPR (r : PR) : PR := ⟨r.cell, r.inn, r.out⟩
abbrev Psn := Int × List Int × List Bool × List PR
def zPsn : Psn := (0, [], [], [])
def psD (p : Psn) : List D := [.i p.1, dI p.2.1, dB p.2.2.1, dPR p.2.2.2]
def revS (x0 : Int) (x1 : List Int) (x2 : List Bool) (x3 : List PR) : Psn × Int :=
  if okPass x0 x1 x2 x3 = true then (if okPass x0 x1 x2 (x3.map revPR) = true then ((x0, x1, x2, x3.map revPR), 0) else (zPsn, 4)) else (zPsn, 1)
/-- The call returns a row in memory of its own, and a code. -/
def RetAC (w : World) (ds : List D) (code : Int) (e : Ending) (w' : World) : Prop := ∃ vs F, e = .returned (.tuple #[.agg ⟨vs⟩, .int .i64 code]) ∧ Below w.heap.size w w' ∧ OwA w' ds vs F ∧ F.Nodup ∧ ∀ g, g ∈ F → w.heap.size ≤ g
def put4 (w : World) (b : Nat) (v0 v1 v2 v3 : Value) : World := (((w.setCell ⟨b, 0, none⟩ v0).setCell ⟨b, 1, none⟩ v1).setCell ⟨b, 2, none⟩ v2).setCell ⟨b, 3, none⟩ v3
theorem set4 (w : World) (b : Nat) (v0 v1 v2 v3 : Value) {u0 u1 u2 u3 : Value} (h0 : w.cell? ⟨b, 0, none⟩ = some u0) (h1 : w.cell? ⟨b, 1, none⟩ = some u1) (h2 : w.cell? ⟨b, 2, none⟩ = some u2) (h3 : w.cell? ⟨b, 3, none⟩ = some u3) :
    ((((w.setCell ⟨b, 0, none⟩ v0).setCell ⟨b, 1, none⟩ v1).setCell ⟨b, 2, none⟩ v2).setCell ⟨b, 3, none⟩ v3).cell? ⟨b, 0, none⟩ = some v0 ∧ ((((w.setCell ⟨b, 0, none⟩ v0).setCell ⟨b, 1, none⟩ v1).setCell ⟨b, 2, none⟩ v2).setCell ⟨b, 3, none⟩ v3).cell? ⟨b, 1, none⟩ = some v1 ∧
    ((((w.setCell ⟨b, 0, none⟩ v0).setCell ⟨b, 1, none⟩ v1).setCell ⟨b, 2, none⟩ v2).setCell ⟨b, 3, none⟩ v3).cell? ⟨b, 2, none⟩ = some v2 ∧ ((((w.setCell ⟨b, 0, none⟩ v0).setCell ⟨b, 1, none⟩ v1).setCell ⟨b, 2, none⟩ v2).setCell ⟨b, 3, none⟩ v3).cell? ⟨b, 3, none⟩ = some v3 := by
  have o : ∀ (w : World) (i j : Nat) (v : Value), i ≠ j → (w.setCell ⟨b, i, none⟩ v).cell? ⟨b, j, none⟩ = w.cell? ⟨b, j, none⟩ := fun w i j v h => World.cell?_setCell_other _ _ _ _ (by intro e; cases e; exact h rfl)
  refine ⟨?_, ?_, ?_, ?_⟩
  · rw [o _ 3 0 _ (by omega), o _ 2 0 _ (by omega), o _ 1 0 _ (by omega)]; exact World.cell?_setCell_same _ _ _ h0
  · rw [o _ 3 1 _ (by omega), o _ 2 1 _ (by omega)]; exact World.cell?_setCell_same _ _ _ (by rw [o _ 0 1 _ (by omega)]; exact h1)
  · rw [o _ 3 2 _ (by omega)]; exact World.cell?_setCell_same _ _ _ (by rw [o _ 1 2 _ (by omega), o _ 0 2 _ (by omega)]; exact h2)
  · exact World.cell?_setCell_same _ _ _ (by rw [o _ 2 3 _ (by omega), o _ 1 3 _ (by omega), o _ 0 3 _ (by omega)]; exact h3)
theorem put4_below {w w1 : World} {b : Nat} (v0 v1 v2 v3 : Value) (h : Below w.heap.size w w1) (hb : w.heap.size ≤ b) : Below w.heap.size w ((((w1.setCell ⟨b, 0, none⟩ v0).setCell ⟨b, 1, none⟩ v1).setCell ⟨b, 2, none⟩ v2).setCell ⟨b, 3, none⟩ v3) :=
  (((h.setCell hb _).setCell hb _).setCell hb _).setCell hb _
theorem RetAC.zero {w w1 : World} {b : Nat} (h : Below w.heap.size w w1) (hb : w.heap.size ≤ b) (code : Int) :
    RetAC w (psD (zPsn, code).1) (zPsn, code).2 (.returned (.tuple #[.agg #[.int .i64 0, .slice none 0 0, .slice none 0 0, .slice none 0 0], .int .i64 code])) ((((w1.setCell ⟨b, 0, none⟩ (.int .i64 0)).setCell ⟨b, 1, none⟩ (.slice none 0 0)).setCell ⟨b, 2, none⟩ (.slice none 0 0)).setCell ⟨b, 3, none⟩ (.slice none 0 0)) :=
  ⟨[.int .i64 0, .slice none 0 0, .slice none 0 0, .slice none 0 0], [], rfl, put4_below _ _ _ _ h hb, ⟨[], [], ⟨rfl, rfl⟩, ⟨[], [], Ow_empty _ _ _ _, ⟨[], [], Ow_empty _ _ _ _, ⟨[], [], Ow_empty _ _ _ _, rfl, rfl⟩, rfl⟩, rfl⟩, rfl⟩, by simp, by simp⟩
theorem SlB.addr {S : Nat → Prop} {w : World} {a : Option Addr} {xs : List Bool} (h : SlB S w a xs) (h0 : 0 < xs.length) : ∃ ad, a = some ad := by
  obtain ⟨g, o, e⟩ := (h.ptr h0).2
  exact ⟨_, e⟩
theorem owA_bools (w : World) : ∀ xs : List Bool, OwA w (xs.map .b) (xs.map .bool) []
  | [] => rfl
  | _ :: xs => ⟨[], [], ⟨rfl, rfl⟩, owA_bools w xs, rfl⟩
/-- A list of yes and no that has been built is owned. -/
theorem Bld.owB {E : Nat} {w : World} {B : Nat} {v : Value} {xs : List Bool} (h : Bld E w B v (xs.map .bool)) (hl : xs.length ≤ maxLen) : ∃ a c F, v = .slice a xs.length c ∧ Ow w (dB xs) (.slice a xs.length c) F ∧ F.Nodup ∧ ∀ g, g ∈ F → B ≤ g := by
  have hL : Lst E 1 w B v xs.length (xs.map .b) (ob v) := ⟨xs.map .bool, [], by simpa [Bld] using h, owA_bools w xs, by simp, by simp, by simp, by simp⟩
  obtain ⟨_, a, c, rfl⟩ := hL.val
  obtain ⟨G', h1, h2, h3⟩ := hL.ow (by omega) hl
  exact ⟨a, c, G', rfl, h1, h2, fun g hg => (hL.lt g (h3 g hg)).1⟩
theorem SlB.vals {S : Nat → Prop} {w : World} {ad : Addr} {xs : List Bool} (h : SlB S w (some ad) xs) : ∀ j u, (xs.map Value.bool)[j]? = some u → w.cell? (ad.add j) = some u := by
  intro j u hu
  have hj : j < xs.length := by have := (List.getElem?_eq_some_iff.1 hu).1; simpa using this
  obtain ⟨g, p, e⟩ := (h.ptr (by omega)).2
  cases e
  have := h.cell j hj
  rw [Addr.add_lit]
  simp only [adr, blk, ofs] at this
  rw [this]
  simp [hj] at hu
  rw [← hu, nthB_lt hj]
theorem bools_one (xs : List Bool) : ∀ u ∈ xs.map Value.bool, u.oneCell' = true := by
  intro u hu
  obtain ⟨y, _, rfl⟩ := List.mem_map.1 hu
  rfl
set_option maxHeartbeats 400000 in
set_option maxRecDepth 100000 in
theorem cloneBool_c (S : Nat → Prop) (ad : Addr) (c : Nat) (xs : List Bool) (w : World) (hx : SlB S w (some ad) xs) (l1 : xs.length < 4294967296) :
    Calls Try.prog 117 #[.slice (some ad) xs.length c] w (RetD w (dB xs)) := by
  have hbl := Bld.empty 4 w w.heap.size (Nat.le_refl _)
  have hx' := (hx.below (below_alloc w (.cells #[] 4))).vals
  have heq := fun (w : World) => run_eql_some_nil (P := Try.prog) w ad xs.length c tabB.under
  go_enter Try.func117, Try.ntmps117
  go_wp2_with (at_builtin; refine app_vals rfl _ _ 23 rfl tabB rfl (by decide) w.heap.size _ [] rfl hbl ad xs.length c (xs.map .bool) rfl (by simp) hx' (bools_one xs) (by simpa using l1) (by simp) ?_)
  intro v' w1 hbl1 hb1
  replace hbl1 : Bld 4 w1 w.heap.size v' (xs.map .bool) := hbl1
  obtain ⟨a, c, F, rfl, ho, hn, hF⟩ := hbl1.owB (by unfold maxLen; omega)
  go_wp2
  go_ret
  exact ⟨_, F, rfl, (below_alloc _ _).trans hb1, ho, hn, hF⟩
/-- A system that is being built: its cells in block g, its rules in v. -/
structure Rev (B : Nat) (wr : World) (g : Nat) (x0 : Int) (x1 : List Int) (x2 : List Bool) (rs : List PR) (v1 v2 : Value) (F1 F2 : List Nat) (v : Value) (G : List Nat) : Prop where
  c0 : wr.cell? ⟨g, 0, none⟩ = some (.int .i64 x0)
  c1 : wr.cell? ⟨g, 1, none⟩ = some v1
  c2 : wr.cell? ⟨g, 2, none⟩ = some v2
  c3 : wr.cell? ⟨g, 3, none⟩ = some v
  fr : wr.frozen? ⟨g, 3, none⟩ = false
  lst : Lst 122 3 wr B v rs.length (rs.flatMap PR.ds) G
  o1 : Ow wr (dI x1) v1 F1
  o2 : Ow wr (dB x2) v2 F2
  nd : (F1 ++ F2).Nodup
  lo : ∀ x, x ∈ F1 ++ F2 → B ≤ x
  ap : g ∉ F1 ++ F2
  apG : g ∉ G
  apF : ∀ x, x ∈ F1 ++ F2 → x ∉ G
  hg : B ≤ g ∧ g < wr.heap.size
theorem Rev.keep {B : Nat} {wr w' : World} {g : Nat} {x0 : Int} {x1 : List Int} {x2 : List Bool} {rs : List PR} {v1 v2 : Value} {F1 F2 : List Nat} {v : Value} {G : List Nat} (h : Rev B wr g x0 x1 x2 rs v1 v2 F1 F2 v G) (hb : Below wr.heap.size wr w') : Rev B w' g x0 x1 x2 rs v1 v2 F1 F2 v G :=
  ⟨(bcell1 hb h.hg.2).trans h.c0, (bcell1 hb h.hg.2).trans h.c1, (bcell1 hb h.hg.2).trans h.c2, (bcell1 hb h.hg.2).trans h.c3, (hb.frozen (p := ⟨g, 3, none⟩) h.hg.2).trans h.fr, h.lst.below hb, h.o1.below hb, h.o2.below hb, h.nd, h.lo, h.ap, h.apG, h.apF, h.hg.1, Nat.lt_of_lt_of_le h.hg.2 hb.size⟩
/-- One rule more. -/
theorem Rev.put {B : Nat} {wr wb w7 : World} {g : Nat} {x0 : Int} {x1 : List Int} {x2 : List Bool} {rs : List PR} {v1 v2 : Value} {F1 F2 : List Nat} {v v' : Value} {G F G' : List Nat} {r : PR} (h : Rev B wr g x0 x1 x2 rs v1 v2 F1 F2 v G) (hb : Below wr.heap.size wr wb) (hN : LstNext 122 3 wb w7 B v v' rs.length (rs.flatMap PR.ds) r.ds G F G') (hF : ∀ x, x ∈ F → wr.heap.size ≤ x) :
    w7.cell? ⟨g, 3, none⟩ = some v ∧ w7.frozen? ⟨g, 3, none⟩ = false ∧ Below B wr (w7.setCell ⟨g, 3, none⟩ v') ∧ Rev B (w7.setCell ⟨g, 3, none⟩ v') g x0 x1 x2 (rs ++ [r]) v1 v2 F1 F2 v' G' := by
  have hk := h.keep hb
  have hgv : g ∉ ob v := fun e => h.apG (ob_sub h.lst _ e)
  have hz := hk.hg.2
  have c0 := (hN.chg.cell hz hgv 0).trans hk.c0
  have c1 := (hN.chg.cell hz hgv 1).trans hk.c1
  have c2 := (hN.chg.cell hz hgv 2).trans hk.c2
  have c3 := (hN.chg.cell hz hgv 3).trans hk.c3
  have fr := (hN.chg.frozen hz hgv 3).trans hk.fr
  have hG : ∀ x, x ∈ G' → x ∈ G ∨ wr.heap.size ≤ x := fun x hx => by
    rcases hN.mem x hx with h | h | h
    · exact .inl h
    · exact .inr (hF x h)
    · exact .inr (Nat.le_trans hb.size h)
  have hng : g ∉ G' := fun e => by
    rcases hG g e with e | e
    · exact h.apG e
    · have := h.hg.2; omega
  have hltF : ∀ x, x ∈ F1 ++ F2 → x < wr.heap.size := fun x hx => by
    rcases List.mem_append.1 hx with hx | hx
    · exact Ow.lt _ _ _ h.o1 x hx
    · exact Ow.lt _ _ _ h.o2 x hx
  have hapF : ∀ x, x ∈ F1 ++ F2 → x ∉ G' := fun x hx e => by
    rcases hG x e with e | e
    · exact h.apF x hx e
    · have := hltF x hx; omega
  have ho : ∀ (i : Nat), i ≠ 3 → (w7.setCell ⟨g, 3, none⟩ v').cell? ⟨g, i, none⟩ = w7.cell? ⟨g, i, none⟩ := fun i hi => World.cell?_setCell_other _ _ _ _ (by intro e; cases e; exact hi rfl)
  have o1 : Ow w7 (dI x1) v1 F1 := hN.chg.ow hk.o1 fun x hx e => h.apF x (by simp [hx]) (ob_sub h.lst _ e)
  have o2 : Ow w7 (dB x2) v2 F2 := hN.chg.ow hk.o2 fun x hx e => h.apF x (by simp [hx]) (ob_sub h.lst _ e)
  refine ⟨c3, fr, ?_, ?_⟩
  · exact ((hb.mono (Nat.le_trans h.hg.1 (Nat.le_of_lt h.hg.2))).trans (hN.chg.below (Nat.le_trans h.hg.1 (Nat.le_of_lt hz)) (fun x hx => (h.lst.lt x (ob_sub h.lst _ hx)).1))).setCell h.hg.1 _
  · refine ⟨(ho 0 (by omega)).trans c0, (ho 1 (by omega)).trans c1, (ho 2 (by omega)).trans c2, World.cell?_setCell_same _ _ _ c3, by rw [World.frozen?_setCell]; exact fr, ?_, o1.setCell (fun e => h.ap (by simp [show g ∈ F1 from e])) _, o2.setCell (fun e => h.ap (by simp [show g ∈ F2 from e])) _, h.nd, h.lo, h.ap, hng, hapF, h.hg.1, ?_⟩
    · have := hN.lst.keep (chg_set w7 ⟨g, 3, none⟩ v' [g] (by simp)) (fun x hx e => by simp at e; subst e; exact hng hx)
      simpa using this
    · have h1 := hN.chg.size
      have h2 := (Exc.setCell w7 ⟨g, 3, none⟩ v').size
      omega
theorem Rev.alloc {B : Nat} {w5 : World} {x0 : Int} {x1 : List Int} {x2 : List Bool} {v1 v2 : Value} {F1 F2 : List Nat} {E : TypeId} (h1 : Ow w5 (dI x1) v1 F1) (h2 : Ow w5 (dB x2) v2 F2) (hn : (F1 ++ F2).Nodup) (hl : ∀ x, x ∈ F1 ++ F2 → B ≤ x) (hB : B ≤ w5.heap.size) :
    Rev B (w5.alloc (.cells #[.int .i64 x0, v1, v2, .slice none 0 0] E)) w5.heap.size x0 x1 x2 [] v1 v2 F1 F2 (.slice none 0 0) [] :=
  ⟨by simp [go_sem], by simp [go_sem], by simp [go_sem], by simp [go_sem], by simp [go_sem], Lst.nil _ _ _ _, h1.below (below_alloc _ _), h2.below (below_alloc _ _), hn, hl, fun e => by
    rcases List.mem_append.1 e with e | e
    · have := Ow.lt _ _ _ h1 _ e; omega
    · have := Ow.lt _ _ _ h2 _ e; omega, by simp, by simp, hB, by simp⟩
theorem Rev.store {B g : Nat} {w5 : World} {x0 : Int} {x1 : List Int} {x2 : List Bool} {v1 v2 : Value} {F1 F2 : List Nat} {u0 u1 u2 u3 : Value} (h1 : Ow w5 (dI x1) v1 F1) (h2 : Ow w5 (dB x2) v2 F2) (hn : (F1 ++ F2).Nodup) (hl : ∀ x, x ∈ F1 ++ F2 → B ≤ x) (hB : B ≤ g) (hg : g ∉ F1 ++ F2)
    (e0 : w5.cell? ⟨g, 0, none⟩ = some u0) (e1 : w5.cell? ⟨g, 1, none⟩ = some u1) (e2 : w5.cell? ⟨g, 2, none⟩ = some u2) (e3 : w5.cell? ⟨g, 3, none⟩ = some u3) (z3 : w5.frozen? ⟨g, 3, none⟩ = false) :
    Rev B ((((w5.setCell ⟨g, 0, none⟩ (.int .i64 x0)).setCell ⟨g, 1, none⟩ v1).setCell ⟨g, 2, none⟩ v2).setCell ⟨g, 3, none⟩ (.slice none 0 0)) g x0 x1 x2 [] v1 v2 F1 F2 (.slice none 0 0) [] := by
  have sA := set4 w5 g (.int .i64 x0) v1 v2 (.slice none 0 0) e0 e1 e2 e3
  have g1 : g ∉ F1 := fun e => hg (by simp [e])
  have g2 : g ∉ F2 := fun e => hg (by simp [e])
  have hz : g < w5.heap.size := World.block_lt_of_cell? w5 _ e0
  refine ⟨sA.1, sA.2.1, sA.2.2.1, sA.2.2.2, by rw [World.frozen?_setCell, World.frozen?_setCell, World.frozen?_setCell, World.frozen?_setCell]; exact z3, Lst.nil _ _ _ _, (((h1.setCell g1 _).setCell g1 _).setCell g1 _).setCell g1 _, (((h2.setCell g2 _).setCell g2 _).setCell g2 _).setCell g2 _, hn, hl, hg, by simp, by simp, hB, ?_⟩
  have s : ∀ (w : World) (p : Addr) (u : Value), (w.setCell p u).heap.size = w.heap.size := fun w p u => (Exc.setCell w p u).size
  rw [s, s, s, s]; exact hz
theorem RowAt.pr {B L : Nat} {w4 w5 : World} {E : TypeId} {r : PR} {q4 q5 : Option Addr} {m4 m5 : Nat} {F4 F5 G : List Nat} (ho4 : Ow w4 (dI r.inn) (.slice q4 r.inn.length m4) F4) (hb5 : Below w4.heap.size w4 w5) (ho5 : Ow w5 (dI r.out) (.slice q5 r.out.length m5) F5) (hn4 : F4.Nodup) (hn5 : F5.Nodup) (hl4 : ∀ g, g ∈ F4 → L ≤ g) (hl5 : ∀ g, g ∈ F5 → w4.heap.size ≤ g) (hB : B ≤ L) (hL : L ≤ w4.heap.size) (hG : ∀ g, g ∈ G → g < L) :
    RowAt (w5.alloc (.cells #[.int .i64 r.cell, .slice q4 r.inn.length m4, .slice q5 r.out.length m5] E)) w5.heap.size 3 B (revPR r).ds [.int .i64 r.cell, .slice q4 r.inn.length m4, .slice q5 r.out.length m5] (F4 ++ F5) G := by
  have h4 := Ow.lt _ _ _ ho4
  have hlo : ∀ x, x ∈ F4 ++ F5 → L ≤ x := fun x hx => by
    rcases List.mem_append.1 hx with hx | hx
    · exact hl4 x hx
    · exact Nat.le_trans hL (hl5 x hx)
  refine ⟨⟨[], F4 ++ F5, ⟨rfl, rfl⟩, ⟨F4, F5, (ho4.below hb5).below (below_alloc _ _), ⟨F5, [], ho5.below (below_alloc _ _), rfl, by simp⟩, rfl⟩, rfl⟩, rfl, nodup_next w4.heap.size hn4 hn5 h4 hl5, fun x hx => Nat.le_trans hB (hlo x hx), fun x hx hg => ?_, fun j u hu => ?_, by simp [Value.oneCell']⟩
  · have := hlo x hx; have := hG x hg; omega
  · match j, hu with
    | 0, hu => simp at hu; subst hu; simp
    | 1, hu => simp at hu; subst hu; simp
    | 2, hu => simp at hu; subst hu; simp
theorem RetAC.put {w w9 : World} {B g b : Nat} {x0 : Int} {x1 : List Int} {x2 : List Bool} {rs : List PR} {v1 v2 v : Value} {F1 F2 G : List Nat} (h : Rev B w9 g x0 x1 x2 rs v1 v2 F1 F2 v G) (hb : Below w.heap.size w w9) (hbb : w.heap.size ≤ b) (hbB : b < B) (hn : rs.length ≤ maxLen) :
    RetAC w (psD ((x0, x1, x2, rs), (0 : Int)).1) ((x0, x1, x2, rs), (0 : Int)).2 (.returned (.tuple #[.agg #[.int .i64 x0, v1, v2, v], .int .i64 0])) ((((w9.setCell ⟨b, 0, none⟩ (.int .i64 x0)).setCell ⟨b, 1, none⟩ v1).setCell ⟨b, 2, none⟩ v2).setCell ⟨b, 3, none⟩ v) := by
  obtain ⟨G', o3, n3, s3⟩ := h.lst.ow (by omega) hn
  have l3 : ∀ x, x ∈ G' → B ≤ x := fun x hx => (h.lst.lt x (s3 x hx)).1
  have g1 : b ∉ F1 := fun e => by have := h.lo b (by simp [e]); omega
  have g2 : b ∉ F2 := fun e => by have := h.lo b (by simp [e]); omega
  have g3 : b ∉ G' := fun e => by have := l3 b e; omega
  refine ⟨[.int .i64 x0, v1, v2, v], F1 ++ (F2 ++ G'), rfl, put4_below _ _ _ _ hb hbb, ⟨[], _, ⟨rfl, rfl⟩, ⟨F1, F2 ++ G', (((h.o1.setCell g1 _).setCell g1 _).setCell g1 _).setCell g1 _, ⟨F2, G', (((h.o2.setCell g2 _).setCell g2 _).setCell g2 _).setCell g2 _, ⟨G', [], (((o3.setCell g3 _).setCell g3 _).setCell g3 _).setCell g3 _, rfl, by simp⟩, rfl⟩, rfl⟩, rfl⟩, ?_, ?_⟩
  · rw [← List.append_assoc]
    exact List.nodup_append.2 ⟨h.nd, n3, fun a ha c hc e => h.apF a ha (by subst e; exact s3 _ hc)⟩
  · intro x hx
    rw [← List.append_assoc] at hx
    rcases List.mem_append.1 hx with hx | hx
    · have := h.lo x hx; omega
    · have := l3 x hx; omega
/-- A system without rules in the block g. -/
theorem Rev.box {B g : Nat} {wr : World} {x0 : Int} {x1 : List Int} {x2 : List Bool} {v1 v2 : Value} {F1 F2 : List Nat} (c0 : wr.cell? ⟨g, 0, none⟩ = some (.int .i64 x0)) (c1 : wr.cell? ⟨g, 1, none⟩ = some v1) (c2 : wr.cell? ⟨g, 2, none⟩ = some v2) (c3 : wr.cell? ⟨g, 3, none⟩ = some (.slice none 0 0)) (fr : wr.frozen? ⟨g, 3, none⟩ = false)
    (o1 : Ow wr (dI x1) v1 F1) (o2 : Ow wr (dB x2) v2 F2) (nd : (F1 ++ F2).Nodup) (lo : ∀ x, x ∈ F1 ++ F2 → B ≤ x) (ap : g ∉ F1 ++ F2) (hg : B ≤ g ∧ g < wr.heap.size) : Rev B wr g x0 x1 x2 [] v1 v2 F1 F2 (.slice none 0 0) [] :=
  ⟨c0, c1, c2, c3, fr, Lst.nil _ _ _ _, o1, o2, nd, lo, ap, by simp, by simp, hg⟩
theorem froz4 (w : World) (b : Nat) (v0 v1 v2 v3 : Value) (i : Nat) : ((((w.setCell ⟨b, 0, none⟩ v0).setCell ⟨b, 1, none⟩ v1).setCell ⟨b, 2, none⟩ v2).setCell ⟨b, 3, none⟩ v3).frozen? ⟨b, i, none⟩ = w.frozen? ⟨b, i, none⟩ := by
  rw [World.frozen?_setCell, World.frozen?_setCell, World.frozen?_setCell, World.frozen?_setCell]
theorem Rev.retAC {w w9 : World} {B g b : Nat} {x0 : Int} {x1 : List Int} {x2 : List Bool} {rs : List PR} {v1 v2 v : Value} {F1 F2 G : List Nat} (h : Rev B w9 g x0 x1 x2 rs v1 v2 F1 F2 v G) (hb : Below w.heap.size w w9) (hbb : w.heap.size ≤ b) (hbB : b < B) (hn : rs.length ≤ maxLen) :
    RetAC w (psD ((x0, x1, x2, rs), (0 : Int)).1) ((x0, x1, x2, rs), (0 : Int)).2 (.returned (.tuple #[.agg #[.int .i64 x0, v1, v2, v], .int .i64 0])) ((((w9.setCell ⟨b, 0, none⟩ (.int .i64 x0)).setCell ⟨b, 1, none⟩ v1).setCell ⟨b, 2, none⟩ v2).setCell ⟨b, 3, none⟩ v) := RetAC.put h hb hbb hbB hn
theorem below_drP {B : Nat} {w0 w : World} (h : Below B w0 w) : Below B w0 w.drew := h.drew
end Go.Proofs.Ytkoojiplfbcalaa
