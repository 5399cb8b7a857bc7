/- PassChoices, the program's. Written by mkub.py. -/
import Derived.Test.YtkjmehpehopncaaZ4
import Derived.Test.YtkjmehpehopncaaZ6
import Derived.Test.YtkjmehpehopncaaZ2
import Derived.Defers
import Derived.Test.YtkjmehpehopncaaZ5
namespace Go.Proofs.Ytkjmehpehopncaa
open Go.RowKit
/-- The state of a search: the captured cells C, the counts bs in block gb, how many fit in block gf, the lists L that are being collected at gl. -/
structure Enf (w0 w : World) (C : List (Nat × Nat × Value)) (gb gl gf : Nat) (bs : List Int) (f : Nat) (L : List (List Int)) (G : List Nat) (E : TypeId) : Prop where
  bel : Below w0.heap.size w0 w
  caps : ∀ p i v, (p, i, v) ∈ C → w.cell? ⟨p, i, none⟩ = some v ∧ p ≠ gb ∧ p ≠ gl ∧ p ≠ gf ∧ p ∉ G
  cells : ∀ i, i < bs.length → w.cell? ⟨gb, i, none⟩ = some (.int .i64 (nth bs i))
  free : ∀ i, w.frozen? ⟨gb, i, none⟩ = false
  fit : w.cell? ⟨gf, 0, none⟩ = some (.int .i64 f)
  ffree : w.frozen? ⟨gf, 0, none⟩ = false
  box : Box E 1 w w0.heap.size gl L.length (L.map dI) G
  ne : gb ≠ gl ∧ gb ≠ gf ∧ gl ≠ gf
  out : gb ∉ G ∧ gf ∉ G
  lt : gb < w.heap.size
  base : w0.heap.size ≤ gb ∧ w0.heap.size ≤ gl ∧ w0.heap.size ≤ gf
section
variable {w0 w w' : World} {C : List (Nat × Nat × Value)} {gb gl gf : Nat} {bs : List Int} {f : Nat} {L L' : List (List Int)} {G G' : List Nat} {E : TypeId}
theorem Enf.flt (h : Enf w0 w C gb gl gf bs f L G E) : gf < w.heap.size := World.block_lt_of_cell? w _ h.fit
theorem Enf.slI (h : Enf w0 w C gb gl gf bs f L G E) (hl : bs.length ≤ maxLen) : SlI Any w (some ⟨gb, 0, none⟩) bs :=
  ⟨hl, fun _ => ⟨trivial, gb, 0, rfl⟩, fun i hi => by have := h.cells i hi; simpa [adr, blk, ofs] using this⟩
theorem Enf.next (h : Enf w0 w C gb gl gf bs f L G E) (hb : Below w.heap.size w w') : Enf w0 w' C gb gl gf bs f L G E :=
  ⟨bnext h.bel hb (Nat.le_refl _), fun p i v hp => by
      obtain ⟨h1, h2⟩ := h.caps p i v hp
      exact ⟨(bcell1 hb (World.block_lt_of_cell? w _ h1)).trans h1, h2⟩, fun i hi => (bcell1 hb h.lt).trans (h.cells i hi), fun i => (hb.frozen (p := ⟨gb, i, none⟩) h.lt).trans (h.free i),
    (bcell1 hb h.flt).trans h.fit, (hb.frozen (p := ⟨gf, 0, none⟩) h.flt).trans h.ffree, h.box.keep (F' := []) (Chg.ofBelow hb) (by simp), h.ne, h.out, Nat.lt_of_lt_of_le h.lt hb.size, h.base⟩
/-- A count is stored. -/
theorem Enf.set (h : Enf w0 w C gb gl gf bs f L G E) {k : Nat} (hk : k < bs.length) (x : Int) : Enf w0 (w.setCell ⟨gb, k, none⟩ (.int .i64 x)) C gb gl gf (bs.set k x) f L G E := by
  have hc := chg_set w ⟨gb, k, none⟩ (.int .i64 x) [gb] (by simp)
  have hs : (w.setCell ⟨gb, k, none⟩ (.int .i64 x)).heap.size = w.heap.size := (Exc.setCell w ⟨gb, k, none⟩ (.int .i64 x)).size
  obtain ⟨n1, n2, n3⟩ := h.ne
  refine ⟨h.bel.setCell h.base.1 _, fun p i v hp => ?_, fun i hi => ?_, fun i => by rw [World.frozen?_setCell]; exact h.free i, (World.cell?_setCell_other _ _ _ _ (by intro e; cases e; exact n2 rfl)).trans h.fit, by rw [World.frozen?_setCell]; exact h.ffree,
    h.box.keep hc ⟨by simp; exact fun e => n1 e.symm, fun g hg => by simp; rintro rfl; exact h.out.1 hg⟩, h.ne, h.out, by rw [hs]; exact h.lt, h.base⟩
  · obtain ⟨h1, h2, h3⟩ := h.caps p i v hp
    exact ⟨by rw [World.cell?_setCell_other _ _ _ _ (by intro e; cases e; exact h2 rfl)]; exact h1, h2, h3⟩
  · simp at hi
    by_cases e : i = k
    · subst e
      rw [World.cell?_setCell_same _ _ _ (h.cells i hi), nthS hi, if_pos rfl]
    · rw [World.cell?_setCell_other _ _ _ _ (by intro e'; cases e'; exact e rfl), h.cells i hi, nthS hk, if_neg e]
/-- How many fit is stored. -/
theorem Enf.put (h : Enf w0 w C gb gl gf bs f L G E) (f' : Nat) : Enf w0 (w.setCell ⟨gf, 0, none⟩ (.int .i64 f')) C gb gl gf bs f' L G E := by
  have hc := chg_set w ⟨gf, 0, none⟩ (.int .i64 f') [gf] (by simp)
  have hs : (w.setCell ⟨gf, 0, none⟩ (.int .i64 f')).heap.size = w.heap.size := (Exc.setCell w ⟨gf, 0, none⟩ (.int .i64 f')).size
  obtain ⟨n1, n2, n3⟩ := h.ne
  refine ⟨h.bel.setCell h.base.2.2 _, fun p i v hp => ?_, fun i hi => (World.cell?_setCell_other _ _ _ _ (by intro e; cases e; exact n2 rfl)).trans (h.cells i hi), fun i => by rw [World.frozen?_setCell]; exact h.free i, World.cell?_setCell_same _ _ _ h.fit, by rw [World.frozen?_setCell]; exact h.ffree,
    h.box.keep hc ⟨by simp; exact n3, fun g hg => by simp; rintro rfl; exact h.out.2 hg⟩, h.ne, h.out, by rw [hs]; exact h.lt, h.base⟩
  obtain ⟨h1, h2, h3, h4, h5⟩ := h.caps p i v hp
  exact ⟨by rw [World.cell?_setCell_other _ _ _ _ (by intro e; cases e; exact h4 rfl)]; exact h1, h2, h3, h4, h5⟩
/-- The old blocks but those of the lists are as they were. -/
theorem Enf.chg (h : Enf w0 w C gb gl gf bs f L G E) (hc : Chg (gl :: G) w w') (hb : Box E 1 w' w0.heap.size gl L'.length (L'.map dI) G') (hm : ∀ g, g ∈ G' → g ∈ G ∨ w.heap.size ≤ g) : Enf w0 w' C gb gl gf bs f L' G' E := by
  obtain ⟨m1, m2, m3⟩ := h.ne
  have n1 : gb ∉ gl :: G := by simp; exact ⟨m1, h.out.1⟩
  have n2 : gf ∉ gl :: G := by simp; exact ⟨fun e => m3 e.symm, h.out.2⟩
  have hlt := h.box.lt.2
  refine ⟨h.bel.trans (hc.below h.bel.size (fun g hg => by
      rcases List.mem_cons.1 hg with rfl | hg
      · exact h.base.2.1
      · exact (hlt g hg).1)), fun p i v hp => ?_, fun i hi => by rw [hc.cell h.lt n1]; exact h.cells i hi, fun i => by rw [hc.frozen h.lt n1]; exact h.free i, (hc.cell h.flt n2 0).trans h.fit, (hc.frozen h.flt n2 0).trans h.ffree, hb, h.ne, ⟨fun hg => ?_, fun hg => ?_⟩, Nat.lt_of_lt_of_le h.lt hc.size, h.base⟩
  · obtain ⟨h1, h2, h3, h4, h5⟩ := h.caps p i v hp
    have hlt := World.block_lt_of_cell? w _ h1
    refine ⟨by rw [hc.cell hlt (by simp; exact ⟨h3, h5⟩)]; exact h1, h2, h3, h4, fun hg => ?_⟩
    rcases hm p hg with hh | hh
    · exact h5 hh
    · simp at hlt; omega
  · rcases hm gb hg with hh | hh
    · exact h.out.1 hh
    · have := h.lt; omega
  · rcases hm gf hg with hh | hh
    · exact h.out.2 hh
    · have := h.flt; omega
theorem Enf.sub {C' : List (Nat × Nat × Value)} (h : Enf w0 w C' gb gl gf bs f L G E) (hs : ∀ x, x ∈ C → x ∈ C') : Enf w0 w C gb gl gf bs f L G E :=
  ⟨h.bel, fun p i v hp => h.caps p i v (hs _ hp), h.cells, h.free, h.fit, h.ffree, h.box, h.ne, h.out, h.lt, h.base⟩
/-- A new cell is captured. -/
theorem Enf.more (h : Enf w0 w C gb gl gf bs f L G E) (v : Value) (T : TypeId) : Enf w0 (w.alloc (.cells #[v] T)) ((w.heap.size, 0, v) :: C) gb gl gf bs f L G E := by
  have h2 := h.next (below_alloc w (.cells #[v] T))
  refine ⟨h2.bel, fun p i u hp => ?_, h2.cells, h2.free, h2.fit, h2.ffree, h2.box, h2.ne, h2.out, h2.lt, h2.base⟩
  rcases List.mem_cons.1 hp with e | hp
  · cases e
    exact ⟨by simp, by have := h.lt; omega, by have := h.box.lt.1; omega, by have := h.flt; omega, fun hg => by have := (h.box.lt.2 _ hg).2; omega⟩
  · exact h2.caps p i u hp
end
/-- What a closure's call leaves. -/
def FrmP (w0 : World) (C : List (Nat × Nat × Value)) (gb gl gf : Nat) (bs : List Int) (f : Nat) (L A : List (List Int)) (ch : List Int → Bool) (E : TypeId) (e : Ending) (w' : World) : Prop :=
  (f + A.length ≤ 1500 ∧ e = .returned (.bool true) ∧ ∃ G', Enf w0 w' C gb gl gf bs (f + A.length) (L ++ A.filter ch) G' E) ∨
  (1500 < f + A.length ∧ e = .returned (.bool false) ∧ ∃ bs' f' L' G', bs'.length = bs.length ∧ Enf w0 w' C gb gl gf bs' f' L' G' E)
theorem pad_set {m : Nat} {p : List Int} {x y : Int} (hp : p.length < m) : (padL m (p ++ [x])).set p.length y = padL m (p ++ [y]) := by
  have h1 : (padL m (p ++ [x])).length = m := padL_len (by simp; omega)
  refine list_eqN (by rw [List.length_set, h1, padL_len (by simp; omega)]) fun j _ => ?_
  rw [nthS (by omega), padL_nth, padL_nth, snoc_nth, snoc_nth]
  split <;> rfl
theorem pad_zero {m : Nat} {p : List Int} (hp : p.length < m) : padL m (p ++ [0]) = padL m p := by
  refine list_eqN (by rw [padL_len (by simp; omega), padL_len (by omega)]) fun j _ => ?_
  rw [padL_nth, padL_nth, snoc_nth]
  split
  · rename_i e; rw [e, nth_past (Nat.le_refl _)]
  · rfl
theorem padZ {m : Nat} {p : List Int} {x : Int} (hp : p.length < m) : (padL m (p ++ [x])).set p.length 0 = padL m p := by rw [pad_set hp, pad_zero hp]
theorem Enf.add {w0 wr wA w7 : World} {C : List (Nat × Nat × Value)} {gb gl gf : Nat} {bs xs : List Int} {f : Nat} {L : List (List Int)} {G FA G7 : List Nat} {E T : TypeId} {u v v7 : Value} (h : Enf w0 wr C gb gl gf bs f L G E) (hbA : Below wr.heap.size wr wA) (hl : ∀ g, g ∈ FA → wr.drew.heap.size ≤ g)
    (hN : LstNext E 1 (wA.alloc (.cells #[u] T)) w7 w0.heap.size v v7 L.length (L.map dI) [dI xs] G FA G7) (hLS : Lst E 1 wr w0.heap.size v L.length (L.map dI) G) (hB : wr.cell? ⟨gl, 0, none⟩ = some v) :
    w7.cell? ⟨gl, 0, none⟩ = some v ∧ w7.frozen? ⟨gl, 0, none⟩ = false ∧ (∀ p i x, (p, i, x) ∈ C → w7.cell? ⟨p, i, none⟩ = some x) ∧ Enf w0 (w7.setCell ⟨gl, 0, none⟩ v7) C gb gl gf bs f (L ++ [xs]) G7 E := by
  have hlt := h.box.lt
  have hG : ∀ g, g ∈ G7 → g ∈ G ∨ wr.heap.size ≤ g := fun g hg => by
    rcases hN.mem g hg with h1 | h1 | h1
    · exact .inl h1
    · exact .inr (hl g h1)
    · refine .inr ?_
      have h' : wA.heap.size + 1 ≤ g := by simpa using h1
      have := hbA.size; omega
  have hng : gl ∉ G7 := fun h1 => by
    rcases hG gl h1 with h2 | h2
    · exact h.box.out h2
    · have := hlt.1; omega
  have hch : Chg G wr w7 := (Chg.ofBelow hbA).trans ((Chg.ofBelow (below_alloc _ _)).trans (hN.chg.wider (fun k hk => ob_sub hLS _ hk)))
  have hch2 : Chg (gl :: G) wr (w7.setCell ⟨gl, 0, none⟩ v7) := (hch.wider (fun k hk => List.mem_cons_of_mem _ hk)).trans (chg_set w7 ⟨gl, 0, none⟩ v7 (gl :: G) (by simp))
  have c7 := (hch.cell hlt.1 h.box.out 0).trans hB
  have f7 := (hch.frozen hlt.1 h.box.out 0).trans h.box.free
  refine ⟨c7, f7, fun p i x hp => ?_, h.chg (L' := L ++ [xs]) hch2 ⟨by rw [World.frozen?_setCell]; exact f7, ⟨v7, World.cell?_setCell_same _ _ _ c7, ?_⟩, hng⟩ hG⟩
  · obtain ⟨h1, _, _, _, h5⟩ := h.caps p i x hp
    exact (hch.cell (World.block_lt_of_cell? wr _ h1) h5 i).trans h1
  · have := hN.lst.keep (chg_set w7 ⟨gl, 0, none⟩ v7 [gl] (by simp)) (fun g hg => by simp; rintro rfl; exact hng hg)
    simpa using this
/-- Where a region goes on; it has no other way out. -/
def normP (K : Act → World → Prop) : Exit → Act → World → Prop
  | .normal, a, w => K a w
  | _, _, _ => False
theorem pad_full {m : Nat} {p : List Int} (h : p.length = m) : padL m p = p := by simp [padL, show m - p.length = 0 by omega]
theorem choicesD_c (gc kb gb m c k : Nat) (x : Value) (u : FrameMode) (w : World) (h1 : w.cell? ⟨gc, 0, none⟩ = some (.slice (some ⟨gb, 0, none⟩) m c)) (h2 : w.cell? ⟨kb, 0, none⟩ = some (.int .i64 k)) (hk : k < m) (hx : w.cell? ⟨gb, k, none⟩ = some x) (hf : w.frozen? ⟨gb, k, none⟩ = false) :
    CallsD Try.prog 50 #[.pointer (some ⟨gc, 0, none⟩), .pointer (some ⟨kb, 0, none⟩)] u w fun e u' w' => u' = u ∧ (e = .returned (.tuple #[]) ∧ w' = w.setCell ⟨gb, k, none⟩ (.int .i64 0)) := by
  have i1 := ix_of (P := Try.prog) tabI.under tabI.size (a := some ⟨gb, 0, none⟩) (n := m) (fun _ => ⟨gb, 0, rfl⟩) c
  simp only [Nat.mul_one, adr, blk, ofs, Nat.zero_add] at i1
  have hk' : (k : Int) < m := by omega
  have j1 := fun w' => i1 k w' (by omega) hk'
  simp only [Int.toNat_natCast] at j1
  go_enter_d Try.func50, Try.ntmps50
  go_wp2
  go_end0
  exact ⟨rfl, rfl⟩
set_option maxHeartbeats 16000000 in
set_option maxRecDepth 100000 in
theorem from_c (x0 : Int) (x1 : List Int) (x2 : List Bool) (x3 : List PR) (y0 : List (List Int)) (y1 : List Int) (a1 a2 a3 b0 b1 : Option Addr) (c1 c2 c3 d0 d1 : Nat) (mode : Int) (w0 : World) (h1 : SlI Any w0 a1 x1) (h2 : SlB Any w0 a2 x2) (h3 : Rd Any w0 (dPR x3) (.slice a3 x3.length c3)) (k0 : SlII Any w0 b0 y0) (k1 : SlI Any w0 b1 y1) (K0 : Nat) (hps : PsOk K0 x1 x2 x3) (hst : StOk K0 x1.length y0 y1) (gp gs gm gc gn gb gl gf : Nat) (C0 : List (Nat × Nat × Value))
    (hC0 : C0 = [(gp, 0, .int .i64 x0), (gp, 1, .slice a1 x1.length c1), (gp, 2, .slice a2 x2.length c2), (gp, 3, .slice a3 x3.length c3), (gs, 0, .slice b0 y0.length d0), (gs, 1, .slice b1 y1.length d1), (gm, 0, .int .i64 mode), (gc, 0, .slice (some ⟨gb, 0, none⟩) x3.length x3.length), (gn, 0, .func (.func 48) #[] #[.pointer (some ⟨gc, 0, none⟩), .pointer (some ⟨gf, 0, none⟩), .pointer (some ⟨gp, 0, none⟩), .pointer (some ⟨gs, 0, none⟩), .pointer (some ⟨gm, 0, none⟩), .pointer (some ⟨gl, 0, none⟩), .pointer (some ⟨gn, 0, none⟩)])]) :
    ∀ (d : Nat) (C : List (Nat × Nat × Value)), (∀ x, x ∈ C0 → x ∈ C) → ∀ (p : List Int) (ws : World) (f : Nat) (L : List (List Int)) (G : List Nat), p.length + d = x3.length → okL p → fitP x1 x2 x3 y0 y1 (padL x3.length p) = true → f ≤ 1500 → L.length ≤ f → Enf w0 ws C gb gl gf (padL x3.length p) f L G 24 →
    Calls Try.prog 48 #[.int .i64 p.length, .pointer (some ⟨gc, 0, none⟩), .pointer (some ⟨gf, 0, none⟩), .pointer (some ⟨gp, 0, none⟩), .pointer (some ⟨gs, 0, none⟩), .pointer (some ⟨gm, 0, none⟩), .pointer (some ⟨gl, 0, none⟩), .pointer (some ⟨gn, 0, none⟩)] ws (FrmP w0 C gb gl gf (padL x3.length p) f L (enumF (fitP x1 x2 x3 y0 y1) x3.length d p) (fun c => chosenS x1 x2 x3 (bagsS y0 y1) c mode) 24) := by
  have HC0 := Lib.hid hC0
  clear hC0
  have h8 := hps.r8
  have hF := fit_ok hps hst
  intro d
  induction d with
  | zero =>
    intro C hCB p ws f L G hpd hok hfit hf hLf hE
    have hpl : p.length = x3.length := by omega
    obtain ⟨kv, hkv⟩ : ∃ kv : Int, kv = (p.length : Int) := ⟨_, rfl⟩
    rw [← hkv]
    rw [pad_full hpl] at hE ⊢
    have HCS : Hid (∀ x, x ∈ C → x ∈ ((ws.heap.size, 0, Value.int .i64 kv) :: C)) := Lib.hid (fun x hx => List.mem_cons_of_mem _ hx)
    have HE := Lib.hid hE
    have HE1 := Lib.hid (hE.more (.int .i64 kv) 3)
    have HCB : Hid (∀ x, x ∈ C0 → x ∈ ((ws.heap.size, 0, Value.int .i64 kv) :: C)) := Lib.hid (fun x hx => List.mem_cons_of_mem _ (hCB x hx))
    have hfc : ((f + 1 : Nat) : Int) = (f : Int) + 1 := by omega
    have HE2 : Hid (Enf w0 ((ws.alloc (.cells #[.int .i64 kv] 3)).setCell ⟨gf, 0, none⟩ (.int .i64 ((f : Int) + 1))) ((ws.heap.size, 0, Value.int .i64 kv) :: C) gb gl gf p (f + 1) L G 24) := Lib.hid (by have := HE1.out.put (f + 1); rwa [hfc] at this)
    have r7 := (HE1.out.caps _ _ _ (HCB.out _ (by rw [HC0.out]; exact .tail _ (.tail _ (.tail _ (.tail _ (.tail _ (.tail _ (.tail _ (.head _)))))))))).1
    have s1 := HE1.out.fit
    have s2 := HE1.out.ffree
    have q0 := (HE2.out.caps _ _ _ (HCB.out _ (by rw [HC0.out]; exact .head _))).1
    have q1 := (HE2.out.caps _ _ _ (HCB.out _ (by rw [HC0.out]; exact .tail _ (.head _)))).1
    have q2 := (HE2.out.caps _ _ _ (HCB.out _ (by rw [HC0.out]; exact .tail _ (.tail _ (.head _))))).1
    have q3 := (HE2.out.caps _ _ _ (HCB.out _ (by rw [HC0.out]; exact .tail _ (.tail _ (.tail _ (.head _)))))).1
    have q4 := (HE2.out.caps _ _ _ (HCB.out _ (by rw [HC0.out]; exact .tail _ (.tail _ (.tail _ (.tail _ (.head _))))))).1
    have q5 := (HE2.out.caps _ _ _ (HCB.out _ (by rw [HC0.out]; exact .tail _ (.tail _ (.tail _ (.tail _ (.tail _ (.head _)))))))).1
    have q6 := (HE2.out.caps _ _ _ (HCB.out _ (by rw [HC0.out]; exact .tail _ (.tail _ (.tail _ (.tail _ (.tail _ (.tail _ (.head _))))))))).1
    have q7 := (HE2.out.caps _ _ _ (HCB.out _ (by rw [HC0.out]; exact .tail _ (.tail _ (.tail _ (.tail _ (.tail _ (.tail _ (.tail _ (.head _)))))))))).1
    have HMC : Hid ((gc, 0, Value.slice (some ⟨gb, 0, none⟩) x3.length x3.length) ∈ ((ws.heap.size, 0, Value.int .i64 kv) :: C)) := Lib.hid ((HCB.out _ (by rw [HC0.out]; exact .tail _ (.tail _ (.tail _ (.tail _ (.tail _ (.tail _ (.tail _ (.head _))))))))))
    have ht : (kv == (x3.length : Int)) = true := by simp; omega
    have HRUN := Lib.hid (callFunc_run (P := Try.prog) Try.func49 (by kernel_rfl) rfl)
    have HIC := isChoice_c x0 x1 x2 x3 y0 y1 a1 a2 a3 b0 b1 c1 c2 c3 d0 d1 ((ws.alloc (.cells #[.int .i64 kv] 3)).setCell ⟨gf, 0, none⟩ (.int .i64 ((f : Int) + 1))) (h1.below HE2.out.bel) (h2.below HE2.out.bel) (h3.below HE2.out.bel) (k0.below HE2.out.bel) (k1.below HE2.out.bel) p (some ⟨gb, 0, none⟩) x3.length (HE2.out.slI (by unfold maxLen; omega)) K0 hps hst hpl hok mode
    rw [hpl] at HIC
    have hA : (enumF (fitP x1 x2 x3 y0 y1) x3.length 0 p) = [p] := rfl
    rw [hA]
    clear hA hE hCB hok hfit hkv
    cases hch : chosenS x1 x2 x3 (bagsS y0 y1) p mode
    · by_cases hle : f + 1 ≤ 1500
      · have hfl : (f : Int) + 1 ≤ 1500 := by omega
        have hdec : decide ((f : Int) + 1 ≤ 1500) = true := by simp; omega
        rw [hch] at HIC
        replace HIC := Lib.hid HIC
        go_enter_defers Try.func48, Try.ntmps48
        go_wp2_with fail
        refine HIC.out.mono ?_
        rintro e wr ⟨rfl, hb3⟩
        have HE3 := Lib.hid (HE2.out.next hb3)
        clear hb3 HIC q0 q1 q2 q3 q4 q5 q6 q7 r7 s1 s2
        have t1 := HE3.out.fit
        rw [hfc] at t1
        have HE9 := HE3
        go_wp2
        refine ⟨_, results_tmp rfl _ _ _, .inl ⟨by simp; omega, by first | rfl | (rw [← hdec]; rfl), G, ?_⟩⟩
        have hfin := HE9.out.sub HCS.out
        simpa [hch] using hfin
      · have hfl : ¬ (f : Int) + 1 ≤ 1500 := by omega
        have hdec : decide ((f : Int) + 1 ≤ 1500) = false := by simp; omega
        rw [hch] at HIC
        replace HIC := Lib.hid HIC
        go_enter_defers Try.func48, Try.ntmps48
        go_wp2_with fail
        refine HIC.out.mono ?_
        rintro e wr ⟨rfl, hb3⟩
        have HE3 := Lib.hid (HE2.out.next hb3)
        clear hb3 HIC q0 q1 q2 q3 q4 q5 q6 q7 r7 s1 s2
        have t1 := HE3.out.fit
        rw [hfc] at t1
        have HE9 := HE3
        go_wp2
        refine ⟨_, results_tmp rfl _ _ _, .inr ⟨by simp; omega, by first | rfl | (rw [← hdec]; rfl), p, f + 1, _, _, rfl, HE9.out.sub HCS.out⟩⟩
    · by_cases hle : f + 1 ≤ 1500
      · have hfl : (f : Int) + 1 ≤ 1500 := by omega
        have hdec : decide ((f : Int) + 1 ≤ 1500) = true := by simp; omega
        rw [hch] at HIC
        replace HIC := Lib.hid HIC
        go_enter_defers Try.func48, Try.ntmps48
        go_wp2_with fail
        refine HIC.out.mono ?_
        rintro e wr ⟨rfl, hb3⟩
        have HE3 := Lib.hid (HE2.out.next hb3)
        clear hb3 HIC q0 q1 q2 q3 q4 q5 q6 q7 r7 s1 s2
        have t1 := HE3.out.fit
        rw [hfc] at t1
        obtain ⟨v0, hbx, hls⟩ := HE3.out.box.has
        obtain ⟨hln, av, cv, rfl⟩ := hls.val
        clear hln
        have HB := Lib.hid hbx
        have HLS := Lib.hid hls
        have HLT := Lib.hid HE3.out.box.lt
        have hlg := HLT.out.1
        have hs0 : wr.drew.cell? ⟨gl, 0, none⟩ = some (.slice av L.length cv) ∧ wr.drew.cell? ⟨gc, 0, none⟩ = some (.slice (some ⟨gb, 0, none⟩) x3.length x3.length) := ⟨hbx, (HE3.out.caps _ _ _ HMC.out).1⟩
        have HCL : Hid (∀ wx, Below wr.heap.size wr wx → Calls Try.prog 49 #[.slice (some ⟨gb, 0, none⟩) x3.length x3.length] wx (RetD wx (dI p))) := Lib.hid (fun wx hb => by have h := clone_c Any ⟨gb, 0, none⟩ x3.length p wx ((HE3.out.slI (by unfold maxLen; omega)).below hb) (by omega); rw [hpl] at h; exact h)
        clear hls hbx
        go_wp2
        rename_i K hK
        refine Code.wp_mono (Q := normP K) (fun e a w h => by cases e <;> first | exact h | exact h.elim) ?_
        refine wp_region_C (n := 6) (l := #[false, false, false, false, false, false]) (fun wx => wx.cell? ⟨gl, 0, none⟩ = some (.slice av L.length cv) ∧ wx.cell? ⟨gc, 0, none⟩ = some (.slice (some ⟨gb, 0, none⟩) x3.length x3.length)) [5] (by kernel_rfl) rfl rfl ?_
        refine wpC_take (i := 0) (v := ?v0_1) (l' := #[true, false, false, false, false, false]) [4, 5] rfl (by kernel_rfl) (by kernel_rfl) (by kernel_rfl) (by kernel_rfl) (by kernel_rfl) rfl (fun _ _ _ h => h) (by rfl) (fun wx hS => ?q0_1) (by assumption) ?_
        case q0_1 => ((try dsimp only at hS); obtain ⟨hS1, hS2⟩ := hS; go_simp; try with_reducible rfl)
        try simp only [List.getElem_toArray, List.getElem_cons_zero, Act.put, List.setIfInBounds_toArray, List.set_cons_zero, List.set_cons_succ]
        refine wpC_take (i := 1) (v := ?v1_2) (l' := #[true, true, false, false, false, false]) [2, 3, 4, 5] rfl (by kernel_rfl) (by kernel_rfl) (by kernel_rfl) (by kernel_rfl) (by kernel_rfl) rfl (fun _ _ _ h => h) (by rfl) (fun wx hS => ?q1_2) (by assumption) ?_
        case q1_2 => ((try dsimp only at hS); obtain ⟨hS1, hS2⟩ := hS; go_simp; try with_reducible rfl)
        try simp only [List.getElem_toArray, List.getElem_cons_succ, List.getElem_cons_zero, Act.put, List.setIfInBounds_toArray, List.set_cons_zero, List.set_cons_succ]
        refine wpC_one (i := 2) (l' := #[true, true, true, false, false, false]) (by kernel_rfl) rfl rfl (by rfl) (fun Kr hKr => ?_)
        refine step_callV rfl 49 #[.tmp 22] _ rfl HRUN.out #[.slice (some ⟨gb, 0, none⟩) x3.length x3.length] (by first | rfl | (simp [Act.eval]; done) | (simp [Act.eval]; rfl) | (simp [Act.eval]; repeat' constructor)) (HCL.out _ (Below.refl _ _).drew) ?_
        rintro e wA ⟨vA, FA, rfl, hbA, hoA, hnA, hlA⟩
        refine ⟨_, rfl, ?_⟩
        have hbA2 : Below wr.heap.size wr wA := (Below.refl _ _).drew.trans hbA
        obtain ⟨aA, cA, rfl⟩ := hoA.val
        have hEA := HE3.out.next hbA2
        obtain ⟨vA2, hcA, hLA⟩ := hEA.box.has
        refine hKr _ _ (fun _ => ⟨(bcell1 hbA2 HLT.out.1).trans HB.out, (hEA.caps _ _ _ HMC.out).1⟩) ?_
        clear hKr Kr
        try simp only [List.getElem_toArray, List.getElem_cons_succ, List.getElem_cons_zero, Act.put, List.setIfInBounds_toArray, List.set_cons_zero, List.set_cons_succ]
        refine wpC_one (i := 3) (l' := #[true, true, true, true, false, false]) (by kernel_rfl) rfl rfl (by rfl) (fun Kr hKr => ?_)
        go_simp
        refine hKr _ _ (fun _ => ⟨(bcell1 (below_alloc wA _) hEA.box.lt.1).trans ((bcell1 hbA2 HLT.out.1).trans HB.out), ((hEA.next (below_alloc wA _)).caps _ _ _ HMC.out).1⟩) ?_
        clear hKr Kr
        try simp only [List.getElem_toArray, List.getElem_cons_succ, List.getElem_cons_zero, Act.put, List.setIfInBounds_toArray, List.set_cons_zero, List.set_cons_succ]
        refine wpC_one (i := 4) (l' := #[true, true, true, true, true, false]) (by kernel_rfl) rfl rfl (by rfl) (fun Kr hKr => ?_)
        refine step_lst rfl (.tmp 21) (.tmp 24) 29 rfl tabII rfl (by omega) (by decide) w0.heap.size (.slice av L.length cv) L.length (L.map dI) [dI p] G FA [.slice aA p.length cA] rfl (HLS.out.below (hbA2.alloc hbA2.size _)) wA.heap.size rfl ⟨⟨FA, [], hoA.below (below_alloc _ _), rfl, by simp⟩, rfl, hnA, fun x hx => Nat.le_trans HE3.out.bel.size (Nat.le_trans (by simp) (hlA x hx)), fun x hx hg => (by have h9 := hlA x hx; simp at h9; have h10 := (HLS.out.lt x hg).2; omega), fun j u hu => by match j, hu with | 0, hu => (simp at hu; subst hu; simp [go_sem, hpl]), by simp [Value.oneCell']⟩ (by omega) (by have := HE3.out.bel.size; have := hbA2.size; simp; omega) ?_
        intro v7 w7 G7 hN
        obtain ⟨hl7, a7, c7, rfl⟩ := hN.lst.val
        obtain ⟨z1, z2, hM7, hE7⟩ := HE3.out.add hbA2 hlA hN HLS.out HB.out
        refine hKr _ _ (fun _ => ⟨z1, hM7 _ _ _ HMC.out⟩) ?_
        clear hKr Kr
        try simp only [List.getElem_toArray, List.getElem_cons_succ, List.getElem_cons_zero, Act.put, List.setIfInBounds_toArray, List.set_cons_zero, List.set_cons_succ]
        have hs4 := And.intro z1 (hM7 _ _ _ HMC.out)
        refine wpC_one (i := 5) (l' := #[true, true, true, true, true, true]) (by kernel_rfl) rfl rfl (by rfl) (fun Kr hKr => ?_)
        go_simp
        refine hKr _ _ (fun h => absurd (by decide) h) ?_
        clear hKr Kr
        try simp only [List.getElem_toArray, List.getElem_cons_succ, List.getElem_cons_zero, Act.put, List.setIfInBounds_toArray, List.set_cons_zero, List.set_cons_succ]
        refine wpC_done (by kernel_rfl) ?_ _
        skip
        refine hK _ _ ?_
        have HE9 := Lib.hid hE7
        clear hE7 hN hEA hcA hLA hbA2 hbA hoA hnA hlA hs0 hs4 z1 z2 hM7 hK
        have G9e := G7
        have t1 := HE9.out.fit
        rw [hfc] at t1
        go_wp2
        refine ⟨_, results_tmp rfl _ _ _, .inl ⟨by simp; omega, by first | rfl | (rw [← hdec]; rfl), G7, ?_⟩⟩
        have hfin := HE9.out.sub HCS.out
        simpa [hch] using hfin
      · have hfl : ¬ (f : Int) + 1 ≤ 1500 := by omega
        have hdec : decide ((f : Int) + 1 ≤ 1500) = false := by simp; omega
        rw [hch] at HIC
        replace HIC := Lib.hid HIC
        go_enter_defers Try.func48, Try.ntmps48
        go_wp2_with fail
        refine HIC.out.mono ?_
        rintro e wr ⟨rfl, hb3⟩
        have HE3 := Lib.hid (HE2.out.next hb3)
        clear hb3 HIC q0 q1 q2 q3 q4 q5 q6 q7 r7 s1 s2
        have t1 := HE3.out.fit
        rw [hfc] at t1
        obtain ⟨v0, hbx, hls⟩ := HE3.out.box.has
        obtain ⟨hln, av, cv, rfl⟩ := hls.val
        clear hln
        have HB := Lib.hid hbx
        have HLS := Lib.hid hls
        have HLT := Lib.hid HE3.out.box.lt
        have hlg := HLT.out.1
        have hs0 : wr.drew.cell? ⟨gl, 0, none⟩ = some (.slice av L.length cv) ∧ wr.drew.cell? ⟨gc, 0, none⟩ = some (.slice (some ⟨gb, 0, none⟩) x3.length x3.length) := ⟨hbx, (HE3.out.caps _ _ _ HMC.out).1⟩
        have HCL : Hid (∀ wx, Below wr.heap.size wr wx → Calls Try.prog 49 #[.slice (some ⟨gb, 0, none⟩) x3.length x3.length] wx (RetD wx (dI p))) := Lib.hid (fun wx hb => by have h := clone_c Any ⟨gb, 0, none⟩ x3.length p wx ((HE3.out.slI (by unfold maxLen; omega)).below hb) (by omega); rw [hpl] at h; exact h)
        clear hls hbx
        go_wp2
        rename_i K hK
        refine Code.wp_mono (Q := normP K) (fun e a w h => by cases e <;> first | exact h | exact h.elim) ?_
        refine wp_region_C (n := 6) (l := #[false, false, false, false, false, false]) (fun wx => wx.cell? ⟨gl, 0, none⟩ = some (.slice av L.length cv) ∧ wx.cell? ⟨gc, 0, none⟩ = some (.slice (some ⟨gb, 0, none⟩) x3.length x3.length)) [5] (by kernel_rfl) rfl rfl ?_
        refine wpC_take (i := 0) (v := ?v0_3) (l' := #[true, false, false, false, false, false]) [4, 5] rfl (by kernel_rfl) (by kernel_rfl) (by kernel_rfl) (by kernel_rfl) (by kernel_rfl) rfl (fun _ _ _ h => h) (by rfl) (fun wx hS => ?q0_3) (by assumption) ?_
        case q0_3 => ((try dsimp only at hS); obtain ⟨hS1, hS2⟩ := hS; go_simp; try with_reducible rfl)
        try simp only [List.getElem_toArray, List.getElem_cons_zero, Act.put, List.setIfInBounds_toArray, List.set_cons_zero, List.set_cons_succ]
        refine wpC_take (i := 1) (v := ?v1_4) (l' := #[true, true, false, false, false, false]) [2, 3, 4, 5] rfl (by kernel_rfl) (by kernel_rfl) (by kernel_rfl) (by kernel_rfl) (by kernel_rfl) rfl (fun _ _ _ h => h) (by rfl) (fun wx hS => ?q1_4) (by assumption) ?_
        case q1_4 => ((try dsimp only at hS); obtain ⟨hS1, hS2⟩ := hS; go_simp; try with_reducible rfl)
        try simp only [List.getElem_toArray, List.getElem_cons_succ, List.getElem_cons_zero, Act.put, List.setIfInBounds_toArray, List.set_cons_zero, List.set_cons_succ]
        refine wpC_one (i := 2) (l' := #[true, true, true, false, false, false]) (by kernel_rfl) rfl rfl (by rfl) (fun Kr hKr => ?_)
        refine step_callV rfl 49 #[.tmp 22] _ rfl HRUN.out #[.slice (some ⟨gb, 0, none⟩) x3.length x3.length] (by first | rfl | (simp [Act.eval]; done) | (simp [Act.eval]; rfl) | (simp [Act.eval]; repeat' constructor)) (HCL.out _ (Below.refl _ _).drew) ?_
        rintro e wA ⟨vA, FA, rfl, hbA, hoA, hnA, hlA⟩
        refine ⟨_, rfl, ?_⟩
        have hbA2 : Below wr.heap.size wr wA := (Below.refl _ _).drew.trans hbA
        obtain ⟨aA, cA, rfl⟩ := hoA.val
        have hEA := HE3.out.next hbA2
        obtain ⟨vA2, hcA, hLA⟩ := hEA.box.has
        refine hKr _ _ (fun _ => ⟨(bcell1 hbA2 HLT.out.1).trans HB.out, (hEA.caps _ _ _ HMC.out).1⟩) ?_
        clear hKr Kr
        try simp only [List.getElem_toArray, List.getElem_cons_succ, List.getElem_cons_zero, Act.put, List.setIfInBounds_toArray, List.set_cons_zero, List.set_cons_succ]
        refine wpC_one (i := 3) (l' := #[true, true, true, true, false, false]) (by kernel_rfl) rfl rfl (by rfl) (fun Kr hKr => ?_)
        go_simp
        refine hKr _ _ (fun _ => ⟨(bcell1 (below_alloc wA _) hEA.box.lt.1).trans ((bcell1 hbA2 HLT.out.1).trans HB.out), ((hEA.next (below_alloc wA _)).caps _ _ _ HMC.out).1⟩) ?_
        clear hKr Kr
        try simp only [List.getElem_toArray, List.getElem_cons_succ, List.getElem_cons_zero, Act.put, List.setIfInBounds_toArray, List.set_cons_zero, List.set_cons_succ]
        refine wpC_one (i := 4) (l' := #[true, true, true, true, true, false]) (by kernel_rfl) rfl rfl (by rfl) (fun Kr hKr => ?_)
        refine step_lst rfl (.tmp 21) (.tmp 24) 29 rfl tabII rfl (by omega) (by decide) w0.heap.size (.slice av L.length cv) L.length (L.map dI) [dI p] G FA [.slice aA p.length cA] rfl (HLS.out.below (hbA2.alloc hbA2.size _)) wA.heap.size rfl ⟨⟨FA, [], hoA.below (below_alloc _ _), rfl, by simp⟩, rfl, hnA, fun x hx => Nat.le_trans HE3.out.bel.size (Nat.le_trans (by simp) (hlA x hx)), fun x hx hg => (by have h9 := hlA x hx; simp at h9; have h10 := (HLS.out.lt x hg).2; omega), fun j u hu => by match j, hu with | 0, hu => (simp at hu; subst hu; simp [go_sem, hpl]), by simp [Value.oneCell']⟩ (by omega) (by have := HE3.out.bel.size; have := hbA2.size; simp; omega) ?_
        intro v7 w7 G7 hN
        obtain ⟨hl7, a7, c7, rfl⟩ := hN.lst.val
        obtain ⟨z1, z2, hM7, hE7⟩ := HE3.out.add hbA2 hlA hN HLS.out HB.out
        refine hKr _ _ (fun _ => ⟨z1, hM7 _ _ _ HMC.out⟩) ?_
        clear hKr Kr
        try simp only [List.getElem_toArray, List.getElem_cons_succ, List.getElem_cons_zero, Act.put, List.setIfInBounds_toArray, List.set_cons_zero, List.set_cons_succ]
        have hs4 := And.intro z1 (hM7 _ _ _ HMC.out)
        refine wpC_one (i := 5) (l' := #[true, true, true, true, true, true]) (by kernel_rfl) rfl rfl (by rfl) (fun Kr hKr => ?_)
        go_simp
        refine hKr _ _ (fun h => absurd (by decide) h) ?_
        clear hKr Kr
        try simp only [List.getElem_toArray, List.getElem_cons_succ, List.getElem_cons_zero, Act.put, List.setIfInBounds_toArray, List.set_cons_zero, List.set_cons_succ]
        refine wpC_done (by kernel_rfl) ?_ _
        skip
        refine hK _ _ ?_
        have HE9 := Lib.hid hE7
        clear hE7 hN hEA hcA hLA hbA2 hbA hoA hnA hlA hs0 hs4 z1 z2 hM7 hK
        have G9e := G7
        have t1 := HE9.out.fit
        rw [hfc] at t1
        go_wp2
        refine ⟨_, results_tmp rfl _ _ _, .inr ⟨by simp; omega, by first | rfl | (rw [← hdec]; rfl), p, f + 1, _, _, rfl, HE9.out.sub HCS.out⟩⟩
  | succ d ih =>
    intro C hCB p ws f L G hpd hok hfit hf hLf hE
    have hkm : p.length < x3.length := by omega
    have hmf : ∀ (fn : Fn) (first cap : Array Value) (w : World), (Instr.makeFunc fn first cap).run Try.prog w = .ok (.func fn first cap) w := fun _ _ _ _ => rfl
    have HE1 := Lib.hid (hE.more (.int .i64 p.length) 3)
    have HCB : Hid (∀ x, x ∈ C0 → x ∈ ((ws.heap.size, 0, Value.int .i64 p.length) :: C)) := Lib.hid (fun x hx => List.mem_cons_of_mem _ (hCB x hx))
    have HCS : Hid (∀ x, x ∈ C → x ∈ ((ws.heap.size, 0, Value.int .i64 p.length) :: C)) := Lib.hid (fun x hx => List.mem_cons_of_mem _ hx)
    have r7 := (HE1.out.caps _ _ _ (HCB.out _ (by rw [HC0.out]; exact .tail _ (.tail _ (.tail _ (.tail _ (.tail _ (.tail _ (.tail _ (.head _)))))))))).1
    have ht : ((p.length : Int) == (x3.length : Int)) = false := by simp; omega
    have i1 := ix_of (P := Try.prog) tabI.under tabI.size (a := some ⟨gb, 0, none⟩) (n := x3.length) (fun _ => ⟨gb, 0, rfl⟩) x3.length
    simp only [Nat.mul_one, adr, blk, ofs, Nat.zero_add] at i1
    have hkm' : (p.length : Int) < x3.length := by omega
    have j1 := fun w' => i1 p.length w' (by omega) hkm'
    simp only [Int.toNat_natCast] at j1
    have HIH := Lib.hid (fun (q : Nat) (hq : q ≤ 1000) (hfq : fitP x1 x2 x3 y0 y1 (padL x3.length (p ++ [(q : Int)])) = true) (wx : World) (f' : Nat) (L' : List (List Int)) (G' : List Nat) (hf' : f' ≤ 1500) (hL' : L'.length ≤ f') (hEx : Enf w0 wx ((ws.heap.size, 0, Value.int .i64 p.length) :: C) gb gl gf (padL x3.length (p ++ [(q : Int)])) f' L' G' 24) =>
      ih _ (fun x hx => HCB.out x hx) (p ++ [(q : Int)]) wx f' L' G' (by simp; omega) (hok.snoc hq) hfq hf' hL' hEx)
    have HFT : Hid (∀ (q : Nat), q < ext (fitP x1 x2 x3 y0 y1) x3.length p → q ≤ 1000 ∧ fitP x1 x2 x3 y0 y1 (padL x3.length (p ++ [(q : Int)])) = true) := Lib.hid (fun q hq => ⟨ext_1000 hq, ext_fit hq⟩)
    have HFS := Lib.hid (ext_stop hF hkm hok)
    have hx1 := ext_le (fit := (fitP x1 x2 x3 y0 y1)) (m := x3.length) p
    have HOK := Lib.hid hok
    have hpz := pad_zero (m := x3.length) hkm
    have HPZ := Lib.hid hpz
    have HE0 : Hid (Enf w0 (ws.alloc (.cells #[.int .i64 p.length] 3)) ((ws.heap.size, 0, Value.int .i64 p.length) :: C) gb gl gf (padL x3.length (p ++ [((0 : Nat) : Int)])) f L G 24) := Lib.hid (by rw [show ((0 : Nat) : Int) = 0 from rfl, hpz]; exact HE1.out)
    have hmk : ∀ q : Nat, (padL x3.length (p ++ [(q : Int)])).length = x3.length := fun q => padL_len (by simp; omega)
    have HMK := Lib.hid hmk
    have hmn : ∀ q : Nat, nth (padL x3.length (p ++ [(q : Int)])) p.length = q := fun q => by rw [padL_nth, snoc_nth, if_pos rfl]
    have HMN := Lib.hid hmn
    clear hok hfit hpd hCB ih hE i1 hmk hmn hpz
    go_enter_defers Try.func48, Try.ntmps48
    go_wp2
    go_loopw [9] (fun _ wr => ∃ (q f' : Nat) (L' : List (List Int)) (G' : List Nat), q ≤ ext (fitP x1 x2 x3 y0 y1) x3.length p ∧ Hid (f' = f + (enumP (fitP x1 x2 x3 y0 y1) x3.length d p q).length) ∧ f' ≤ 1500 ∧ L'.length ≤ f' ∧ Hid (L' = L ++ (enumP (fitP x1 x2 x3 y0 y1) x3.length d p q).filter (fun c => chosenS x1 x2 x3 (bagsS y0 y1) c mode)) ∧ Hid (Enf w0 wr ((ws.heap.size, 0, Value.int .i64 p.length) :: C) gb gl gf (padL x3.length (p ++ [(q : Int)])) f' L' G' 24)) (fun _ wr => ext (fitP x1 x2 x3 y0 y1) x3.length p - (intOf ((wr.cell? ⟨gb, p.length, none⟩).getD undef)).toNat)
    case atStart => exact ⟨0, f, L, G, Nat.zero_le _, Lib.hid (by simp [enumP]), hf, hLf, Lib.hid (by simp [enumP]), HE0⟩
    case round =>
      obtain ⟨q, f', L', G', hq, HFQ, hf', hL', HLQ, HEQ⟩ := hrel
      have hcell := HEQ.out.cells p.length (by rw [HMK.out]; exact hkm)
      rw [HMN.out] at hcell
      have HCELL := Lib.hid hcell
      have q0 := (HEQ.out.caps _ _ _ (HCB.out _ (by rw [HC0.out]; exact .head _))).1
      have q1 := (HEQ.out.caps _ _ _ (HCB.out _ (by rw [HC0.out]; exact .tail _ (.head _)))).1
      have q2 := (HEQ.out.caps _ _ _ (HCB.out _ (by rw [HC0.out]; exact .tail _ (.tail _ (.head _))))).1
      have q3 := (HEQ.out.caps _ _ _ (HCB.out _ (by rw [HC0.out]; exact .tail _ (.tail _ (.tail _ (.head _)))))).1
      have q4 := (HEQ.out.caps _ _ _ (HCB.out _ (by rw [HC0.out]; exact .tail _ (.tail _ (.tail _ (.tail _ (.head _))))))).1
      have q5 := (HEQ.out.caps _ _ _ (HCB.out _ (by rw [HC0.out]; exact .tail _ (.tail _ (.tail _ (.tail _ (.tail _ (.head _)))))))).1
      have q7 := (HEQ.out.caps _ _ _ (HCB.out _ (by rw [HC0.out]; exact .tail _ (.tail _ (.tail _ (.tail _ (.tail _ (.tail _ (.tail _ (.head _)))))))))).1
      have HFC := fits_c x0 x1 x2 x3 y0 y1 a1 a2 a3 b0 b1 c1 c2 c3 d0 d1 wr (h1.below HEQ.out.bel) (h2.below HEQ.out.bel) (h3.below HEQ.out.bel) (k0.below HEQ.out.bel) (k1.below HEQ.out.bel) (padL x3.length (p ++ [(q : Int)])) (some ⟨gb, 0, none⟩) x3.length (HEQ.out.slI (by rw [HMK.out]; unfold maxLen; omega)) K0 hps hst (HMK.out q) (fun j => by rw [padL_nth, snoc_nth]; have := HOK.out j; split <;> omega)
      rw [HMK.out] at HFC
      by_cases hlt : q < ext (fitP x1 x2 x3 y0 y1) x3.length p
      · obtain ⟨hq1, hfq⟩ := HFT.out q hlt
        rw [show fitsB x1 x2 x3 (bagsS y0 y1) (padL x3.length (p ++ [(q : Int)])) = true from hfq] at HFC
        replace HFC := Lib.hid HFC
        have HIQ := Lib.hid (fun wx hb => HIH.out q hq1 hfq wx f' L' G' hf' hL' (HEQ.out.next hb))
        clear hfq hcell
        go_wp2_with fail
        refine HFC.out.mono ?_
        rintro e w3 ⟨rfl, hb3⟩
        have HE3 := Lib.hid (HEQ.out.next hb3)
        have C3 := HIQ.out w3 hb3
        rw [show (((p ++ [(q : Int)]).length : Nat) : Int) = (p.length : Int) + 1 from by simp] at C3
        replace C3 := Lib.hid C3
        have q8 := (HE3.out.caps _ _ _ (HCB.out _ (by rw [HC0.out]; exact .tail _ (.tail _ (.tail _ (.tail _ (.tail _ (.tail _ (.tail _ (.tail _ (.head _))))))))))).1
        have qk := (HE3.out.caps _ _ _ (.head _)).1
        clear hb3 HFC q0 q1 q2 q3 q4 q5 q7
        go_wp2_with fail
        refine C3.out.mono ?_
        rintro e w4 (⟨hle, rfl, G2, hE4⟩ | ⟨hgt, rfl, bs2, f2, L2, G2, hbl, hE4⟩)
        · have HE4 := Lib.hid hE4
          have g1 := hE4.cells p.length (by rw [HMK.out]; exact hkm)
          rw [HMN.out] at g1
          have z1 := hE4.free p.length
          have u7 := (hE4.caps _ _ _ (HCB.out _ (by rw [HC0.out]; exact .tail _ (.tail _ (.tail _ (.tail _ (.tail _ (.tail _ (.tail _ (.head _)))))))))).1
          have uk := (hE4.caps _ _ _ (.head _)).1
          have hs5 := hE4.set (k := p.length) (by rw [HMK.out]; exact hkm) ((q : Int) + 1)
          rw [pad_set hkm, show (q : Int) + 1 = ((q + 1 : Nat) : Int) from by omega] at hs5
          have HE5 : Hid (Enf w0 (w4.setCell ⟨gb, p.length, none⟩ (.int .i64 ((q : Int) + 1))) ((ws.heap.size, 0, Value.int .i64 p.length) :: C) gb gl gf (padL x3.length (p ++ [((q + 1 : Nat) : Int)])) (f' + (enumF (fitP x1 x2 x3 y0 y1) x3.length d (p ++ [(q : Int)])).length) (L' ++ (enumF (fitP x1 x2 x3 y0 y1) x3.length d (p ++ [(q : Int)])).filter (fun c => chosenS x1 x2 x3 (bagsS y0 y1) c mode)) G2 24) := Lib.hid (by rw [show (q : Int) + 1 = ((q + 1 : Nat) : Int) from by omega]; exact hs5)
          have HC5 : Hid ((w4.setCell ⟨gb, p.length, none⟩ (.int .i64 ((q : Int) + 1))).cell? ⟨gb, p.length, none⟩ = some (.int .i64 ((q : Int) + 1))) := Lib.hid (World.cell?_setCell_same _ _ _ g1)
          have HF5 : Hid (f' + (enumF (fitP x1 x2 x3 y0 y1) x3.length d (p ++ [(q : Int)])).length = f + (enumP (fitP x1 x2 x3 y0 y1) x3.length d p (q + 1)).length) := Lib.hid (by rw [enumP_succ, List.length_append, HFQ.out]; omega)
          have HL5 : Hid (L' ++ (enumF (fitP x1 x2 x3 y0 y1) x3.length d (p ++ [(q : Int)])).filter (fun c => chosenS x1 x2 x3 (bagsS y0 y1) c mode) = L ++ (enumP (fitP x1 x2 x3 y0 y1) x3.length d p (q + 1)).filter (fun c => chosenS x1 x2 x3 (bagsS y0 y1) c mode)) := Lib.hid (by rw [enumP_succ, List.filter_append, HLQ.out, List.append_assoc])
          have hlen5 : (L' ++ (enumF (fitP x1 x2 x3 y0 y1) x3.length d (p ++ [(q : Int)])).filter (fun c => chosenS x1 x2 x3 (bagsS y0 y1) c mode)).length ≤ f' + (enumF (fitP x1 x2 x3 y0 y1) x3.length d (p ++ [(q : Int)])).length := by
            rw [List.length_append]
            have := List.length_filter_le (fun c => chosenS x1 x2 x3 (bagsS y0 y1) c mode) (enumF (fitP x1 x2 x3 y0 y1) x3.length d (p ++ [(q : Int)]))
            omega
          clear hE4 hs5 q8 qk
          go_wp2
          go_roundw
          case rel => exact ⟨q + 1, _, _, G2, by omega, HF5, hle, hlen5, HL5, HE5⟩
          case measure => rw [HC5.out, HCELL.out]; simp [intOf]; omega
        · have HE4 := Lib.hid hE4
          have hblm : p.length < bs2.length := by rw [hbl, HMK.out]; exact hkm
          have g1 := hE4.cells p.length hblm
          have z1 := hE4.free p.length
          have u7 := (hE4.caps _ _ _ (HCB.out _ (by rw [HC0.out]; exact .tail _ (.tail _ (.tail _ (.tail _ (.tail _ (.tail _ (.tail _ (.head _)))))))))).1
          have uk := (hE4.caps _ _ _ (.head _)).1
          have HGT : Hid (1500 < f + (enumF (fitP x1 x2 x3 y0 y1) x3.length (d + 1) p).length) := Lib.hid (by
            have h5 := enumP_mono (fit := (fitP x1 x2 x3 y0 y1)) (m := x3.length) d p (show q + 1 ≤ ext (fitP x1 x2 x3 y0 y1) x3.length p by omega)
            rw [enumP_ext, enumP_succ, List.length_append] at h5
            have := HFQ.out
            omega)
          have HSB := Lib.hid ((hE4.set hblm 0).sub HCS.out)
          have HBL : Hid ((bs2.set p.length 0).length = (padL x3.length p).length) := Lib.hid (by rw [List.length_set, hbl, HMK.out, padL_len (by omega)])
          clear hE4 q8 qk
          go_wp2
          (try simp only [Exit.inBlock, Exit.then])
          refine leaves_cons (f := 50) (args := #[.pointer (some ⟨gc, 0, none⟩), .pointer (some ⟨ws.heap.size, 0, none⟩)]) (by simp) (by simp [go_sem]) ?_
          refine (choicesD_c gc ws.heap.size gb x3.length x3.length p.length _ .returning _ u7 uk (by omega) g1 z1).mono ?_
          rintro e u' w'' ⟨rfl, rfl, rfl⟩
          exact ⟨_, results_tmp rfl _ _ _, .inr ⟨HGT.out, rfl, bs2.set p.length 0, f2, L2, G2, HBL.out, HSB.out⟩⟩
      · obtain rfl : q = ext (fitP x1 x2 x3 y0 y1) x3.length p := by omega
        rw [show fitsB x1 x2 x3 (bagsS y0 y1) (padL x3.length (p ++ [((ext (fitP x1 x2 x3 y0 y1) x3.length p : Nat) : Int)])) = false from HFS.out] at HFC
        replace HFC := Lib.hid HFC
        clear hcell
        go_wp2_with fail
        refine HFC.out.mono ?_
        rintro e w3 ⟨rfl, hb3⟩
        have hE3 := HEQ.out.next hb3
        have g1 := hE3.cells p.length (by rw [HMK.out]; exact hkm)
        have z1 := hE3.free p.length
        have u7 := (hE3.caps _ _ _ (HCB.out _ (by rw [HC0.out]; exact .tail _ (.tail _ (.tail _ (.tail _ (.tail _ (.tail _ (.tail _ (.head _)))))))))).1
        have uk := (hE3.caps _ _ _ (.head _)).1
        have hs5 := hE3.set (k := p.length) (by rw [HMK.out]; exact hkm) 0
        rw [padZ hkm] at hs5
        have HS5 := Lib.hid (hs5.sub HCS.out)
        have HF5 : Hid (f' = f + (enumF (fitP x1 x2 x3 y0 y1) x3.length (d + 1) p).length) := Lib.hid (by rw [← enumP_ext]; exact HFQ.out)
        have HL5 : Hid (L' = L ++ (enumF (fitP x1 x2 x3 y0 y1) x3.length (d + 1) p).filter (fun c => chosenS x1 x2 x3 (bagsS y0 y1) c mode)) := Lib.hid (by rw [← enumP_ext]; exact HLQ.out)
        clear hb3 hE3 hs5 HFC q0 q1 q2 q3 q4 q5 q7
        go_wp2
        (try simp only [Exit.inBlock, Exit.then])
        refine leaves_cons (f := 50) (args := #[.pointer (some ⟨gc, 0, none⟩), .pointer (some ⟨ws.heap.size, 0, none⟩)]) (by simp) (by simp [go_sem]) ?_
        refine (choicesD_c gc ws.heap.size gb x3.length x3.length p.length _ .returning _ u7 uk (by omega) g1 z1).mono ?_
        rintro e u' w'' ⟨rfl, rfl, rfl⟩
        exact ⟨_, results_tmp rfl _ _ _, .inl ⟨by rw [← HF5.out]; exact hf', rfl, G', by rw [← HF5.out, ← HL5.out]; exact HS5.out⟩⟩
end Go.Proofs.Ytkjmehpehopncaa

/- PassChoices, the program's, from its entry on. Written by mkuc.py. -/
namespace Go.Proofs.Ytkjmehpehopncaa
open Go.RowKit
theorem padL_nil (m : Nat) : padL m [] = List.replicate m 0 := by simp [padL]
set_option maxHeartbeats 8000000 in
set_option maxRecDepth 100000 in
theorem choices_c (x0 : Int) (x1 : List Int) (x2 : List Bool) (x3 : List PR) (y0 : List (List Int)) (y1 : List Int) (a1 a2 a3 b0 b1 : Option Addr) (c1 c2 c3 d0 d1 : Nat) (mode : Int) (w : World) (h1 : SlI Any w a1 x1) (h2 : SlB Any w a2 x2) (h3 : Rd Any w (dPR x3) (.slice a3 x3.length c3)) (k0 : SlII Any w b0 y0) (k1 : SlI Any w b1 y1) (K0 : Nat) (hps : PsOk K0 x1 x2 x3) (hst : StOk K0 x1.length y0 y1) :
    Calls Try.prog 26 #[.agg #[.int .i64 x0, .slice a1 x1.length c1, .slice a2 x2.length c2, .slice a3 x3.length c3], .agg #[.slice b0 y0.length d0, .slice b1 y1.length d1], .int .i64 mode] w (RetDC w (dII (choicesS x1 x2 x3 y0 y1 mode).1) (choicesS x1 x2 x3 y0 y1 mode).2) := by
  obtain ⟨X, hX⟩ : ∃ X, X = choicesS x1 x2 x3 y0 y1 mode := ⟨_, rfl⟩
  rw [← hX]
  have HX := Lib.hid hX
  clear hX
  have h8 := hps.r8
  have hF := fit_ok hps hst
  have hmf : ∀ (fn : Fn) (first cap : Array Value) (w : World), (Instr.makeFunc fn first cap).run Try.prog w = .ok (.func fn first cap) w := fun _ _ _ _ => rfl
  go_enter Try.func26, Try.ntmps26
  go_wp2_with (at_make; refine make_one rfl _ _ 24 rfl tabI rfl (by decide) x3.length _ _ rfl rfl rfl rfl (by omega) ((((((w.alloc (.cells #[.int .i64 x0, .slice a1 x1.length c1, .slice a2 x2.length c2, .slice a3 x3.length c3] 28)).alloc (.cells #[.slice b0 y0.length d0, .slice b1 y1.length d1] 31)).alloc (.cells #[.int .i64 mode] 2)).alloc (.cells #[] 24)).alloc (.cells #[.slice (some ⟨w.heap.size + 1 + 1 + 1, 0, none⟩) 0 0] 29)).alloc (.cells #[.int .i64 0] 3)).heap.size (Nat.le_refl _) ?_)
  intro w1 hbl1 hb1 hz1
  have hz6 : ((((((w.alloc (.cells #[.int .i64 x0, .slice a1 x1.length c1, .slice a2 x2.length c2, .slice a3 x3.length c3] 28)).alloc (.cells #[.slice b0 y0.length d0, .slice b1 y1.length d1] 31)).alloc (.cells #[.int .i64 mode] 2)).alloc (.cells #[] 24)).alloc (.cells #[.slice (some ⟨w.heap.size + 1 + 1 + 1, 0, none⟩) 0 0] 29)).alloc (.cells #[.int .i64 0] 3)).heap.size = w.heap.size + 1 + 1 + 1 + 1 + 1 + 1 := by simp
  have hzl : w.heap.size + 1 + 1 + 1 + 1 + 1 + 1 < w1.heap.size := by have h9 := (hbl1.lt _ rfl).2; first | exact h9 | (rw [← hz6]; exact h9)
  have hb0 : Below w.heap.size w ((((((w.alloc (.cells #[.int .i64 x0, .slice a1 x1.length c1, .slice a2 x2.length c2, .slice a3 x3.length c3] 28)).alloc (.cells #[.slice b0 y0.length d0, .slice b1 y1.length d1] 31)).alloc (.cells #[.int .i64 mode] 2)).alloc (.cells #[] 24)).alloc (.cells #[.slice (some ⟨w.heap.size + 1 + 1 + 1, 0, none⟩) 0 0] 29)).alloc (.cells #[.int .i64 0] 3)) := (((((below_alloc w _).alloc (by simp) _).alloc (by simp <;> omega) _).alloc (by simp <;> omega) _).alloc (by simp <;> omega) _).alloc (by simp <;> omega) _
  have hb8 : Below w1.heap.size w1 ((w1.alloc (.cells #[.slice (some ⟨w.heap.size + 1 + 1 + 1 + 1 + 1 + 1, 0, none⟩) x3.length x3.length] 24)).alloc (.cells #[.func (.func 48) #[] #[.pointer (some ⟨w1.heap.size, 0, none⟩), .pointer (some ⟨w.heap.size + 1 + 1 + 1 + 1 + 1, 0, none⟩), .pointer (some ⟨w.heap.size, 0, none⟩), .pointer (some ⟨w.heap.size + 1, 0, none⟩), .pointer (some ⟨w.heap.size + 1 + 1, 0, none⟩), .pointer (some ⟨w.heap.size + 1 + 1 + 1 + 1, 0, none⟩), .pointer (some ⟨w1.heap.size + 1, 0, none⟩)]] 85)) := ((below_alloc w1 _).alloc (by simp) _)
  have hBW : Below w.heap.size w ((w1.alloc (.cells #[.slice (some ⟨w.heap.size + 1 + 1 + 1 + 1 + 1 + 1, 0, none⟩) x3.length x3.length] 24)).alloc (.cells #[.func (.func 48) #[] #[.pointer (some ⟨w1.heap.size, 0, none⟩), .pointer (some ⟨w.heap.size + 1 + 1 + 1 + 1 + 1, 0, none⟩), .pointer (some ⟨w.heap.size, 0, none⟩), .pointer (some ⟨w.heap.size + 1, 0, none⟩), .pointer (some ⟨w.heap.size + 1 + 1, 0, none⟩), .pointer (some ⟨w.heap.size + 1 + 1 + 1 + 1, 0, none⟩), .pointer (some ⟨w1.heap.size + 1, 0, none⟩)]] 85)) := (hb0.trans (hb1.mono (by first | omega | (simp; done) | (simp; omega)))).trans (hb8.mono (by omega))
  have t0 : ((w1.alloc (.cells #[.slice (some ⟨w.heap.size + 1 + 1 + 1 + 1 + 1 + 1, 0, none⟩) x3.length x3.length] 24)).alloc (.cells #[.func (.func 48) #[] #[.pointer (some ⟨w1.heap.size, 0, none⟩), .pointer (some ⟨w.heap.size + 1 + 1 + 1 + 1 + 1, 0, none⟩), .pointer (some ⟨w.heap.size, 0, none⟩), .pointer (some ⟨w.heap.size + 1, 0, none⟩), .pointer (some ⟨w.heap.size + 1 + 1, 0, none⟩), .pointer (some ⟨w.heap.size + 1 + 1 + 1 + 1, 0, none⟩), .pointer (some ⟨w1.heap.size + 1, 0, none⟩)]] 85)).cell? ⟨w.heap.size, 0, none⟩ = some (.int .i64 x0) := (bcell1 hb8 (by omega)).trans ((bcell1 hb1 (by first | omega | (simp; done) | (simp; omega))).trans (by simp [go_sem]))
  have t1 : ((w1.alloc (.cells #[.slice (some ⟨w.heap.size + 1 + 1 + 1 + 1 + 1 + 1, 0, none⟩) x3.length x3.length] 24)).alloc (.cells #[.func (.func 48) #[] #[.pointer (some ⟨w1.heap.size, 0, none⟩), .pointer (some ⟨w.heap.size + 1 + 1 + 1 + 1 + 1, 0, none⟩), .pointer (some ⟨w.heap.size, 0, none⟩), .pointer (some ⟨w.heap.size + 1, 0, none⟩), .pointer (some ⟨w.heap.size + 1 + 1, 0, none⟩), .pointer (some ⟨w.heap.size + 1 + 1 + 1 + 1, 0, none⟩), .pointer (some ⟨w1.heap.size + 1, 0, none⟩)]] 85)).cell? ⟨w.heap.size, 1, none⟩ = some (.slice a1 x1.length c1) := (bcell1 hb8 (by omega)).trans ((bcell1 hb1 (by first | omega | (simp; done) | (simp; omega))).trans (by simp [go_sem]))
  have t2 : ((w1.alloc (.cells #[.slice (some ⟨w.heap.size + 1 + 1 + 1 + 1 + 1 + 1, 0, none⟩) x3.length x3.length] 24)).alloc (.cells #[.func (.func 48) #[] #[.pointer (some ⟨w1.heap.size, 0, none⟩), .pointer (some ⟨w.heap.size + 1 + 1 + 1 + 1 + 1, 0, none⟩), .pointer (some ⟨w.heap.size, 0, none⟩), .pointer (some ⟨w.heap.size + 1, 0, none⟩), .pointer (some ⟨w.heap.size + 1 + 1, 0, none⟩), .pointer (some ⟨w.heap.size + 1 + 1 + 1 + 1, 0, none⟩), .pointer (some ⟨w1.heap.size + 1, 0, none⟩)]] 85)).cell? ⟨w.heap.size, 2, none⟩ = some (.slice a2 x2.length c2) := (bcell1 hb8 (by omega)).trans ((bcell1 hb1 (by first | omega | (simp; done) | (simp; omega))).trans (by simp [go_sem]))
  have t3 : ((w1.alloc (.cells #[.slice (some ⟨w.heap.size + 1 + 1 + 1 + 1 + 1 + 1, 0, none⟩) x3.length x3.length] 24)).alloc (.cells #[.func (.func 48) #[] #[.pointer (some ⟨w1.heap.size, 0, none⟩), .pointer (some ⟨w.heap.size + 1 + 1 + 1 + 1 + 1, 0, none⟩), .pointer (some ⟨w.heap.size, 0, none⟩), .pointer (some ⟨w.heap.size + 1, 0, none⟩), .pointer (some ⟨w.heap.size + 1 + 1, 0, none⟩), .pointer (some ⟨w.heap.size + 1 + 1 + 1 + 1, 0, none⟩), .pointer (some ⟨w1.heap.size + 1, 0, none⟩)]] 85)).cell? ⟨w.heap.size, 3, none⟩ = some (.slice a3 x3.length c3) := (bcell1 hb8 (by omega)).trans ((bcell1 hb1 (by first | omega | (simp; done) | (simp; omega))).trans (by simp [go_sem]))
  have t4 : ((w1.alloc (.cells #[.slice (some ⟨w.heap.size + 1 + 1 + 1 + 1 + 1 + 1, 0, none⟩) x3.length x3.length] 24)).alloc (.cells #[.func (.func 48) #[] #[.pointer (some ⟨w1.heap.size, 0, none⟩), .pointer (some ⟨w.heap.size + 1 + 1 + 1 + 1 + 1, 0, none⟩), .pointer (some ⟨w.heap.size, 0, none⟩), .pointer (some ⟨w.heap.size + 1, 0, none⟩), .pointer (some ⟨w.heap.size + 1 + 1, 0, none⟩), .pointer (some ⟨w.heap.size + 1 + 1 + 1 + 1, 0, none⟩), .pointer (some ⟨w1.heap.size + 1, 0, none⟩)]] 85)).cell? ⟨w.heap.size + 1, 0, none⟩ = some (.slice b0 y0.length d0) := (bcell1 hb8 (by omega)).trans ((bcell1 hb1 (by first | omega | (simp; done) | (simp; omega))).trans (by simp [go_sem]))
  have t5 : ((w1.alloc (.cells #[.slice (some ⟨w.heap.size + 1 + 1 + 1 + 1 + 1 + 1, 0, none⟩) x3.length x3.length] 24)).alloc (.cells #[.func (.func 48) #[] #[.pointer (some ⟨w1.heap.size, 0, none⟩), .pointer (some ⟨w.heap.size + 1 + 1 + 1 + 1 + 1, 0, none⟩), .pointer (some ⟨w.heap.size, 0, none⟩), .pointer (some ⟨w.heap.size + 1, 0, none⟩), .pointer (some ⟨w.heap.size + 1 + 1, 0, none⟩), .pointer (some ⟨w.heap.size + 1 + 1 + 1 + 1, 0, none⟩), .pointer (some ⟨w1.heap.size + 1, 0, none⟩)]] 85)).cell? ⟨w.heap.size + 1, 1, none⟩ = some (.slice b1 y1.length d1) := (bcell1 hb8 (by omega)).trans ((bcell1 hb1 (by first | omega | (simp; done) | (simp; omega))).trans (by simp [go_sem]))
  have t6 : ((w1.alloc (.cells #[.slice (some ⟨w.heap.size + 1 + 1 + 1 + 1 + 1 + 1, 0, none⟩) x3.length x3.length] 24)).alloc (.cells #[.func (.func 48) #[] #[.pointer (some ⟨w1.heap.size, 0, none⟩), .pointer (some ⟨w.heap.size + 1 + 1 + 1 + 1 + 1, 0, none⟩), .pointer (some ⟨w.heap.size, 0, none⟩), .pointer (some ⟨w.heap.size + 1, 0, none⟩), .pointer (some ⟨w.heap.size + 1 + 1, 0, none⟩), .pointer (some ⟨w.heap.size + 1 + 1 + 1 + 1, 0, none⟩), .pointer (some ⟨w1.heap.size + 1, 0, none⟩)]] 85)).cell? ⟨w.heap.size + 1 + 1, 0, none⟩ = some (.int .i64 mode) := (bcell1 hb8 (by omega)).trans ((bcell1 hb1 (by first | omega | (simp; done) | (simp; omega))).trans (by simp [go_sem]))
  have tc : ((w1.alloc (.cells #[.slice (some ⟨w.heap.size + 1 + 1 + 1 + 1 + 1 + 1, 0, none⟩) x3.length x3.length] 24)).alloc (.cells #[.func (.func 48) #[] #[.pointer (some ⟨w1.heap.size, 0, none⟩), .pointer (some ⟨w.heap.size + 1 + 1 + 1 + 1 + 1, 0, none⟩), .pointer (some ⟨w.heap.size, 0, none⟩), .pointer (some ⟨w.heap.size + 1, 0, none⟩), .pointer (some ⟨w.heap.size + 1 + 1, 0, none⟩), .pointer (some ⟨w.heap.size + 1 + 1 + 1 + 1, 0, none⟩), .pointer (some ⟨w1.heap.size + 1, 0, none⟩)]] 85)).cell? ⟨w1.heap.size, 0, none⟩ = some (.slice (some ⟨w.heap.size + 1 + 1 + 1 + 1 + 1 + 1, 0, none⟩) x3.length x3.length) := by simp [go_sem]
  have tn : ((w1.alloc (.cells #[.slice (some ⟨w.heap.size + 1 + 1 + 1 + 1 + 1 + 1, 0, none⟩) x3.length x3.length] 24)).alloc (.cells #[.func (.func 48) #[] #[.pointer (some ⟨w1.heap.size, 0, none⟩), .pointer (some ⟨w.heap.size + 1 + 1 + 1 + 1 + 1, 0, none⟩), .pointer (some ⟨w.heap.size, 0, none⟩), .pointer (some ⟨w.heap.size + 1, 0, none⟩), .pointer (some ⟨w.heap.size + 1 + 1, 0, none⟩), .pointer (some ⟨w.heap.size + 1 + 1 + 1 + 1, 0, none⟩), .pointer (some ⟨w1.heap.size + 1, 0, none⟩)]] 85)).cell? ⟨w1.heap.size + 1, 0, none⟩ = some (.func (.func 48) #[] #[.pointer (some ⟨w1.heap.size, 0, none⟩), .pointer (some ⟨w.heap.size + 1 + 1 + 1 + 1 + 1, 0, none⟩), .pointer (some ⟨w.heap.size, 0, none⟩), .pointer (some ⟨w.heap.size + 1, 0, none⟩), .pointer (some ⟨w.heap.size + 1 + 1, 0, none⟩), .pointer (some ⟨w.heap.size + 1 + 1 + 1 + 1, 0, none⟩), .pointer (some ⟨w1.heap.size + 1, 0, none⟩)]) := by simp [go_sem]
  have hfr : ∀ b i, b < w.heap.size + 1 + 1 + 1 + 1 + 1 + 1 → ((((((w.alloc (.cells #[.int .i64 x0, .slice a1 x1.length c1, .slice a2 x2.length c2, .slice a3 x3.length c3] 28)).alloc (.cells #[.slice b0 y0.length d0, .slice b1 y1.length d1] 31)).alloc (.cells #[.int .i64 mode] 2)).alloc (.cells #[] 24)).alloc (.cells #[.slice (some ⟨w.heap.size + 1 + 1 + 1, 0, none⟩) 0 0] 29)).alloc (.cells #[.int .i64 0] 3)).frozen? ⟨b, i, none⟩ = false → ((w1.alloc (.cells #[.slice (some ⟨w.heap.size + 1 + 1 + 1 + 1 + 1 + 1, 0, none⟩) x3.length x3.length] 24)).alloc (.cells #[.func (.func 48) #[] #[.pointer (some ⟨w1.heap.size, 0, none⟩), .pointer (some ⟨w.heap.size + 1 + 1 + 1 + 1 + 1, 0, none⟩), .pointer (some ⟨w.heap.size, 0, none⟩), .pointer (some ⟨w.heap.size + 1, 0, none⟩), .pointer (some ⟨w.heap.size + 1 + 1, 0, none⟩), .pointer (some ⟨w.heap.size + 1 + 1 + 1 + 1, 0, none⟩), .pointer (some ⟨w1.heap.size + 1, 0, none⟩)]] 85)).frozen? ⟨b, i, none⟩ = false := fun b i hb hf => (hb8.frozen (p := ⟨b, i, none⟩) (by simp; omega)).trans ((hb1.frozen (p := ⟨b, i, none⟩) (by first | exact hb | (rw [hz6]; exact hb))).trans hf)
  have hE : Enf w ((w1.alloc (.cells #[.slice (some ⟨w.heap.size + 1 + 1 + 1 + 1 + 1 + 1, 0, none⟩) x3.length x3.length] 24)).alloc (.cells #[.func (.func 48) #[] #[.pointer (some ⟨w1.heap.size, 0, none⟩), .pointer (some ⟨w.heap.size + 1 + 1 + 1 + 1 + 1, 0, none⟩), .pointer (some ⟨w.heap.size, 0, none⟩), .pointer (some ⟨w.heap.size + 1, 0, none⟩), .pointer (some ⟨w.heap.size + 1 + 1, 0, none⟩), .pointer (some ⟨w.heap.size + 1 + 1 + 1 + 1, 0, none⟩), .pointer (some ⟨w1.heap.size + 1, 0, none⟩)]] 85)) [(w.heap.size, 0, .int .i64 x0), (w.heap.size, 1, .slice a1 x1.length c1), (w.heap.size, 2, .slice a2 x2.length c2), (w.heap.size, 3, .slice a3 x3.length c3), (w.heap.size + 1, 0, .slice b0 y0.length d0), (w.heap.size + 1, 1, .slice b1 y1.length d1), (w.heap.size + 1 + 1, 0, .int .i64 mode), (w1.heap.size, 0, .slice (some ⟨w.heap.size + 1 + 1 + 1 + 1 + 1 + 1, 0, none⟩) x3.length x3.length), (w1.heap.size + 1, 0, .func (.func 48) #[] #[.pointer (some ⟨w1.heap.size, 0, none⟩), .pointer (some ⟨w.heap.size + 1 + 1 + 1 + 1 + 1, 0, none⟩), .pointer (some ⟨w.heap.size, 0, none⟩), .pointer (some ⟨w.heap.size + 1, 0, none⟩), .pointer (some ⟨w.heap.size + 1 + 1, 0, none⟩), .pointer (some ⟨w.heap.size + 1 + 1 + 1 + 1, 0, none⟩), .pointer (some ⟨w1.heap.size + 1, 0, none⟩)])] (w.heap.size + 1 + 1 + 1 + 1 + 1 + 1) (w.heap.size + 1 + 1 + 1 + 1) (w.heap.size + 1 + 1 + 1 + 1 + 1) (padL x3.length []) 0 [] [w.heap.size + 1 + 1 + 1] 24 := by
    refine ⟨hBW, fun p i v hp => ?_, fun i hi => ?_, fun i => ?_, (bcell1 hb8 (by omega)).trans ((bcell1 hb1 (by first | omega | (simp; done) | (simp; omega))).trans (by simp [go_sem])), hfr _ _ (by omega) (by simp [go_sem]), ⟨hfr _ _ (by omega) (by simp [go_sem]), ⟨.slice (some ⟨w.heap.size + 1 + 1 + 1, 0, none⟩) 0 0, (bcell1 hb8 (by omega)).trans ((bcell1 hb1 (by first | omega | (simp; done) | (simp; omega))).trans (by simp [go_sem])), ?_⟩, by intro hg; simp only [List.mem_singleton] at hg; omega⟩, ⟨by omega, by omega, by omega⟩, ⟨by simp <;> omega, by simp <;> omega⟩, by simp; omega, ⟨by omega, by omega, by omega⟩⟩
    · simp only [List.mem_cons, List.not_mem_nil, or_false, Prod.mk.injEq] at hp
      rcases hp with ⟨rfl, rfl, rfl⟩ | ⟨rfl, rfl, rfl⟩ | ⟨rfl, rfl, rfl⟩ | ⟨rfl, rfl, rfl⟩ | ⟨rfl, rfl, rfl⟩ | ⟨rfl, rfl, rfl⟩ | ⟨rfl, rfl, rfl⟩ | ⟨rfl, rfl, rfl⟩ | ⟨rfl, rfl, rfl⟩
      · exact ⟨t0, by omega, by omega, by omega, by simp <;> omega⟩
      · exact ⟨t1, by omega, by omega, by omega, by simp <;> omega⟩
      · exact ⟨t2, by omega, by omega, by omega, by simp <;> omega⟩
      · exact ⟨t3, by omega, by omega, by omega, by simp <;> omega⟩
      · exact ⟨t4, by omega, by omega, by omega, by simp <;> omega⟩
      · exact ⟨t5, by omega, by omega, by omega, by simp <;> omega⟩
      · exact ⟨t6, by omega, by omega, by omega, by simp <;> omega⟩
      · exact ⟨tc, by omega, by omega, by omega, by simp <;> omega⟩
      · exact ⟨tn, by omega, by omega, by omega, by simp <;> omega⟩
    · rw [padL_len (by simp)] at hi
      rw [padL_nil, nth_rep]
      have h5 := hbl1.cell (i := i) (v := .int .i64 0) (by simp [hi])
      try rw [hz6] at h5
      exact (bcell1 hb8 (by omega)).trans h5
    · have h5 := hbl1.free i
      try rw [hz6] at h5
      exact (hb8.frozen (p := ⟨w.heap.size + 1 + 1 + 1 + 1 + 1 + 1, i, none⟩) (by simp; omega)).trans h5
    · have h5 := Lst.made 24 1 (((w.alloc (.cells #[.int .i64 x0, .slice a1 x1.length c1, .slice a2 x2.length c2, .slice a3 x3.length c3] 28)).alloc (.cells #[.slice b0 y0.length d0, .slice b1 y1.length d1] 31)).alloc (.cells #[.int .i64 mode] 2)) w.heap.size (by simp <;> omega)
      have h6 := h5.below (((below_alloc _ (.cells #[.slice (some ⟨w.heap.size + 1 + 1 + 1, 0, none⟩) 0 0] 29)).alloc (by simp) (.cells #[.int .i64 0] 3)).trans ((hb1.mono (by simp)).trans (hb8.mono (by simp; omega))))
      simpa using h6
  have C := from_c x0 x1 x2 x3 y0 y1 a1 a2 a3 b0 b1 c1 c2 c3 d0 d1 mode w h1 h2 h3 k0 k1 K0 hps hst (w.heap.size) (w.heap.size + 1) (w.heap.size + 1 + 1) w1.heap.size (w1.heap.size + 1) (w.heap.size + 1 + 1 + 1 + 1 + 1 + 1) (w.heap.size + 1 + 1 + 1 + 1) (w.heap.size + 1 + 1 + 1 + 1 + 1) _ rfl x3.length _ (fun x hx => hx) [] _ 0 [] _ (by simp) (fun j => by simp [nth]) (by rw [padL_nil]; exact hF.zero) (by omega) (by simp) hE
  have C2 : Calls Try.prog 48 #[.int .i64 0, .pointer (some ⟨w1.heap.size, 0, none⟩), .pointer (some ⟨w.heap.size + 1 + 1 + 1 + 1 + 1, 0, none⟩), .pointer (some ⟨w.heap.size, 0, none⟩), .pointer (some ⟨w.heap.size + 1, 0, none⟩), .pointer (some ⟨w.heap.size + 1 + 1, 0, none⟩), .pointer (some ⟨w.heap.size + 1 + 1 + 1 + 1, 0, none⟩), .pointer (some ⟨w1.heap.size + 1, 0, none⟩)] ((w1.alloc (.cells #[.slice (some ⟨w.heap.size + 1 + 1 + 1 + 1 + 1 + 1, 0, none⟩) x3.length x3.length] 24)).alloc (.cells #[.func (.func 48) #[] #[.pointer (some ⟨w1.heap.size, 0, none⟩), .pointer (some ⟨w.heap.size + 1 + 1 + 1 + 1 + 1, 0, none⟩), .pointer (some ⟨w.heap.size, 0, none⟩), .pointer (some ⟨w.heap.size + 1, 0, none⟩), .pointer (some ⟨w.heap.size + 1 + 1, 0, none⟩), .pointer (some ⟨w.heap.size + 1 + 1 + 1 + 1, 0, none⟩), .pointer (some ⟨w1.heap.size + 1, 0, none⟩)]] 85)) (FrmP w [(w.heap.size, 0, .int .i64 x0), (w.heap.size, 1, .slice a1 x1.length c1), (w.heap.size, 2, .slice a2 x2.length c2), (w.heap.size, 3, .slice a3 x3.length c3), (w.heap.size + 1, 0, .slice b0 y0.length d0), (w.heap.size + 1, 1, .slice b1 y1.length d1), (w.heap.size + 1 + 1, 0, .int .i64 mode), (w1.heap.size, 0, .slice (some ⟨w.heap.size + 1 + 1 + 1 + 1 + 1 + 1, 0, none⟩) x3.length x3.length), (w1.heap.size + 1, 0, .func (.func 48) #[] #[.pointer (some ⟨w1.heap.size, 0, none⟩), .pointer (some ⟨w.heap.size + 1 + 1 + 1 + 1 + 1, 0, none⟩), .pointer (some ⟨w.heap.size, 0, none⟩), .pointer (some ⟨w.heap.size + 1, 0, none⟩), .pointer (some ⟨w.heap.size + 1 + 1, 0, none⟩), .pointer (some ⟨w.heap.size + 1 + 1 + 1 + 1, 0, none⟩), .pointer (some ⟨w1.heap.size + 1, 0, none⟩)])] (w.heap.size + 1 + 1 + 1 + 1 + 1 + 1) (w.heap.size + 1 + 1 + 1 + 1) (w.heap.size + 1 + 1 + 1 + 1 + 1) (padL x3.length []) 0 [] (allF (fitP x1 x2 x3 y0 y1) x3.length) (fun c => chosenS x1 x2 x3 (bagsS y0 y1) c mode) 24) := C
  replace C2 := Lib.hid C2
  clear C hE hbl1 hb1 hz1 hz6 hb0 hb8 hBW hfr tc tn t0 t1 t2 t3 t4 t5 t6 h1 h2 h3 k0 k1 hps hst hF
  go_wp2_with fail
  refine C2.out.mono ?_
  rintro e w9 (⟨hle, rfl, G9, hE⟩ | ⟨hgt, rfl, bs9, f9, L9, G9, _, hE⟩)
  · have hle2 : (allF (fitP x1 x2 x3 y0 y1) x3.length).length ≤ 1500 := by omega
    have hres : choicesS x1 x2 x3 y0 y1 mode = (chL x1 x2 x3 y0 y1 mode, 0) := by unfold choicesS; rw [if_pos hle2]
    have hL : [] ++ (allF (fitP x1 x2 x3 y0 y1) x3.length).filter (fun c => chosenS x1 x2 x3 (bagsS y0 y1) c mode) = chL x1 x2 x3 y0 y1 mode := rfl
    rw [hL] at hE
    obtain ⟨v, hv, hls⟩ := hE.box.has
    obtain ⟨hln, av, cv, rfl⟩ := hls.val
    have hll : (chL x1 x2 x3 y0 y1 mode).length ≤ 1500 := Nat.le_trans (List.length_filter_le _ _) hle2
    obtain ⟨G', ho, hn, hs⟩ := hls.ow (by omega) (by unfold maxLen; omega)
    have HR : Hid (RetDC w (dII X.1) X.2 (.returned (.tuple #[.slice av (chL x1 x2 x3 y0 y1 mode).length cv, .int .i64 0])) w9) := Lib.hid (by rw [HX.out, hres]; exact ⟨_, G', rfl, hE.bel, ho, hn, fun g hg => (hls.lt g (hs g hg)).1⟩)
    clear hE hls ho hn hs hln hL hres hle hle2 C2
    go_wp2
    go_ret2
    exact HR.out
  · have hres : choicesS x1 x2 x3 y0 y1 mode = ([], 3) := by unfold choicesS; rw [if_neg (by omega)]
    have HR : Hid (RetDC w (dII X.1) X.2 (.returned (.tuple #[.slice none 0 0, .int .i64 3])) w9) := Lib.hid (by rw [HX.out, hres]; exact (RetDC.none _ _ _ hE.bel : RetDC w (dI []) 3 _ _))
    clear hE hres hgt C2
    go_wp2
    go_ret2
    exact HR.out
set_option maxHeartbeats 2000000 in
theorem modeOf_c (x0 : Int) (x1 : List Int) (x2 : List Bool) (x3 : List PR) (y0 : List (List Int)) (y1 : List Int) (a1 a2 a3 b0 b1 : Option Addr) (c1 c2 c3 d0 d1 : Nat) (mode : Int) (w : World) (h1 : SlI Any w a1 x1) (hc1 : x1.length ≤ c1) (h2 : SlB Any w a2 x2) (h3 : Rd Any w (dPR x3) (.slice a3 x3.length c3)) (k0 : SlII Any w b0 y0) (k1 : SlI Any w b1 y1) (hst0 : stCode x0 x1 x2 x3 y0 y1 = 0) (hmode : inRg mode 1 3 = true) :
    Calls Try.prog 25 #[.agg #[.int .i64 x0, .slice a1 x1.length c1, .slice a2 x2.length c2, .slice a3 x3.length c3], .agg #[.slice b0 y0.length d0, .slice b1 y1.length d1], .int .i64 mode] w (RetV w (.int .i64 0)) := by
  have hb0 : Below w.heap.size w ((w.alloc (.cells #[.int .i64 x0, .slice a1 x1.length c1, .slice a2 x2.length c2, .slice a3 x3.length c3] 28)).alloc (.cells #[.slice b0 y0.length d0, .slice b1 y1.length d1] 31)) := ((Below.refl _ _).alloc (Nat.le_refl _) _).alloc (by simp) _
  have C := stockCode_c x0 x1 x2 x3 y0 y1 a1 a2 a3 b0 b1 c1 c2 c3 d0 d1 ((w.alloc (.cells #[.int .i64 x0, .slice a1 x1.length c1, .slice a2 x2.length c2, .slice a3 x3.length c3] 28)).alloc (.cells #[.slice b0 y0.length d0, .slice b1 y1.length d1] 31)) (h1.below hb0) hc1 (h2.below hb0) (h3.below hb0) (k0.below hb0) (k1.below hb0)
  rw [hst0] at C
  replace C := Lib.hid C
  have HB0 := Lib.hid hb0
  have HM := Lib.hid (fun wx => isMode_c mode wx)
  rw [hmode] at HM
  clear hb0 h1 h2 h3 k0 k1
  go_enter Try.func25, Try.ntmps25
  go_wp2_with fail
  refine C.out.mono ?_
  rintro e w1 ⟨rfl, hb1⟩
  have HB1 := Lib.hid (HB0.out.trans (hb1.mono (by simp <;> omega)))
  clear hb1 C
  go_wp2_with fail
  refine (HM.out _).mono ?_
  rintro e w2 ⟨rfl, rfl⟩
  go_wp2
  go_ret
  exact ⟨rfl, HB1.out⟩
set_option maxHeartbeats 2000000 in
theorem implPassChoices_c (x0 : Int) (x1 : List Int) (x2 : List Bool) (x3 : List PR) (y0 : List (List Int)) (y1 : List Int) (a1 a2 a3 b0 b1 : Option Addr) (c1 c2 c3 d0 d1 : Nat) (mode : Int) (w : World) (h1 : SlI Any w a1 x1) (hc1 : x1.length ≤ c1) (h2 : SlB Any w a2 x2) (h3 : Rd Any w (dPR x3) (.slice a3 x3.length c3)) (k0 : SlII Any w b0 y0) (k1 : SlI Any w b1 y1) (K0 : Nat) (hps : PsOk K0 x1 x2 x3) (hst : StOk K0 x1.length y0 y1) (hst0 : stCode x0 x1 x2 x3 y0 y1 = 0) (hmode : inRg mode 1 3 = true) :
    Calls Try.prog 9 #[.agg #[.int .i64 x0, .slice a1 x1.length c1, .slice a2 x2.length c2, .slice a3 x3.length c3], .agg #[.slice b0 y0.length d0, .slice b1 y1.length d1], .int .i64 mode] w (RetDC w (dII (choicesS x1 x2 x3 y0 y1 mode).1) (choicesS x1 x2 x3 y0 y1 mode).2) := by
  have hb0 : Below w.heap.size w ((w.alloc (.cells #[.int .i64 x0, .slice a1 x1.length c1, .slice a2 x2.length c2, .slice a3 x3.length c3] 28)).alloc (.cells #[.slice b0 y0.length d0, .slice b1 y1.length d1] 31)) := ((Below.refl _ _).alloc (Nat.le_refl _) _).alloc (by simp) _
  have C := Lib.hid (modeOf_c x0 x1 x2 x3 y0 y1 a1 a2 a3 b0 b1 c1 c2 c3 d0 d1 mode ((w.alloc (.cells #[.int .i64 x0, .slice a1 x1.length c1, .slice a2 x2.length c2, .slice a3 x3.length c3] 28)).alloc (.cells #[.slice b0 y0.length d0, .slice b1 y1.length d1] 31)) (h1.below hb0) hc1 (h2.below hb0) (h3.below hb0) (k0.below hb0) (k1.below hb0) hst0 hmode)
  obtain ⟨X, hX⟩ : ∃ X, X = choicesS x1 x2 x3 y0 y1 mode := ⟨_, rfl⟩
  have HC := Lib.hid (fun (wx : World) (hb : Below w.heap.size w wx) => choices_c x0 x1 x2 x3 y0 y1 a1 a2 a3 b0 b1 c1 c2 c3 d0 d1 mode wx (h1.below hb) (h2.below hb) (h3.below hb) (k0.below hb) (k1.below hb) K0 hps hst)
  rw [← hX] at HC ⊢
  have HB0 := Lib.hid hb0
  clear hb0 h1 h2 h3 k0 k1 hX hps hst
  go_enter Try.func9, Try.ntmps9
  go_wp2_with fail
  refine C.out.mono ?_
  rintro e w1 ⟨rfl, hb1⟩
  have HB1 := Lib.hid (HB0.out.trans (hb1.mono (by simp <;> omega)))
  have p0 : w1.cell? ⟨w.heap.size, 0, none⟩ = some (.int .i64 x0) := by rw [bcell1 hb1 (by simp <;> omega)]; simp [go_sem]
  have p1 : w1.cell? ⟨w.heap.size, 1, none⟩ = some (.slice a1 x1.length c1) := by rw [bcell1 hb1 (by simp <;> omega)]; simp [go_sem]
  have p2 : w1.cell? ⟨w.heap.size, 2, none⟩ = some (.slice a2 x2.length c2) := by rw [bcell1 hb1 (by simp <;> omega)]; simp [go_sem]
  have p3 : w1.cell? ⟨w.heap.size, 3, none⟩ = some (.slice a3 x3.length c3) := by rw [bcell1 hb1 (by simp <;> omega)]; simp [go_sem]
  have s0 : w1.cell? ⟨w.heap.size + 1, 0, none⟩ = some (.slice b0 y0.length d0) := by rw [bcell1 hb1 (by simp <;> omega)]; simp [go_sem]
  have s1 : w1.cell? ⟨w.heap.size + 1, 1, none⟩ = some (.slice b1 y1.length d1) := by rw [bcell1 hb1 (by simp <;> omega)]; simp [go_sem]
  have C2 := Lib.hid (HC.out w1 HB1.out)
  clear hb1 C
  go_wp2_with fail
  refine C2.out.mono ?_
  rintro e w2 ⟨v, F, rfl, hb2, ho, hn, hF⟩
  have HR : Hid (RetDC w (dII X.1) X.2 (.returned (.tuple #[v, .int .i64 X.2])) w2) := Lib.hid ⟨v, F, rfl, bnext HB1.out hb2 (Nat.le_refl _), ho, hn, fun g hg => Nat.le_trans HB1.out.size (hF g hg)⟩
  obtain ⟨a9, c9, rfl⟩ := Ow.valII ho
  clear hb2 ho hn hF C2 p0 p1 p2 p3 s0 s1
  go_wp2
  go_ret2
  exact HR.out
end Go.Proofs.Ytkjmehpehopncaa

/- Taking by a rule, the reference's: only the list's own block changes. Written by mktg.py out of XTK. -/
namespace Go.Proofs.Ytkjmehpehopncaa
open Go.RowKit
/-- The old blocks, and all blocks but g, are as they were. -/
structure BelG (B g : Nat) (w w' : World) : Prop where
  bel : Below B w w'
  chg : Chg [g] w w'
theorem BelG.setCell {B g : Nat} {w w' : World} (h : BelG B g w w') (hB : B ≤ g) (i : Nat) (u : Value) : BelG B g w (w'.setCell ⟨g, i, none⟩ u) :=
  ⟨h.bel.setCell hB u, h.chg.trans (chg_set w' ⟨g, i, none⟩ u [g] (by simp))⟩
theorem BelG.drew {B g : Nat} {w w' : World} (h : BelG B g w w') : BelG B g w w'.drew := ⟨h.bel.drew, h.chg.trans (Chg.ofBelow (Below.refl _ _).drew)⟩
set_option maxHeartbeats 8000000 in
set_option maxRecDepth 100000 in
theorem l06TakeG_c (K : Nat) (x1 : List Int) (x2 : List Bool) (r : PR) (n : Int) (xs : List Int) (a1 a2 u1 u2 : Option Addr) (c1 c2 d1 d2 : Nat) (p rb ro g cg B : Nat) (v3 : Value) (w : World) (h1 : SlI (· < B) w a1 x1) (h2 : SlB (· < B) w a2 x2) (k1 : SlI (· < B) w u1 r.out) (k2 : SlI (· < B) w u2 r.inn)
    (hp0 : w.cell? ⟨p, 0, none⟩ = some (.int .i64 K)) (hp1 : w.cell? ⟨p, 1, none⟩ = some (.slice a1 x1.length c1)) (hp2 : w.cell? ⟨p, 2, none⟩ = some (.slice a2 x2.length c2)) (_hp3 : w.cell? ⟨p, 3, none⟩ = some v3)
    (hr0 : w.cell? ⟨rb, ro, none⟩ = some (.int .i64 r.cell)) (hr1 : w.cell? ⟨rb, ro + 1, none⟩ = some (.slice u1 r.out.length d1)) (hr2 : w.cell? ⟨rb, ro + 2, none⟩ = some (.slice u2 r.inn.length d2)) (hpB : p < B) (hrB : rb < B)
    (hbl : Bld 2 w B (.slice (some ⟨g, 0, none⟩) xs.length cg) (xs.map (.int .i64))) (hBw : B ≤ w.heap.size) (hK1 : 1 ≤ K) (hK8 : K ≤ 8) (hn4 : x1.length ≤ 4) (hlen : xs.length = (x1.length + 1) * K) (hx2 : x2.length = K) (ho : r.out.length = K) (hi : r.inn.length = K)
    (hc : 0 ≤ r.cell ∧ r.cell < x1.length) (hUs : upS x1 r.cell = (upN x1 r : Int)) (hUl : upN x1 r ≤ x1.length) (hpar : 0 < r.cell → 0 ≤ nth x1 r.cell.toNat) (h0 : nth x1 0 = -1) :
    Calls Try.prog 38 #[.pointer (some ⟨p, 0, none⟩), .slice (some ⟨g, 0, none⟩) xs.length cg, .pointer (some ⟨rb, ro, none⟩), .int .i64 n] w (fun e w' => TakePost B g xs.length cg (takeF (cellN r * K) (upN x1 r * K) x2 r n xs K) e w' ∧ BelG B g w w') := by
  have hcn : r.cell = (cellN r : Int) := by unfold cellN; omega
  have hcl : cellN r < x1.length := by omega
  have ha := fun k (hk : k < K) => idx_lt (K := K) (k := k) (show cellN r ≤ x1.length by omega) hk
  have hb := fun k (hk : k < K) => idx_lt (K := K) (k := k) hUl hk
  have hmx := small_mul (k := x1.length + 1) (K := K) (n := 5) (by omega) hK8
  have hwo : IntKind.i64.wrap (r.cell * (K : Int)) = ((cellN r * K : Nat) : Int) := by
    rw [hcn, wrap_64, Int.natCast_mul]
    have h1 := ha 0 (by omega)
    have h3 : ((cellN r * K : Nat) : Int) ≤ 40 := by omega
    rw [Int.natCast_mul] at h3
    have h2 : 0 ≤ (cellN r : Int) * (K : Int) := Int.mul_nonneg (by omega) (by omega)
    unfold wrap64; omega
  have HAT := Lib.hid (fun x : Wd w => callsQ (l06At_c K x1 a1 c1 p r.cell (upN x1 r) (wat x) ((h1.below (wat_below x)).any) ((bcell1 (wat_below x) (World.block_lt_of_cell? w _ hp0)).trans hp0) ((bcell1 (wat_below x) (World.block_lt_of_cell? w _ hp0)).trans hp1) hK8 hn4 hc hUs hpar h0 (by omega)))
  obtain ⟨O, hO⟩ : ∃ O, O = cellN r * K := ⟨_, rfl⟩
  obtain ⟨U, hU⟩ : ∃ U, U = upN x1 r * K := ⟨_, rfl⟩
  have HOK := Lib.hid hO
  have HUK := Lib.hid hU
  rw [← hO] at hwo ha
  rw [← hU] at HAT hb
  have HA := Lib.hid ha
  have HBB := Lib.hid hb
  have HMX := Lib.hid hmx
  have H1 := Lib.hid h1
  have H2 := Lib.hid h2
  have K1 := Lib.hid k1
  have K2 := Lib.hid k2
  have HLEN := Lib.hid hlen
  have HX2 := Lib.hid hx2
  have HOL := Lib.hid ho
  have HIL := Lib.hid hi
  have HBL := Lib.hid hbl
  have HG := Lib.hid hbl.base
  have i1 := ix_of (P := Try.prog) tabI.under tabI.size (a := some ⟨g, 0, none⟩) (n := xs.length) (fun _ => ⟨g, 0, rfl⟩) cg
  simp only [Nat.mul_one, adr, blk, ofs, Nat.zero_add] at i1
  have i2 := k1.ix tabI.under tabI.size d1
  have i3 := k2.ix tabI.under tabI.size d2
  have i4 := h2.ix tabB.under tabB.size c2
  clear h1 h2 k1 k2 hlen hx2 ho hi hbl ha hb hmx hO hU hUs hUl hpar h0 hcn hcl
  rw [← HOK.out, ← HUK.out]
  have q0 := wat_cell hp0
  have q1 := wat_cell hp1
  have q2 := wat_cell hp2
  have r0 := wat_cell hr0
  have r1 := wat_cell hr1
  have r2 := wat_cell hr2
  go_enter Try.func38, Try.ntmps38
  go_wp2
  refine wp_quiet_wd (by kernel_rfl) (by kernel_rfl) ?_
  repeat (go_big_quiet_step (first | with_reducible exact wdV (HAT.out _)))
  refine wpQuiet_nil ?_
  rintro _ ⟨wq, rfl⟩
  have f0 := r0 wq
  go_wp2_with fail
  refine (HAT.out wq).mono ?_
  rintro e w2 ⟨rfl, hb2⟩
  have hbw := bnext (wat_below wq) hb2 (Nat.le_refl _)
  have HB0 : Hid (BelG B g w w2) := Lib.hid ⟨hbw.mono hBw, Chg.ofBelow hbw⟩
  have HL0 := Lib.hid (HBL.out.below hbw)
  clear q0 q1 q2 r0 r1 r2 f0 hb2 hbw
  go_wp2
  go_loopw [11, 12] (fun b k wr => ∃ j : Nat, j ≤ K ∧ k = .int .i64 j ∧ b = .bool (takeF O U x2 r n xs j).2 ∧ BelG B g w wr ∧ Bld 2 wr B (.slice (some ⟨g, 0, none⟩) xs.length cg) ((takeF O U x2 r n xs j).1.map (.int .i64))) (fun _ k _ => K - (intOf k).toNat)
  case atStart => exact ⟨0, Nat.zero_le _, rfl, rfl, HB0.out, HL0.out⟩
  case round =>
    obtain ⟨j, hj, rfl, rfl, hb, hbl⟩ := hrel
    have f0 := (bcell1 hb.bel hpB).trans hp0
    have f2 := (bcell1 hb.bel hpB).trans hp2
    have e0 := (bcell1 hb.bel hrB).trans hr0
    have e1 := (bcell1 hb.bel hrB).trans hr1
    have e2 := (bcell1 hb.bel hrB).trans hr2
    by_cases hlt : j < K
    · have hl1 := takeF_len O U x2 r n xs j
      have hA := HA.out j hlt
      have hB2 := HBB.out j hlt
      have hLE := HLEN.out
      have hMX := HMX.out
      have HTK : Hid (takeF O U x2 r n xs (j + 1) = takeK O U r n (insK x2 r j) j (takeF O U x2 r n xs j)) := Lib.hid rfl
      have hlt1 : (j : Int) < r.out.length := by have := HOL.out; omega
      have hlt2 : (j : Int) < r.inn.length := by have := HIL.out; omega
      have hlt3 : (j : Int) < x2.length := by have := HX2.out; omega
      have g1 := (K1.out.low hb.bel).cell j (by omega)
      have g2 := hbl.at_nth (i := O + j) (by omega)
      have z2 := hbl.free (O + j)
      have hwA : IntKind.i64.wrap ((O : Int) + (j : Int)) = (O : Int) + (j : Int) := by rw [wrap_64]; unfold wrap64; omega
      have hwU : IntKind.i64.wrap ((U : Int) + (j : Int)) = (U : Int) + (j : Int) := by rw [wrap_64]; unfold wrap64; omega
      have iA := fun w' => i1 ((O : Int) + (j : Int)) w' (by omega) (by omega)
      have iU := fun w' => i1 ((U : Int) + (j : Int)) w' (by omega) (by omega)
      rw [show ((O : Int) + (j : Int)).toNat = O + j by omega] at iA
      rw [show ((U : Int) + (j : Int)).toNat = U + j by omega] at iU
      generalize hS : takeF O U x2 r n xs j = S at *
      obtain ⟨xs1, ok⟩ := S
      dsimp only at *
      have HBr := Lib.hid hb
      have HLr := Lib.hid hbl
      have HS := Lib.hid hS
      have HL1 := Lib.hid hl1
      clear hb hbl hS hl1 i1 hLE

      go_wp2
      go_region
      all_goals
        clear f0 f2 e0 e1 e2 g1 g2 z2
        obtain ⟨w7, hw7⟩ : ∃ wz, wz = (wr.setCell ⟨g, O + j, none⟩ (.int .i64 (wrap64 (nth xs1 (O + j) - wrap64 (nth r.out j * n))))).drew := ⟨_, rfl⟩
        rw [← hw7]
        obtain ⟨xs2, hxs2⟩ : ∃ l, l = xs1.set (O + j) (wrap64 (nth xs1 (O + j) - wrap64 (nth r.out j * n))) := ⟨_, rfl⟩
        have hB7 : BelG B g w w7 := by rw [hw7]; exact (HBr.out.setCell HG.out.1 _ _).drew
        have hL7 : Bld 2 w7 B (.slice (some ⟨g, 0, none⟩) xs.length cg) (xs2.map (.int .i64)) := by rw [hw7, hxs2]; exact (HLr.out.set_nth (O + j) _).below (Below.refl _ _).drew
        have hl7 : xs2.length = xs.length := by rw [hxs2, List.length_set]; exact HL1.out
        have HXxs2 := Lib.hid hxs2
        have HLX7 := Lib.hid hl7
        have f0 := (bcell1 hB7.bel hpB).trans hp0
        have f2 := (bcell1 hB7.bel hpB).trans hp2
        have e0 := (bcell1 hB7.bel hrB).trans hr0
        have e1 := (bcell1 hB7.bel hrB).trans hr1
        have e2 := (bcell1 hB7.bel hrB).trans hr2
        have g2 := hL7.at_nth (i := O + j) (by have := HLEN.out; omega)
        have g3 := hL7.at_nth (i := U + j) (by have := HLEN.out; omega)
        have z3 := hL7.free (U + j)
        have g4 := (K2.out.low hB7.bel).cell j (by omega)
        have g5 := (H2.out.low hB7.bel).cell j (by omega)
        have HB7 := Lib.hid hB7
        have HL7 := Lib.hid hL7
        clear hw7 hxs2 hB7 hL7 hl7
        cases ok
        · skip
          by_cases hcl : 0 < r.cell
          rotate_left
          · cases hfr : nthB x2 j
            rotate_left
            · have hins : insK x2 r j = false := by simp [insK, hcl, hfr]
              rw [hfr] at g5
              have HR : Hid (takeF O U x2 r n xs (j + 1) = (xs2, false)) := Lib.hid (by rw [HTK.out]; simp only [takeK, hins, Bool.false_eq_true, if_false, ← HXxs2.out]; simp)
              clear hins hfr
              go_wp2
              go_roundw
              case rel => exact ⟨j + 1, by omega, by go_num, by rw [HR.out], HB7.out, by rw [HR.out]; exact HL7.out⟩
              case measure => simp [intOf]; omega
            · have hins : insK x2 r j = true := by simp [insK, hfr]
              rw [hfr] at g5
              have HI := Lib.hid hins
              clear hins hfr
              go_wp2
              go_region
              all_goals
                clear f0 f2 e0 e1 e2 g2 g3 z3 g4 g5
                obtain ⟨w8, hw8⟩ : ∃ wz, wz = (w7.setCell ⟨g, U + j, none⟩ (.int .i64 (wrap64 (nth xs2 (U + j) - wrap64 (nth r.inn j * n))))).drew := ⟨_, rfl⟩
                rw [← hw8]
                obtain ⟨xs3, hxs3⟩ : ∃ l, l = xs2.set (U + j) (wrap64 (nth xs2 (U + j) - wrap64 (nth r.inn j * n))) := ⟨_, rfl⟩
                have hB8 : BelG B g w w8 := by rw [hw8]; exact (HB7.out.setCell HG.out.1 _ _).drew
                have hL8 : Bld 2 w8 B (.slice (some ⟨g, 0, none⟩) xs.length cg) (xs3.map (.int .i64)) := by rw [hw8, hxs3]; exact (HL7.out.set_nth (U + j) _).below (Below.refl _ _).drew
                have hl8 : xs3.length = xs.length := by rw [hxs3, List.length_set]; exact HLX7.out
                have HXxs3 := Lib.hid hxs3
                have HLX8 := Lib.hid hl8
                have f0 := (bcell1 hB8.bel hpB).trans hp0
                have f2 := (bcell1 hB8.bel hpB).trans hp2
                have e0 := (bcell1 hB8.bel hrB).trans hr0
                have e1 := (bcell1 hB8.bel hrB).trans hr1
                have e2 := (bcell1 hB8.bel hrB).trans hr2
                have g6 := hL8.at_nth (i := U + j) (by have := HLEN.out; omega)
                have HB8 := Lib.hid hB8
                have HL8 := Lib.hid hL8
                clear hw8 hxs3 hB8 hL8 hl8
                have HR : Hid (takeF O U x2 r n xs (j + 1) = (xs3, false)) := Lib.hid (by rw [HTK.out]; simp only [takeK, HI.out, if_true, ← HXxs2.out, ← HXxs3.out]; simp)
                go_wp2
                go_roundw
                case rel => exact ⟨j + 1, by omega, by go_num, by rw [HR.out], HB8.out, by rw [HR.out]; exact HL8.out⟩
                case measure => simp [intOf]; omega
          · have hins : insK x2 r j = true := by simp [insK, hcl]
            have HI := Lib.hid hins
            clear hins
            go_wp2
            go_region
            all_goals
              clear f0 f2 e0 e1 e2 g2 g3 z3 g4 g5
              obtain ⟨w8, hw8⟩ : ∃ wz, wz = (w7.setCell ⟨g, U + j, none⟩ (.int .i64 (wrap64 (nth xs2 (U + j) - wrap64 (nth r.inn j * n))))).drew := ⟨_, rfl⟩
              rw [← hw8]
              obtain ⟨xs3, hxs3⟩ : ∃ l, l = xs2.set (U + j) (wrap64 (nth xs2 (U + j) - wrap64 (nth r.inn j * n))) := ⟨_, rfl⟩
              have hB8 : BelG B g w w8 := by rw [hw8]; exact (HB7.out.setCell HG.out.1 _ _).drew
              have hL8 : Bld 2 w8 B (.slice (some ⟨g, 0, none⟩) xs.length cg) (xs3.map (.int .i64)) := by rw [hw8, hxs3]; exact (HL7.out.set_nth (U + j) _).below (Below.refl _ _).drew
              have hl8 : xs3.length = xs.length := by rw [hxs3, List.length_set]; exact HLX7.out
              have HXxs3 := Lib.hid hxs3
              have HLX8 := Lib.hid hl8
              have f0 := (bcell1 hB8.bel hpB).trans hp0
              have f2 := (bcell1 hB8.bel hpB).trans hp2
              have e0 := (bcell1 hB8.bel hrB).trans hr0
              have e1 := (bcell1 hB8.bel hrB).trans hr1
              have e2 := (bcell1 hB8.bel hrB).trans hr2
              have g6 := hL8.at_nth (i := U + j) (by have := HLEN.out; omega)
              have HB8 := Lib.hid hB8
              have HL8 := Lib.hid hL8
              clear hw8 hxs3 hB8 hL8 hl8
              have HR : Hid (takeF O U x2 r n xs (j + 1) = (xs3, false)) := Lib.hid (by rw [HTK.out]; simp only [takeK, HI.out, if_true, ← HXxs2.out, ← HXxs3.out]; simp)
              go_wp2
              go_roundw
              case rel => exact ⟨j + 1, by omega, by go_num, by rw [HR.out], HB8.out, by rw [HR.out]; exact HL8.out⟩
              case measure => simp [intOf]; omega
        · by_cases h1 : 0 ≤ nth xs2 (O + j)
          · skip
            by_cases hcl : 0 < r.cell
            rotate_left
            · cases hfr : nthB x2 j
              rotate_left
              · have hins : insK x2 r j = false := by simp [insK, hcl, hfr]
                rw [hfr] at g5
                have HR : Hid (takeF O U x2 r n xs (j + 1) = (xs2, true)) := Lib.hid (by rw [HTK.out]; simp only [takeK, hins, Bool.false_eq_true, if_false, ← HXxs2.out]; simp [h1])
                clear hins hfr
                go_wp2
                go_roundw
                case rel => exact ⟨j + 1, by omega, by go_num, by rw [HR.out], HB7.out, by rw [HR.out]; exact HL7.out⟩
                case measure => simp [intOf]; omega
              · have hins : insK x2 r j = true := by simp [insK, hfr]
                rw [hfr] at g5
                have HI := Lib.hid hins
                clear hins hfr
                go_wp2
                go_region
                all_goals
                  clear f0 f2 e0 e1 e2 g2 g3 z3 g4 g5
                  obtain ⟨w8, hw8⟩ : ∃ wz, wz = (w7.setCell ⟨g, U + j, none⟩ (.int .i64 (wrap64 (nth xs2 (U + j) - wrap64 (nth r.inn j * n))))).drew := ⟨_, rfl⟩
                  rw [← hw8]
                  obtain ⟨xs3, hxs3⟩ : ∃ l, l = xs2.set (U + j) (wrap64 (nth xs2 (U + j) - wrap64 (nth r.inn j * n))) := ⟨_, rfl⟩
                  have hB8 : BelG B g w w8 := by rw [hw8]; exact (HB7.out.setCell HG.out.1 _ _).drew
                  have hL8 : Bld 2 w8 B (.slice (some ⟨g, 0, none⟩) xs.length cg) (xs3.map (.int .i64)) := by rw [hw8, hxs3]; exact (HL7.out.set_nth (U + j) _).below (Below.refl _ _).drew
                  have hl8 : xs3.length = xs.length := by rw [hxs3, List.length_set]; exact HLX7.out
                  have HXxs3 := Lib.hid hxs3
                  have HLX8 := Lib.hid hl8
                  have f0 := (bcell1 hB8.bel hpB).trans hp0
                  have f2 := (bcell1 hB8.bel hpB).trans hp2
                  have e0 := (bcell1 hB8.bel hrB).trans hr0
                  have e1 := (bcell1 hB8.bel hrB).trans hr1
                  have e2 := (bcell1 hB8.bel hrB).trans hr2
                  have g6 := hL8.at_nth (i := U + j) (by have := HLEN.out; omega)
                  have HB8 := Lib.hid hB8
                  have HL8 := Lib.hid hL8
                  clear hw8 hxs3 hB8 hL8 hl8
                  by_cases h2 : 0 ≤ nth xs3 (U + j)
                  · have HR : Hid (takeF O U x2 r n xs (j + 1) = (xs3, true)) := Lib.hid (by rw [HTK.out]; simp only [takeK, HI.out, if_true, ← HXxs2.out, ← HXxs3.out]; simp [h1, h2])
                    go_wp2
                    go_roundw
                    case rel => exact ⟨j + 1, by omega, by go_num, by rw [HR.out], HB8.out, by rw [HR.out]; exact HL8.out⟩
                    case measure => simp [intOf]; omega
                  · have HR : Hid (takeF O U x2 r n xs (j + 1) = (xs3, false)) := Lib.hid (by rw [HTK.out]; simp only [takeK, HI.out, if_true, ← HXxs2.out, ← HXxs3.out]; simp [h1, h2])
                    go_wp2
                    go_roundw
                    case rel => exact ⟨j + 1, by omega, by go_num, by rw [HR.out], HB8.out, by rw [HR.out]; exact HL8.out⟩
                    case measure => simp [intOf]; omega
            · have hins : insK x2 r j = true := by simp [insK, hcl]
              have HI := Lib.hid hins
              clear hins
              go_wp2
              go_region
              all_goals
                clear f0 f2 e0 e1 e2 g2 g3 z3 g4 g5
                obtain ⟨w8, hw8⟩ : ∃ wz, wz = (w7.setCell ⟨g, U + j, none⟩ (.int .i64 (wrap64 (nth xs2 (U + j) - wrap64 (nth r.inn j * n))))).drew := ⟨_, rfl⟩
                rw [← hw8]
                obtain ⟨xs3, hxs3⟩ : ∃ l, l = xs2.set (U + j) (wrap64 (nth xs2 (U + j) - wrap64 (nth r.inn j * n))) := ⟨_, rfl⟩
                have hB8 : BelG B g w w8 := by rw [hw8]; exact (HB7.out.setCell HG.out.1 _ _).drew
                have hL8 : Bld 2 w8 B (.slice (some ⟨g, 0, none⟩) xs.length cg) (xs3.map (.int .i64)) := by rw [hw8, hxs3]; exact (HL7.out.set_nth (U + j) _).below (Below.refl _ _).drew
                have hl8 : xs3.length = xs.length := by rw [hxs3, List.length_set]; exact HLX7.out
                have HXxs3 := Lib.hid hxs3
                have HLX8 := Lib.hid hl8
                have f0 := (bcell1 hB8.bel hpB).trans hp0
                have f2 := (bcell1 hB8.bel hpB).trans hp2
                have e0 := (bcell1 hB8.bel hrB).trans hr0
                have e1 := (bcell1 hB8.bel hrB).trans hr1
                have e2 := (bcell1 hB8.bel hrB).trans hr2
                have g6 := hL8.at_nth (i := U + j) (by have := HLEN.out; omega)
                have HB8 := Lib.hid hB8
                have HL8 := Lib.hid hL8
                clear hw8 hxs3 hB8 hL8 hl8
                by_cases h2 : 0 ≤ nth xs3 (U + j)
                · have HR : Hid (takeF O U x2 r n xs (j + 1) = (xs3, true)) := Lib.hid (by rw [HTK.out]; simp only [takeK, HI.out, if_true, ← HXxs2.out, ← HXxs3.out]; simp [h1, h2])
                  go_wp2
                  go_roundw
                  case rel => exact ⟨j + 1, by omega, by go_num, by rw [HR.out], HB8.out, by rw [HR.out]; exact HL8.out⟩
                  case measure => simp [intOf]; omega
                · have HR : Hid (takeF O U x2 r n xs (j + 1) = (xs3, false)) := Lib.hid (by rw [HTK.out]; simp only [takeK, HI.out, if_true, ← HXxs2.out, ← HXxs3.out]; simp [h1, h2])
                  go_wp2
                  go_roundw
                  case rel => exact ⟨j + 1, by omega, by go_num, by rw [HR.out], HB8.out, by rw [HR.out]; exact HL8.out⟩
                  case measure => simp [intOf]; omega
          · skip
            by_cases hcl : 0 < r.cell
            rotate_left
            · cases hfr : nthB x2 j
              rotate_left
              · have hins : insK x2 r j = false := by simp [insK, hcl, hfr]
                rw [hfr] at g5
                have HR : Hid (takeF O U x2 r n xs (j + 1) = (xs2, false)) := Lib.hid (by rw [HTK.out]; simp only [takeK, hins, Bool.false_eq_true, if_false, ← HXxs2.out]; simp [h1])
                clear hins hfr
                go_wp2
                go_roundw
                case rel => exact ⟨j + 1, by omega, by go_num, by rw [HR.out], HB7.out, by rw [HR.out]; exact HL7.out⟩
                case measure => simp [intOf]; omega
              · have hins : insK x2 r j = true := by simp [insK, hfr]
                rw [hfr] at g5
                have HI := Lib.hid hins
                clear hins hfr
                go_wp2
                go_region
                all_goals
                  clear f0 f2 e0 e1 e2 g2 g3 z3 g4 g5
                  obtain ⟨w8, hw8⟩ : ∃ wz, wz = (w7.setCell ⟨g, U + j, none⟩ (.int .i64 (wrap64 (nth xs2 (U + j) - wrap64 (nth r.inn j * n))))).drew := ⟨_, rfl⟩
                  rw [← hw8]
                  obtain ⟨xs3, hxs3⟩ : ∃ l, l = xs2.set (U + j) (wrap64 (nth xs2 (U + j) - wrap64 (nth r.inn j * n))) := ⟨_, rfl⟩
                  have hB8 : BelG B g w w8 := by rw [hw8]; exact (HB7.out.setCell HG.out.1 _ _).drew
                  have hL8 : Bld 2 w8 B (.slice (some ⟨g, 0, none⟩) xs.length cg) (xs3.map (.int .i64)) := by rw [hw8, hxs3]; exact (HL7.out.set_nth (U + j) _).below (Below.refl _ _).drew
                  have hl8 : xs3.length = xs.length := by rw [hxs3, List.length_set]; exact HLX7.out
                  have HXxs3 := Lib.hid hxs3
                  have HLX8 := Lib.hid hl8
                  have f0 := (bcell1 hB8.bel hpB).trans hp0
                  have f2 := (bcell1 hB8.bel hpB).trans hp2
                  have e0 := (bcell1 hB8.bel hrB).trans hr0
                  have e1 := (bcell1 hB8.bel hrB).trans hr1
                  have e2 := (bcell1 hB8.bel hrB).trans hr2
                  have g6 := hL8.at_nth (i := U + j) (by have := HLEN.out; omega)
                  have HB8 := Lib.hid hB8
                  have HL8 := Lib.hid hL8
                  clear hw8 hxs3 hB8 hL8 hl8
                  have HR : Hid (takeF O U x2 r n xs (j + 1) = (xs3, false)) := Lib.hid (by rw [HTK.out]; simp only [takeK, HI.out, if_true, ← HXxs2.out, ← HXxs3.out]; simp only [decide_eq_false (show ¬ 0 ≤ nth xs2 (O + j) by omega), Bool.and_false, Bool.false_and])
                  go_wp2
                  go_roundw
                  case rel => exact ⟨j + 1, by omega, by go_num, by rw [HR.out], HB8.out, by rw [HR.out]; exact HL8.out⟩
                  case measure => simp [intOf]; omega
            · have hins : insK x2 r j = true := by simp [insK, hcl]
              have HI := Lib.hid hins
              clear hins
              go_wp2
              go_region
              all_goals
                clear f0 f2 e0 e1 e2 g2 g3 z3 g4 g5
                obtain ⟨w8, hw8⟩ : ∃ wz, wz = (w7.setCell ⟨g, U + j, none⟩ (.int .i64 (wrap64 (nth xs2 (U + j) - wrap64 (nth r.inn j * n))))).drew := ⟨_, rfl⟩
                rw [← hw8]
                obtain ⟨xs3, hxs3⟩ : ∃ l, l = xs2.set (U + j) (wrap64 (nth xs2 (U + j) - wrap64 (nth r.inn j * n))) := ⟨_, rfl⟩
                have hB8 : BelG B g w w8 := by rw [hw8]; exact (HB7.out.setCell HG.out.1 _ _).drew
                have hL8 : Bld 2 w8 B (.slice (some ⟨g, 0, none⟩) xs.length cg) (xs3.map (.int .i64)) := by rw [hw8, hxs3]; exact (HL7.out.set_nth (U + j) _).below (Below.refl _ _).drew
                have hl8 : xs3.length = xs.length := by rw [hxs3, List.length_set]; exact HLX7.out
                have HXxs3 := Lib.hid hxs3
                have HLX8 := Lib.hid hl8
                have f0 := (bcell1 hB8.bel hpB).trans hp0
                have f2 := (bcell1 hB8.bel hpB).trans hp2
                have e0 := (bcell1 hB8.bel hrB).trans hr0
                have e1 := (bcell1 hB8.bel hrB).trans hr1
                have e2 := (bcell1 hB8.bel hrB).trans hr2
                have g6 := hL8.at_nth (i := U + j) (by have := HLEN.out; omega)
                have HB8 := Lib.hid hB8
                have HL8 := Lib.hid hL8
                clear hw8 hxs3 hB8 hL8 hl8
                have HR : Hid (takeF O U x2 r n xs (j + 1) = (xs3, false)) := Lib.hid (by rw [HTK.out]; simp only [takeK, HI.out, if_true, ← HXxs2.out, ← HXxs3.out]; simp only [decide_eq_false (show ¬ 0 ≤ nth xs2 (O + j) by omega), Bool.and_false, Bool.false_and])
                go_wp2
                go_roundw
                case rel => exact ⟨j + 1, by omega, by go_num, by rw [HR.out], HB8.out, by rw [HR.out]; exact HL8.out⟩
                case measure => simp [intOf]; omega
    · have e : j = K := by omega
      subst e
      have HBr := Lib.hid hb
      have HLr := Lib.hid hbl
      clear hb hbl i1
      go_wp2
      go_ret
      exact ⟨⟨rfl, HLr.out⟩, HBr.out⟩
theorem takeG_at (K : Nat) (x1 : List Int) (x2 : List Bool) (x3 : List PR) (a1 a2 a3 : Option Addr) (c1 c2 c3 : Nat) (k : Nat) (n : Int) (xs : List Int) (g cg : Nat) (p : Nat) (w wx : World) (h1 : SlI Any w a1 x1) (h2 : SlB Any w a2 x2) (h3 : Rd Any w (dPR x3) (.slice a3 x3.length c3)) (hp0 : w.cell? ⟨p, 0, none⟩ = some (.int .i64 K)) (hp1 : w.cell? ⟨p, 1, none⟩ = some (.slice a1 x1.length c1)) (hp2 : w.cell? ⟨p, 2, none⟩ = some (.slice a2 x2.length c2)) (hp3 : w.cell? ⟨p, 3, none⟩ = some (.slice a3 x3.length c3)) (hps : PsOk K x1 x2 x3) (hk : k < x3.length)
    (hb : Below w.heap.size w wx) (hbl : Bld 2 wx w.heap.size (.slice (some ⟨g, 0, none⟩) xs.length cg) (xs.map (.int .i64))) (hlen : xs.length = (x1.length + 1) * K) :
    Calls Try.prog 38 #[.pointer (some ⟨p, 0, none⟩), .slice (some ⟨g, 0, none⟩) xs.length cg, .pointer (some ⟨blk a3, ofs a3 + k * 3, none⟩), .int .i64 n] wx (fun e w' => TakePost w.heap.size g xs.length cg (takeF (cellN (nthPR x3 k) * K) (upN x1 (nthPR x3 k) * K) x2 (nthPR x3 k) n xs K) e w' ∧ BelG w.heap.size g wx w') := by
  have zp := World.block_lt_of_cell? w _ hp0
  obtain ⟨_, _, ex, hxs⟩ := Rd_PR h3
  cases ex
  have r0 := hxs.c0 k hk
  obtain ⟨u1, e1, r1, k1⟩ := hxs.c1 k hk
  obtain ⟨u2, e2, r2, k2⟩ := hxs.c2 k hk
  have hu := hps.upN hk
  have hrb : blk a3 < w.heap.size := World.block_lt_of_cell? w _ r0
  have hz := hb.size
  exact l06TakeG_c K x1 x2 (nthPR x3 k) n xs a1 a2 u1 u2 c1 c2 e1 e2 p (blk a3) (ofs a3 + k * 3) g cg w.heap.size (.slice a3 x3.length c3) wx
    ((h1.under (Nat.le_refl _)).low hb) ((h2.under (Nat.le_refl _)).low hb) ((k1.under (Nat.le_refl _)).low hb) ((k2.under (Nat.le_refl _)).low hb)
    ((bcell1 hb zp).trans hp0) ((bcell1 hb zp).trans hp1) ((bcell1 hb zp).trans hp2) ((bcell1 hb zp).trans hp3) ((bcell1 hb hrb).trans r0) ((bcell1 hb hrb).trans r1) ((bcell1 hb hrb).trans r2) zp hrb hbl hz hps.k1 hps.k8 hps.p4 hlen hps.free (hps.out k hk).2 (hps.inn k hk).2
    (hps.cell k hk) hu.2.2.2.1 hu.2.1 (fun h => (hps.par _ (by unfold cellN at hu; omega) (by unfold cellN at hu; omega)).1) hps.par0
end Go.Proofs.Ytkjmehpehopncaa

/- PassChoices, the reference's: the state of the search. Written by mkud.py. -/
namespace Go.Proofs.Ytkjmehpehopncaa
open Go.RowKit
theorem Bld.keepC {E : TypeId} {w w' : World} {B g n c : Nat} {vs : List Value} {F : List Nat} (h : Bld E w B (.slice (some ⟨g, 0, none⟩) n c) vs) (hc : Chg F w w') (hg : g ∉ F) : Bld E w' B (.slice (some ⟨g, 0, none⟩) n c) vs :=
  ownsRow_kept h fun k hk => by
    have e : k = g := by simpa [ob, Value.ownBlock] using hk
    subst e
    exact hc.block k (Bld.base h).2 hg
theorem Chg.compU {F F' : List Nat} {w wr w1 : World} (h : Chg F w wr) (h2 : Chg F' wr w1) (hs : ∀ g, g ∈ F' → g ∈ F ∨ w.heap.size ≤ g) : Chg F w w1 :=
  ⟨h2.os.trans h.os, h2.tape.trans h.tape, h2.output.trans h.output, Nat.le_trans h.size h2.size, fun k hk hn => (h2.block k (Nat.lt_of_lt_of_le hk h.size) (fun hh => by
    rcases hs k hh with h3 | h3
    · exact hn h3
    · omega)).trans (h.block k hk hn)⟩
/-- The state of the reference's search: the struct at xb. -/
structure Wlk (w0 w : World) (xb pp : Nat) (mode : Int) (f : Nat) (L : List (List Int)) (G : List Nat) (E : TypeId) : Prop where
  bel : Below w0.heap.size w0 w
  c0 : w.cell? ⟨xb, 0, none⟩ = some (.pointer (some ⟨pp, 0, none⟩))
  c1 : w.cell? ⟨xb, 1, none⟩ = some (.int .i64 mode)
  c2 : w.cell? ⟨xb, 2, none⟩ = some (.int .i64 f)
  lst : ∃ v, w.cell? ⟨xb, 3, none⟩ = some v ∧ Lst E 1 w w0.heap.size v L.length (L.map dI) G
  free : ∀ i, w.frozen? ⟨xb, i, none⟩ = false
  out : xb ∉ G
  base : w0.heap.size ≤ xb
  cnt : L.length ≤ f
section
variable {w0 w w' : World} {xb pp : Nat} {mode : Int} {f : Nat} {L : List (List Int)} {G : List Nat} {E : TypeId}
theorem Wlk.lt (h : Wlk w0 w xb pp mode f L G E) : xb < w.heap.size ∧ ∀ g, g ∈ G → w0.heap.size ≤ g ∧ g < w.heap.size := by
  obtain ⟨v, _, h2⟩ := h.lst
  exact ⟨World.block_lt_of_cell? w _ h.c0, h2.lt⟩
theorem Wlk.keep {F : List Nat} (h : Wlk w0 w xb pp mode f L G E) (hc : Chg F w w') (hx : xb ∉ F) (hd : ∀ g, g ∈ G → g ∉ F) (hF : ∀ g, g ∈ F → w0.heap.size ≤ g) : Wlk w0 w' xb pp mode f L G E := by
  obtain ⟨v, h1, h2⟩ := h.lst
  have hl := h.lt.1
  exact ⟨h.bel.trans (hc.below h.bel.size hF), (hc.cell hl hx 0).trans h.c0, (hc.cell hl hx 1).trans h.c1, (hc.cell hl hx 2).trans h.c2, ⟨v, (hc.cell hl hx 3).trans h1, h2.keep hc hd⟩,
    fun i => (hc.frozen hl hx i).trans (h.free i), h.out, h.base, h.cnt⟩
theorem Wlk.next (h : Wlk w0 w xb pp mode f L G E) (hb : Below w.heap.size w w') : Wlk w0 w' xb pp mode f L G E := h.keep (F := []) (Chg.ofBelow hb) (by simp) (by simp) (by simp)
theorem Wlk.put (h : Wlk w0 w xb pp mode f L G E) (f' : Nat) (hf : L.length ≤ f') : Wlk w0 (w.setCell ⟨xb, 2, none⟩ (.int .i64 f')) xb pp mode f' L G E := by
  have hc := chg_set w ⟨xb, 2, none⟩ (.int .i64 f') [xb] (by simp)
  obtain ⟨v, h1, h2⟩ := h.lst
  exact ⟨h.bel.setCell h.base _, (World.cell?_setCell_other _ _ _ _ (by simp)).trans h.c0, (World.cell?_setCell_other _ _ _ _ (by simp)).trans h.c1, World.cell?_setCell_same _ _ _ h.c2,
    ⟨v, (World.cell?_setCell_other _ _ _ _ (by simp)).trans h1, h2.keep hc (fun g hg => by simp; rintro rfl; exact h.out hg)⟩, fun i => by rw [World.frozen?_setCell]; exact h.free i, h.out, h.base, hf⟩
theorem Wlk.add {wA w7 : World} {xs : List Int} {FA G7 : List Nat} {T : TypeId} {u v v7 : Value} (h : Wlk w0 w xb pp mode f L G E) (hbA : Below w.heap.size w wA) (hl : ∀ g, g ∈ FA → w.drew.heap.size ≤ g)
    (hN : LstNext E 1 (wA.alloc (.cells #[u] T)) w7 w0.heap.size v v7 L.length (L.map dI) [dI xs] G FA G7) (hLS : Lst E 1 w w0.heap.size v L.length (L.map dI) G) (hB : w.cell? ⟨xb, 3, none⟩ = some v) (hf : L.length + 1 ≤ f) :
    w7.cell? ⟨xb, 3, none⟩ = some v ∧ w7.frozen? ⟨xb, 3, none⟩ = false ∧ Wlk w0 (w7.setCell ⟨xb, 3, none⟩ v7) xb pp mode f (L ++ [xs]) G7 E ∧ Chg (xb :: G) w (w7.setCell ⟨xb, 3, none⟩ v7) ∧ ∀ g, g ∈ G7 → g ∈ G ∨ w.heap.size ≤ g := by
  have hlt := h.lt
  have hG : ∀ g, g ∈ G7 → g ∈ G ∨ w.heap.size ≤ g := fun g hg => by
    rcases hN.mem g hg with h1 | h1 | h1
    · exact .inl h1
    · exact .inr (hl g h1)
    · refine .inr ?_
      have h' : wA.heap.size + 1 ≤ g := by simpa using h1
      have := hbA.size; omega
  have hng : xb ∉ G7 := fun h1 => by
    rcases hG xb h1 with h2 | h2
    · exact h.out h2
    · have := hlt.1; omega
  have hch : Chg G w w7 := (Chg.ofBelow hbA).trans ((Chg.ofBelow (below_alloc _ _)).trans (hN.chg.wider (fun k hk => ob_sub hLS _ hk)))
  have hch2 : Chg (xb :: G) w (w7.setCell ⟨xb, 3, none⟩ v7) := (hch.wider (fun k hk => List.mem_cons_of_mem _ hk)).trans (chg_set w7 ⟨xb, 3, none⟩ v7 (xb :: G) (by simp))
  have cc := fun i => hch.cell hlt.1 h.out i
  have f7 := fun i => (hch.frozen hlt.1 h.out i).trans (h.free i)
  have c7 := (cc 3).trans hB
  refine ⟨c7, f7 3, ⟨?_, ?_, ?_, ?_, ⟨v7, World.cell?_setCell_same _ _ _ c7, ?_⟩, fun i => by rw [World.frozen?_setCell]; exact f7 i, hng, h.base, by simpa using hf⟩, hch2, hG⟩
  · exact h.bel.trans (hch2.below h.bel.size (fun g hg => by
      rcases List.mem_cons.1 hg with rfl | hg
      · exact h.base
      · exact (hlt.2 g hg).1))
  · exact (World.cell?_setCell_other _ _ _ _ (by simp)).trans ((cc 0).trans h.c0)
  · exact (World.cell?_setCell_other _ _ _ _ (by simp)).trans ((cc 1).trans h.c1)
  · exact (World.cell?_setCell_other _ _ _ _ (by simp)).trans ((cc 2).trans h.c2)
  · have := hN.lst.keep (chg_set w7 ⟨xb, 3, none⟩ v7 [xb] (by simp)) (fun g hg => by simp; rintro rfl; exact hng hg)
    simpa using this
end
/-- What a search over A has made of how many fit and of the list. -/
def Ans (f : Nat) (L A : List (List Int)) (ch : List Int → Bool) (f' : Nat) (L' : List (List Int)) : Prop :=
  (f + A.length ≤ 1500 ∧ f' = f + A.length ∧ L' = L ++ A.filter ch) ∨ (1500 < f + A.length ∧ 1500 < f')
theorem Ans.nil {f : Nat} (hf : f ≤ 1500) (L : List (List Int)) (ch : List Int → Bool) : Ans f L [] ch f L := .inl ⟨by simpa using hf, by simp, by simp⟩
theorem Ans.app {f f' f2 : Nat} {L L' L2 A B : List (List Int)} {ch : List Int → Bool} (h : Ans f L A ch f' L') (hf : f' ≤ 1500) (h2 : Ans f' L' B ch f2 L2) : Ans f L (A ++ B) ch f2 L2 := by
  rcases h with ⟨h1, rfl, rfl⟩ | ⟨_, h1⟩
  · rcases h2 with ⟨h3, rfl, rfl⟩ | ⟨h3, h4⟩
    · exact .inl ⟨by simp; omega, by simp; omega, by simp⟩
    · exact .inr ⟨by simp; omega, h4⟩
  · omega
theorem Ans.over {f f' : Nat} {L L' A B : List (List Int)} {ch : List Int → Bool} (h : Ans f L A ch f' L') (hf : ¬ f' ≤ 1500) (hl : A.length ≤ B.length) : Ans f L B ch f' L' := by
  rcases h with ⟨h1, rfl, rfl⟩ | ⟨h1, h2⟩
  · omega
  · exact .inr ⟨by omega, h2⟩
/-- What a call of walk leaves. -/
def FrmW (w0 ws : World) (xb pp : Nat) (mode : Int) (f : Nat) (L A : List (List Int)) (G : List Nat) (ch : List Int → Bool) (E : TypeId) (e : Ending) (w' : World) : Prop :=
  e = .returned (.tuple #[]) ∧ ∃ f' L' G', Wlk w0 w' xb pp mode f' L' G' E ∧ Chg (xb :: G) ws w' ∧ (∀ g, g ∈ G' → g ∈ G ∨ ws.heap.size ≤ g) ∧ Ans f L A ch f' L'
section
variable {K : Nat} {x1 : List Int} {x2 : List Bool} {x3 : List PR} {y0 : List (List Int)} {y1 : List Int}
/-- Room by what is left, wherever that came from. -/
theorem room_flat {cs xs : List Int} (h : PsOk K x1 x2 x3) (hs : StOk K x1.length y0 y1) (hc : okL cs) (hl : cs.length = x3.length) {q : Nat} (hq : q < x3.length)
    (hf : fitsB x1 x2 x3 (bagsS y0 y1) cs = true) (hx : Flat K x1.length xs (lev x1 x2 x3 (bagsS y0 y1) cs x3.length)) :
    (decide (nth cs q < 1000) && (takeF (cellN (nthPR x3 q) * K) (upN x1 (nthPR x3 q) * K) x2 (nthPR x3 q) 1 xs K).2) = roomS x1 x2 x3 (bagsS y0 y1) cs q := by
  have := hc q
  by_cases e : nth cs q < 1000
  · rw [decide_eq_true e, Bool.true_and]
    exact room_fits h hs hc hl hq hf hx
  · rw [decide_eq_false e, Bool.false_and]
    exact (over_fits h hs hc hl hq (by omega)).symm
theorem pad_setW {m : Nat} {p : List Int} {x y : Int} (hp : p.length < m) : (padL m (p ++ [x])).set p.length y = padL m (p ++ [y]) := by
  have h1 : (padL m (p ++ [x])).length = m := padL_len (by simp; omega)
  refine list_eqN (by rw [List.length_set, h1, padL_len (by simp; omega)]) fun j _ => ?_
  rw [nthS (by omega), padL_nth, padL_nth, snoc_nth, snoc_nth]
  split <;> rfl
theorem pad_zeroW {m : Nat} {p : List Int} (hp : p.length < m) : padL m (p ++ [0]) = padL m p := by
  refine list_eqN (by rw [padL_len (by simp; omega), padL_len (by omega)]) fun j _ => ?_
  rw [padL_nth, padL_nth, snoc_nth]
  split
  · rename_i e; rw [e, nth_past (Nat.le_refl _)]
  · rfl
theorem pad_fullW {m : Nat} {p : List Int} (h : p.length = m) : padL m p = p := by simp [padL, show m - p.length = 0 by omega]
/-- One more of the next rule is taken. -/
theorem take_next {p xs : List Int} (h : PsOk K x1 x2 x3) (hs : StOk K x1.length y0 y1) (hp : p.length < x3.length) (hok : okL p) {q : Nat} (hq : q ≤ 1000) (hf : fitP x1 x2 x3 y0 y1 (padL x3.length (p ++ [(q : Int)])) = true)
    (hx : Flat K x1.length xs (lev x1 x2 x3 (bagsS y0 y1) (padL x3.length (p ++ [(q : Int)])) x3.length)) :
    (takeF (cellN (nthPR x3 p.length) * K) (upN x1 (nthPR x3 p.length) * K) x2 (nthPR x3 p.length) 1 xs K).2 = fitP x1 x2 x3 y0 y1 (padL x3.length (p ++ [((q + 1 : Nat) : Int)])) ∧
    Flat K x1.length (takeF (cellN (nthPR x3 p.length) * K) (upN x1 (nthPR x3 p.length) * K) x2 (nthPR x3 p.length) 1 xs K).1 (lev x1 x2 x3 (bagsS y0 y1) (padL x3.length (p ++ [((q + 1 : Nat) : Int)])) x3.length) := by
  have h8 := h.r8
  obtain ⟨cs, hcs⟩ : ∃ cs, cs = padL x3.length (p ++ [(q : Int)]) := ⟨_, rfl⟩
  have hl : cs.length = x3.length := by rw [hcs]; exact padL_len (by simp; omega)
  have hn : ∀ j, nth cs j = nth (p ++ [(q : Int)]) j := fun j => by rw [hcs, padL_nth]
  have hb : ∀ j, 0 ≤ nth cs j ∧ nth cs j ≤ 1000 := fun j => by rw [hn]; exact hok.snoc hq j
  have e : padL x3.length (p ++ [((q + 1 : Nat) : Int)]) = cs.set p.length (nth cs p.length + 1) := by
    rw [hn, snoc_nth, if_pos rfl, hcs, pad_setW hp]; rfl
  rw [e]
  rw [← hcs] at hf hx
  clear e hcs hn
  refine ⟨room_fits h hs hb hl hp hf hx, ?_⟩
  have hc1 : cntBd cs := fun j => by have := hb j; omega
  have h1 := (takeF_all h hp (n := 1) (by omega) (fun pl k hpl hk => by have := lev_bd h hc1 pl hk (bagsS_at hs hpl hk) x3.length (by omega); omega) hx).1
  refine ⟨h1.1, fun pl k hpl hk => ?_⟩
  rw [h1.2 pl k hpl hk, lev_more (by omega), if_pos hp, less]; omega
end
end Go.Proofs.Ytkjmehpehopncaa
