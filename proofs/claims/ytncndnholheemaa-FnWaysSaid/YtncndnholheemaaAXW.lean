/- Drawn programs whose orders may leave a choice. Written by mkaw.py. -/
import Derived.Test.YtncndnholheemaaDR
import Derived.Test.YtncndnholheemaaNM
namespace Go.Proofs.Ytncndnholheemaa
open Go.RowKit

theorem exc_cell {w w' : World} {s b i : Nat} (h : Exc [s] w w') (hb : b ≠ s) : w'.cell? ⟨b, i, none⟩ = w.cell? ⟨b, i, none⟩ := World.cell?_of_block (w := w) (h.block b (by simpa using hb))
theorem exc_frozen {w w' : World} {s b i : Nat} (h : Exc [s] w w') (hb : b ≠ s) : w'.frozen? ⟨b, i, none⟩ = w.frozen? ⟨b, i, none⟩ := World.frozen?_of_block (w := w) (h.block b (by simpa using hb))
theorem Chg.lowP {F : List Nat} {w w1 w2 : World} (h : Chg F w w1) (h2 : Below w.heap.size w1 w2) : Chg F w w2 :=
  ⟨h2.os.trans h.os, h2.tape.trans h.tape, h2.output.trans h.output, Nat.le_trans h.size h2.size, fun k hk hF => (h2.block k hk).trans (h.block k hk hF)⟩
/-- An order that may be drawn among n orders, with R registers. -/
def okN (R : Int) (n : Nat) (o : Ord) : Prop := okOrd R n o = true ∧ True
theorem okN.halt (R : Int) (n : Nat) : okN R n ⟨3, 0, 0, 0⟩ := ⟨by simp [okOrd], trivial⟩
theorem okN.add {R : Int} {n : Nat} {r t e : Int} (hr : 0 ≤ r ∧ r < R) (ht : 0 ≤ t ∧ t ≤ n) (he : 0 ≤ e ∧ e ≤ n) : okN R n ⟨1, r, t, e⟩ := ⟨by simp [okOrd, inRg]; omega, trivial⟩
theorem okN.sub {R : Int} {n : Nat} {r t e : Int} (hr : 0 ≤ r ∧ r < R) (ht : 0 ≤ t ∧ t ≤ n) (he : 0 ≤ e ∧ e ≤ n) : okN R n ⟨2, r, t, e⟩ := ⟨by simp [okOrd, inRg]; omega, trivial⟩
/-- A program that may be drawn. -/
structure Drawn (R : Int) (os : List Ord) : Prop where
  r : 1 ≤ R ∧ R ≤ 2
  n : 1 ≤ os.length ∧ os.length ≤ 4
  ok : ∀ k, k < os.length → okN R os.length (nthO os k)
theorem Drawn.valid {R : Int} {os : List Ord} (h : Drawn R os) : validProgS R os = true := by
  have h1 := h.r
  have h2 := h.n
  have : allO (okOrd R os.length) os = true := allO_true fun j hj => (h.ok j hj).1
  simp [validProgS, inRg, this]
  omega
theorem Drawn.fix : Drawn 2 [⟨2, 0, 1, 2⟩, ⟨1, 1, 0, 0⟩] := ⟨by omega, by simp, fun k hk => by
  have : k = 0 ∨ k = 1 := by simp at hk; omega
  rcases this with rfl | rfl
  · exact ⟨by decide, trivial⟩
  · exact ⟨by decide, trivial⟩⟩
/-- A program that is being drawn. -/
structure Drw (w0 : World) (s m : Nat) (R : Int) (wr : World) (os : List Ord) (v : Value) (G : List Nat) : Prop where
  chg : Chg [s] w0 wr
  src : SrcE wr s m
  hs : s < w0.heap.size
  hz : w0.heap.size + 2 ≤ wr.heap.size
  r0 : ∃ u, wr.cell? ⟨w0.heap.size, 0, none⟩ = some u
  r1 : ∃ u, wr.cell? ⟨w0.heap.size, 1, none⟩ = some u
  zr : ∀ i, wr.frozen? ⟨w0.heap.size, i, none⟩ = false
  c0 : wr.cell? ⟨w0.heap.size + 1, 0, none⟩ = some (.int .i64 R)
  c1 : wr.cell? ⟨w0.heap.size + 1, 1, none⟩ = some v
  zc : ∀ i, wr.frozen? ⟨w0.heap.size + 1, i, none⟩ = false
  lst : Lst 125 4 wr (w0.heap.size + 2) v os.length (os.flatMap Ord.ds) G
theorem Drw.go {w0 : World} {s m m' : Nat} {R : Int} {wr w' : World} {os : List Ord} {v : Value} {G : List Nat} (h : Drw w0 s m R wr os v G) (hc : Chg [s] wr w') (hs : SrcE w' s m') : Drw w0 s m' R w' os v G := by
  have hz := h.hz
  have hlt := h.lst.lt
  have e1 : w0.heap.size ∉ [s] := by have := h.hs; simp; omega
  have e2 : w0.heap.size + 1 ∉ [s] := by have := h.hs; simp; omega
  refine ⟨h.chg.trans hc, hs, h.hs, Nat.le_trans hz hc.size, ?_, ?_, fun i => (hc.frozen (by omega) e1 i).trans (h.zr i), (hc.cell (by omega) e2 0).trans h.c0, (hc.cell (by omega) e2 1).trans h.c1, fun i => (hc.frozen (by omega) e2 i).trans (h.zc i), h.lst.keep hc fun g hg => by have := hlt g hg; have := h.hs; simp; omega⟩
  · obtain ⟨u, hu⟩ := h.r0; exact ⟨u, (hc.cell (by omega) e1 0).trans hu⟩
  · obtain ⟨u, hu⟩ := h.r1; exact ⟨u, (hc.cell (by omega) e1 1).trans hu⟩
theorem Drw.put {w0 : World} {s m m' : Nat} {R : Int} {wr wb w7 : World} {os : List Ord} {v v' : Value} {G G' : List Nat} {r : Ord} (h : Drw w0 s m R wr os v G) (hc : Chg [s] wr wb) (hs : SrcE wb s m') (hN : LstNext 125 4 wb w7 (w0.heap.size + 2) v v' os.length (os.flatMap Ord.ds) r.ds G [] G') :
    w7.cell? ⟨w0.heap.size + 1, 1, none⟩ = some v ∧ w7.frozen? ⟨w0.heap.size + 1, 1, none⟩ = false ∧ Drw w0 s m' R (w7.setCell ⟨w0.heap.size + 1, 1, none⟩ v') (os ++ [r]) v' G' := by
  have hk := h.go hc hs
  have hz := hk.hz
  have hhs := hk.hs
  have hlt := hk.lst.lt
  have hob : ∀ g, g ∈ ob v → w0.heap.size + 2 ≤ g := fun g hg => (hlt g (ob_sub hk.lst _ hg)).1
  have n1 : w0.heap.size ∉ ob v := fun e => by have := hob _ e; omega
  have n2 : w0.heap.size + 1 ∉ ob v := fun e => by have := hob _ e; omega
  have c0 := (hN.chg.cell (by omega) n2 0).trans hk.c0
  have c1 := (hN.chg.cell (by omega) n2 1).trans hk.c1
  have zc := fun i => (hN.chg.frozen (by omega) n2 i).trans (hk.zc i)
  have zr := fun i => (hN.chg.frozen (by omega) n1 i).trans (hk.zr i)
  have hG : ∀ x, x ∈ G' → w0.heap.size + 2 ≤ x := fun x hx => by
    rcases hN.mem x hx with h | h | h
    · exact (hlt x h).1
    · simp at h
    · omega
  have oth : ∀ (b i : Nat), b ≠ w0.heap.size + 1 ∨ i ≠ 1 → (w7.setCell ⟨w0.heap.size + 1, 1, none⟩ v').cell? ⟨b, i, none⟩ = w7.cell? ⟨b, i, none⟩ := fun b i hi => World.cell?_setCell_other _ _ _ _ (by intro e; cases e; omega)
  have hzz : w0.heap.size + 2 ≤ w7.heap.size := Nat.le_trans hz hN.chg.size
  have hsz := (Exc.setCell w7 ⟨w0.heap.size + 1, 1, none⟩ v').size
  have hcs : Chg [w0.heap.size + 1] w7 (w7.setCell ⟨w0.heap.size + 1, 1, none⟩ v') := chg_set w7 ⟨w0.heap.size + 1, 1, none⟩ v' [w0.heap.size + 1] (by simp)
  refine ⟨c1, zc 1, ?_⟩
  refine ⟨?_, ?_, hhs, by omega, ?_, ?_, fun i => by rw [World.frozen?_setCell]; exact zr i, (oth _ _ (.inr (by omega))).trans c0, World.cell?_setCell_same _ _ _ c1, fun i => by rw [World.frozen?_setCell]; exact zc i, ?_⟩
  · have a1 : Chg [s] w0 w7 := ⟨hN.chg.os.trans hk.chg.os, hN.chg.tape.trans hk.chg.tape, hN.chg.output.trans hk.chg.output, Nat.le_trans hk.chg.size hN.chg.size, fun k h1 h2 => (hN.chg.block k (by omega) (fun e => by have := hob _ e; omega)).trans (hk.chg.block k h1 h2)⟩
    exact ⟨hcs.os.trans a1.os, hcs.tape.trans a1.tape, hcs.output.trans a1.output, Nat.le_trans a1.size hcs.size, fun k h1 h2 => (hcs.block k (by omega) (by simp; omega)).trans (a1.block k h1 h2)⟩
  · refine (hs.chg hN.chg fun g hg => by have := hob _ hg; omega).chg hcs fun g hg => by simp at hg; omega
  · obtain ⟨u, hu⟩ := hk.r0
    exact ⟨u, (oth _ _ (.inl (by omega))).trans ((hN.chg.cell (by omega) n1 0).trans hu)⟩
  · obtain ⟨u, hu⟩ := hk.r1
    exact ⟨u, (oth _ _ (.inl (by omega))).trans ((hN.chg.cell (by omega) n1 1).trans hu)⟩
  · have := hN.lst.keep hcs fun g hg e => by
      have := hG g hg
      simp at e; omega
    simpa using this
theorem Drw.more {w0 : World} {s m m' : Nat} {R : Int} {wr : World} {os : List Ord} {v : Value} {G : List Nat} (h : Drw w0 s m R wr os v G) (hm : m ≤ m') : Drw w0 s m' R wr os v G :=
  ⟨h.chg, h.src.more hm, h.hs, h.hz, h.r0, h.r1, h.zr, h.c0, h.c1, h.zc, h.lst⟩
theorem Drw.setN {w0 : World} {s m : Nat} {R : Int} {wr : World} {os : List Ord} {v : Value} {G : List Nat} (h : Drw w0 s m R wr os v G) (b i : Nat) (u : Value) (hb : b ≠ s) (hlo : w0.heap.size + 2 ≤ b) (hG : b ∉ G) : Drw w0 s m R (wr.setCell ⟨b, i, none⟩ u) os v G := by
  have hc : Chg [b] wr (wr.setCell ⟨b, i, none⟩ u) := chg_set wr ⟨b, i, none⟩ u [b] (by simp)
  have hhs := h.hs
  have hz := h.hz
  have oth : ∀ (c j : Nat), c ≠ b → (wr.setCell ⟨b, i, none⟩ u).cell? ⟨c, j, none⟩ = wr.cell? ⟨c, j, none⟩ := fun c j hj => World.cell?_setCell_other _ _ _ _ (by intro e; cases e; exact hj rfl)
  refine ⟨⟨hc.os.trans h.chg.os, hc.tape.trans h.chg.tape, hc.output.trans h.chg.output, Nat.le_trans h.chg.size hc.size, fun k h1 h2 => (hc.block k (by omega) (by simp; omega)).trans (h.chg.block k h1 h2)⟩, h.src.chg hc fun g hg => by simp at hg; omega, hhs, by rw [(Exc.setCell _ _ _).size]; exact hz, ?_, ?_, fun j => by rw [World.frozen?_setCell]; exact h.zr j, (oth _ _ (by omega)).trans h.c0, (oth _ _ (by omega)).trans h.c1, fun j => by rw [World.frozen?_setCell]; exact h.zc j, h.lst.keep hc fun g hg e => by simp at e; subst e; exact hG hg⟩
  · obtain ⟨u, hu⟩ := h.r0; exact ⟨u, (oth _ _ (by omega)).trans hu⟩
  · obtain ⟨u, hu⟩ := h.r1; exact ⟨u, (oth _ _ (by omega)).trans hu⟩
theorem ok_snoc {R : Int} {n : Nat} {os : List Ord} {r : Ord} (h : ∀ j, j < os.length → okN R n (nthO os j)) (hr : okN R n r) : ∀ j, j < (os ++ [r]).length → okN R n (nthO (os ++ [r]) j) := fun j hj => by
  by_cases e : j < os.length
  · have := h j e
    rwa [show nthO (os ++ [r]) j = nthO os j by simp [nthO, List.getD_eq_getElem?_getD, List.getElem?_append_left e]]
  · have : j = os.length := by simp at hj; omega
    subst this
    simpa [nthO] using hr
theorem Lst.fix2 (E : TypeId) (w3 : World) (B : Nat) (hB : B ≤ w3.heap.size) : Lst E 4 (w3.alloc (.cells #[.int .i64 2, .int .i64 0, .int .i64 1, .int .i64 2, .int .i64 1, .int .i64 1, .int .i64 0, .int .i64 0] E)) B (.slice (some ⟨w3.heap.size, 0, none⟩) 2 2) 2 (([⟨2, 0, 1, 2⟩, ⟨1, 1, 0, 0⟩] : List Ord).flatMap Ord.ds) [w3.heap.size] :=
  ⟨[.int .i64 2, .int .i64 0, .int .i64 1, .int .i64 2, .int .i64 1, .int .i64 1, .int .i64 0, .int .i64 0], [], ⟨by simp, .inr ⟨w3.heap.size, 2, _, rfl, hB, heap_alloc_new w3 _, by omega, by simp [maxLen], by simp, by simp⟩⟩, ⟨[], [], ⟨rfl, rfl⟩, ⟨[], [], ⟨rfl, rfl⟩, ⟨[], [], ⟨rfl, rfl⟩, ⟨[], [], ⟨rfl, rfl⟩, ⟨[], [], ⟨rfl, rfl⟩, ⟨[], [], ⟨rfl, rfl⟩, ⟨[], [], ⟨rfl, rfl⟩, ⟨[], [], ⟨rfl, rfl⟩, rfl, rfl⟩, rfl⟩, rfl⟩, rfl⟩, rfl⟩, rfl⟩, rfl⟩, rfl⟩, by simp, by simp, by simp, by simp [ob, Value.ownBlock]⟩
theorem Drw.fix {w0 : World} {s m : Nat} {R : Int} {wr wB : World} {os : List Ord} {v : Value} {G : List Nat} (h : Drw w0 s m R wr os v G) (hwB : wB = (wr.setCell ⟨w0.heap.size + 1, 0, none⟩ (.int .i64 2)).setCell ⟨w0.heap.size + 1, 1, none⟩ (.slice (some ⟨wr.heap.size, 0, none⟩) 2 2)) :
    wB.heap.size = wr.heap.size ∧ Drw w0 s m 2 (wB.alloc (.cells #[.int .i64 2, .int .i64 0, .int .i64 1, .int .i64 2, .int .i64 1, .int .i64 1, .int .i64 0, .int .i64 0] 125)) [⟨2, 0, 1, 2⟩, ⟨1, 1, 0, 0⟩] (.slice (some ⟨wr.heap.size, 0, none⟩) 2 2) [wr.heap.size] := by
  have hz := h.hz
  have hhs := h.hs
  have hc1 : Chg [w0.heap.size + 1] wr (wr.setCell ⟨w0.heap.size + 1, 0, none⟩ (.int .i64 2)) := chg_set wr ⟨w0.heap.size + 1, 0, none⟩ _ [w0.heap.size + 1] (by simp)
  have hc : Chg [w0.heap.size + 1] wr wB := by rw [hwB]; exact hc1.trans (chg_set _ ⟨w0.heap.size + 1, 1, none⟩ _ [w0.heap.size + 1] (by simp))
  have sA := setA wr (w0.heap.size + 1) (.int .i64 2) (.slice (some ⟨wr.heap.size, 0, none⟩) 2 2) h.c0 h.c1
  have sB : wB.cell? ⟨w0.heap.size + 1, 0, none⟩ = some (.int .i64 2) := by rw [hwB]; exact sA.1
  have sC : wB.cell? ⟨w0.heap.size + 1, 1, none⟩ = some (.slice (some ⟨wr.heap.size, 0, none⟩) 2 2) := by rw [hwB]; exact sA.2.1
  have hzB : wB.heap.size = wr.heap.size := by rw [hwB, (Exc.setCell _ _ _).size, (Exc.setCell _ _ _).size]
  have zB : ∀ i, wB.frozen? ⟨w0.heap.size + 1, i, none⟩ = false := fun i => by rw [hwB, World.frozen?_setCell, World.frozen?_setCell]; exact h.zc i
  have hba := below_alloc wB (.cells #[.int .i64 2, .int .i64 0, .int .i64 1, .int .i64 2, .int .i64 1, .int .i64 1, .int .i64 0, .int .i64 0] 125)
  have hL := Lst.fix2 125 wB (w0.heap.size + 2) (by omega)
  rw [hzB] at hL
  have hcB : Chg [s] w0 wB := ⟨hc.os.trans h.chg.os, hc.tape.trans h.chg.tape, hc.output.trans h.chg.output, Nat.le_trans h.chg.size hc.size, fun k h1 h2 => (hc.block k (by omega) (by simp; omega)).trans (h.chg.block k h1 h2)⟩
  refine ⟨hzB, Chg.lowP hcB (hba.mono (by omega)), (h.src.chg hc fun g hg => by simp at hg; omega).below hba (by omega), hhs, by simp; omega, ?_, ?_, fun i => (hba.frozen (p := ⟨w0.heap.size, i, none⟩) (by simp; omega)).trans ((hc.frozen (by omega) (by simp) i).trans (h.zr i)), (bcell1 hba (by omega)).trans sB, (bcell1 hba (by omega)).trans sC, fun i => (hba.frozen (p := ⟨w0.heap.size + 1, i, none⟩) (by simp; omega)).trans (zB i), hL⟩
  · obtain ⟨u, hu⟩ := h.r0; exact ⟨u, (bcell1 hba (by omega)).trans ((hc.cell (by omega) (by simp) 0).trans hu)⟩
  · obtain ⟨u, hu⟩ := h.r1; exact ⟨u, (bcell1 hba (by omega)).trans ((hc.cell (by omega) (by simp) 1).trans hu)⟩
theorem row_ord {w5 : World} {B : Nat} {x r t e : Int} {E : TypeId} {G : List Nat} : RowAt (w5.alloc (.cells #[.int .i64 x, .int .i64 r, .int .i64 t, .int .i64 e] E)) w5.heap.size 4 B (Ord.mk x r t e).ds [.int .i64 x, .int .i64 r, .int .i64 t, .int .i64 e] [] G := by
  refine ⟨⟨[], [], ⟨rfl, rfl⟩, ⟨[], [], ⟨rfl, rfl⟩, ⟨[], [], ⟨rfl, rfl⟩, ⟨[], [], ⟨rfl, rfl⟩, rfl, rfl⟩, rfl⟩, rfl⟩, rfl⟩, rfl, by simp, by simp, by simp, fun j u hu => ?_, by simp [Value.oneCell']⟩
  match j, hu with
  | 0, hu => simp at hu; subst hu; simp
  | 1, hu => simp at hu; subst hu; simp
  | 2, hu => simp at hu; subst hu; simp
  | 3, hu => simp at hu; subst hu; simp
set_option maxHeartbeats 1000000 in
theorem among_c (s m g c : Nat) (w : World) (h : SrcE w s m) (hm : m ≤ 4000000000) (hg : g ≠ s) (g0 : w.cell? ⟨g, 0, none⟩ = some (.int .i64 1)) (g1 : w.cell? ⟨g, 1, none⟩ = some (.int .i64 2)) (g2 : w.cell? ⟨g, 2, none⟩ = some (.int .i64 2)) (g3 : w.cell? ⟨g, 3, none⟩ = some (.int .i64 3)) :
    Calls Try.prog 123 #[.pointer (some ⟨s, 0, none⟩), .slice (some ⟨g, 0, none⟩) 4 c] w (RetN w s (m + 2) fun x => x = 1 ∨ x = 2 ∨ x = 3) := by
  have HP := Lib.hid (pick_c s m 4 w h hm (by omega))
  have i1 := ix_of (P := Try.prog) tabI.under tabI.size (a := some ⟨g, 0, none⟩) (n := 4) (fun _ => ⟨g, 0, rfl⟩) c
  simp only [Nat.mul_one, adr, blk, ofs, Nat.zero_add] at i1
  clear h
  go_enter Try.func123, Try.ntmps123
  go_wp2_with fail
  refine HP.out.mono ?_
  rintro e w1 ⟨x, rfl, hx, he, hs⟩
  replace g0 := (exc_cell he hg).trans g0
  replace g1 := (exc_cell he hg).trans g1
  replace g2 := (exc_cell he hg).trans g2
  replace g3 := (exc_cell he hg).trans g3
  have HE := Lib.hid he
  have HS := Lib.hid hs
  clear he hs
  have hx4 : x = 0 ∨ x = 1 ∨ x = 2 ∨ x = 3 := by omega
  clear hx
  rcases hx4 with rfl | rfl | rfl | rfl
  all_goals
    go_wp2
    go_ret
    exact ⟨_, rfl, by omega, HE.out, HS.out⟩
/-- A program is drawn into memory of its own. -/
def RetDr (w : World) (s m : Nat) (e : Ending) (w' : World) : Prop := ∃ (R : Int) (os : List Ord) (v : Value) (F : List Nat), e = .returned (.agg #[.int .i64 R, v]) ∧ Chg [s] w w' ∧ Ow w' (dO os) v F ∧ F.Nodup ∧ (∀ g, g ∈ F → w.heap.size ≤ g) ∧ Drawn R os ∧ SrcE w' s m
theorem Drw.ret {w0 : World} {s m : Nat} {R : Int} {wr : World} {os : List Ord} {v : Value} {G : List Nat} (h : Drw w0 s m R wr os v G) (hd : Drawn R os) : RetDr w0 s m (.returned (.agg #[.int .i64 R, v])) ((wr.setCell ⟨w0.heap.size, 0, none⟩ (.int .i64 R)).setCell ⟨w0.heap.size, 1, none⟩ v) := by
  obtain ⟨G', o1, n1, s1⟩ := h.lst.ow (by omega) (by have := hd.n; unfold maxLen; omega)
  have hlt := h.lst.lt
  have hhs := h.hs
  have hg : w0.heap.size ∉ G' := fun e => by have := hlt _ (s1 _ e); omega
  have hc1 : Chg [w0.heap.size] wr (wr.setCell ⟨w0.heap.size, 0, none⟩ (.int .i64 R)) := chg_set wr ⟨w0.heap.size, 0, none⟩ _ [w0.heap.size] (by simp)
  have hc2 : Chg [w0.heap.size] wr ((wr.setCell ⟨w0.heap.size, 0, none⟩ (.int .i64 R)).setCell ⟨w0.heap.size, 1, none⟩ v) := hc1.trans (chg_set _ ⟨w0.heap.size, 1, none⟩ v [w0.heap.size] (by simp))
  have hz := h.hz
  refine ⟨R, os, v, G', rfl, ?_, (o1.setCell hg _).setCell hg _, n1, fun g hg2 => by have := hlt g (s1 g hg2); omega, hd, h.src.chg hc2 fun g hg2 => by simp at hg2; omega⟩
  exact ⟨hc2.os.trans h.chg.os, hc2.tape.trans h.chg.tape, hc2.output.trans h.chg.output, Nat.le_trans h.chg.size hc2.size, fun k h1 h2 => (hc2.block k (by omega) (by simp; omega)).trans (h.chg.block k h1 h2)⟩
theorem RetDr.more {w : World} {s m m' : Nat} {e : Ending} {w' : World} (h : RetDr w s m e w') (hm : m ≤ m') : RetDr w s m' e w' := by
  obtain ⟨R, os, v, F, h1, h2, h3, h4, h5, h6, h7⟩ := h
  exact ⟨R, os, v, F, h1, h2, h3, h4, h5, h6, h7.more hm⟩
set_option maxHeartbeats 4000000 in
set_option maxRecDepth 100000 in
theorem l05Draw_c (s m : Nat) (w : World) (h : SrcE w s m) (hm : m ≤ 1000000) :
    Calls Try.prog 78 #[.pointer (some ⟨s, 0, none⟩), .bool false] w (RetDr w s (m + 100)) := by
  have hsz := h.lt
  have HP := Lib.hid (fun (m : Nat) (n : Int) wx h (hm : m ≤ 4000000000) (hn : n ≤ 40000) => pick_c s m n wx h hm hn)
  have HO := Lib.hid (fun (m : Nat) wx h (hm : m ≤ 4000000000) => one_c s m 5 wx h hm (by omega))
  have HO2 := Lib.hid (fun (m : Nat) wx h (hm : m ≤ 4000000000) => one_c s m 2 wx h hm (by omega))
  have HAM := Lib.hid (fun (m g c : Nat) wx h (hm : m ≤ 4000000000) (hg : g ≠ s) g0 g1 g2 g3 => among_c s m g c wx h hm hg g0 g1 g2 g3)
  have HS0 := Lib.hid (h.below (below_alloc w (.cells #[.int .i64 0, .slice none 0 0] 52)) hsz)
  clear h
  go_enter Try.func78, Try.ntmps78
  go_wp2_with fail
  refine (HP.out m 2 _ HS0.out (by omega) (by omega)).mono ?_
  rintro e w1 ⟨x1, rfl, hx1, he1, hs1⟩
  have hz1 : w1.heap.size = w.heap.size + 1 := by rw [he1.size]; simp
  have HS1 := Lib.hid hs1
  have HE1 := Lib.hid he1
  obtain ⟨R, hR⟩ : ∃ R, R = 1 + x1 := ⟨_, rfl⟩
  have hR1 : 1 ≤ R ∧ R ≤ 2 := by omega
  have hw1 : IntKind.i64.wrap (1 + x1) = R := by rw [wrap_64]; unfold wrap64; omega
  have HC1 : Hid (Chg [s] w w1) := Lib.hid ((Chg.lowP (Chg.refl [s] w) (below_alloc w _)).trans he1.chg)
  have u0 : w1.cell? ⟨w.heap.size, 0, none⟩ = some (.int .i64 0) := (exc_cell he1 (by omega)).trans (by simp [go_sem])
  have u1 : w1.cell? ⟨w.heap.size, 1, none⟩ = some (.slice none 0 0) := (exc_cell he1 (by omega)).trans (by simp [go_sem])
  have uz : ∀ i, w1.frozen? ⟨w.heap.size, i, none⟩ = false := fun i => (exc_frozen he1 (by omega)).trans (by simp [go_sem])
  clear he1 hs1
  have HS1A := Lib.hid (HS1.out.below (below_alloc w1 (.cells #[.int .i64 (1 + x1), .slice none 0 0] 52)) (by omega))
  have hw1' : IntKind.i64.wrap (1 + x1) = 1 + x1 := hw1.trans hR
  clear hw1
  go_wp2_with fail
  refine (HP.out (m + 2) 4 _ HS1A.out (by omega) (by omega)).mono ?_
  rintro e w2 ⟨x2, rfl, hx2, he2, hs2⟩
  have v0 : w2.cell? ⟨w.heap.size + 1, 0, none⟩ = some (.int .i64 (1 + x1)) := (exc_cell he2 (by omega)).trans (by rw [← hz1]; simp [go_sem])
  have v1 : w2.cell? ⟨w.heap.size + 1, 1, none⟩ = some (.slice none 0 0) := (exc_cell he2 (by omega)).trans (by rw [← hz1]; simp [go_sem])
  have vz : ∀ i, w2.frozen? ⟨w.heap.size + 1, i, none⟩ = false := fun i => (exc_frozen he2 (by omega)).trans (by rw [← hz1]; simp [go_sem])
  have hb1 := below_alloc w1 (.cells #[.int .i64 (1 + x1), .slice none 0 0] 52)
  have HD : Hid (Drw w s (m + 4) (1 + x1) w2 [] (.slice none 0 0) []) := Lib.hid ⟨(Chg.lowP HC1.out (hb1.mono (by omega))).trans he2.chg, hs2, hsz, by rw [he2.size]; simp; omega, ⟨_, (exc_cell he2 (by omega)).trans ((bcell1 hb1 (by omega)).trans u0)⟩, ⟨_, (exc_cell he2 (by omega)).trans ((bcell1 hb1 (by omega)).trans u1)⟩, fun i => (exc_frozen he2 (by omega)).trans ((hb1.frozen (p := ⟨w.heap.size, i, none⟩) (by simp; omega)).trans (uz i)), v0, v1, vz, Lst.nil _ _ _ _⟩
  obtain ⟨nn, rfl⟩ : ∃ n : Nat, x2 = (n : Int) := ⟨x2.toNat, by omega⟩
  have hnn : nn ≤ 3 := by omega
  have hw2 : IntKind.i64.wrap (1 + (nn : Int)) = 1 + (nn : Int) := by rw [wrap_64]; unfold wrap64; omega
  have hw3 : IntKind.i64.wrap (1 + (nn : Int) + 1) = 1 + (nn : Int) + 1 := by rw [wrap_64]; unfold wrap64; omega
  have hRb : 1 ≤ 1 + x1 ∧ 1 + x1 ≤ 2 := by omega
  clear v0 v1 vz hb1 he2 hs2 u0 u1 uz HS1A HS1 HE1 HC1 hz1 hR hR1 hx1 hx2
  go_wp2
  go_loopw [7, 8] (fun i o wr => ∃ (k : Nat) (os : List Ord) (v : Value) (G : List Nat), k ≤ nn + 1 ∧ i = .int .i64 k ∧ Hid (os.length = k) ∧ Hid (∀ j, j < os.length → okN (1 + x1) (nn + 1) (nthO os j)) ∧ Hid (Drw w s (m + 4 + 12 * k) (1 + x1) wr os v G)) (fun i _ _ => nn + 1 - (intOf i).toNat)
  case atStart => exact ⟨0, [], _, _, Nat.zero_le _, rfl, Lib.hid rfl, Lib.hid (by simp), HD⟩
  case round =>
    obtain ⟨k, os, v, G, hk, rfl, HL, HOK, HDr⟩ := hrel
    by_cases hlt : k < nn + 1
    · have hlt' : (k : Int) < 1 + (nn : Int) := by omega
      have hz := HDr.out.hz
      obtain ⟨wA, hwA⟩ : ∃ z, z = wr.alloc (.cells #[.int .i64 1, .int .i64 2, .int .i64 2, .int .i64 3] 2) := ⟨_, rfl⟩
      have hbA : Below wr.heap.size wr wA := by rw [hwA]; exact below_alloc _ _
      have g0 : wA.cell? ⟨wr.heap.size, 0, none⟩ = some (.int .i64 1) := by rw [hwA]; simp [go_sem]
      have g1 : wA.cell? ⟨wr.heap.size, 1, none⟩ = some (.int .i64 2) := by rw [hwA]; simp [go_sem]
      have g2 : wA.cell? ⟨wr.heap.size, 2, none⟩ = some (.int .i64 2) := by rw [hwA]; simp [go_sem]
      have g3 : wA.cell? ⟨wr.heap.size, 3, none⟩ = some (.int .i64 3) := by rw [hwA]; simp [go_sem]
      have hzA : wA.heap.size = wr.heap.size + 1 := by rw [hwA]; simp
      have HSA := Lib.hid (HDr.out.src.below hbA (by omega))
      have HCA : Hid (Chg [s] wr wA) := Lib.hid (Chg.lowP (Chg.refl _ _) hbA)
      have C := Lib.hid (HAM.out (m + 4 + 12 * k) wr.heap.size 4 wA HSA.out (by omega) (by omega) g0 g1 g2 g3)
      clear g0 g1 g2 g3 hbA
      rw [hwA] at C
      go_wp2_with fail
      refine C.out.mono ?_
      rintro e w3 ⟨x, rfl, hx, he3, hs3⟩
      rw [← hwA] at he3
      have hz3 : w3.heap.size = wr.heap.size + 1 := by rw [he3.size, hzA]
      have HS3 := Lib.hid hs3
      have HC3 := Lib.hid (HCA.out.trans he3.chg)
      clear he3 hs3 C hwA HSA HCA hzA wA
      have HZ3 := Lib.hid hz3
      have hne : w3.heap.size ≠ s := by omega
      have hn1 : ¬ w.heap.size + 1 = w3.heap.size := by omega
      have hn2 : ¬ w3.heap.size = w.heap.size + 1 := by omega
      have HDr3 := Lib.hid (HDr.out.go HC3.out HS3.out)
      have HKL := Lib.hid hk
      have hb3 : w.heap.size + 1 < w3.heap.size := by omega
      have c0a := fun X => (bcell1 (i := 0) (below_alloc w3 X) hb3).trans HDr3.out.c0
      have c1a := fun X => (bcell1 (i := 1) (below_alloc w3 X) hb3).trans HDr3.out.c1
      clear hz3
      rcases hx with rfl | rfl | rfl
      · obtain ⟨w4, hw4⟩ : ∃ z, z = (w3.alloc (.cells #[.int .i64 1, .int .i64 0, .int .i64 0, .int .i64 0] 125)) := ⟨_, rfl⟩
        have HX4 : Hid (Drw w s _ (1 + x1) w4 os v G) := Lib.hid (by rw [hw4]; exact HDr3.out.go (Chg.lowP (Chg.refl [s] w3) (below_alloc w3 _)) (HS3.out.below (below_alloc w3 _) (by have := HZ3.out; omega)))
        have hz4 : Hid (w4.heap.size = wr.heap.size + 2) := Lib.hid (by rw [hw4]; simp [HZ3.out])
        have o0 : w4.cell? ⟨w3.heap.size, 0, none⟩ = some (.int .i64 1) := by rw [hw4]; simp [go_sem]
        have o1 : w4.cell? ⟨w3.heap.size, 1, none⟩ = some (.int .i64 0) := by rw [hw4]; simp [go_sem]
        have o2 : w4.cell? ⟨w3.heap.size, 2, none⟩ = some (.int .i64 0) := by rw [hw4]; simp [go_sem]
        have o3 : w4.cell? ⟨w3.heap.size, 3, none⟩ = some (.int .i64 0) := by rw [hw4]; simp [go_sem]
        have oz : ∀ i, w4.frozen? ⟨w3.heap.size, i, none⟩ = false := fun i => by rw [hw4]; simp [go_sem]
        have c0 := HX4.out.c0
        have C := Lib.hid (HP.out _ (1 + x1) w4 HX4.out.src (by omega) (by omega))
        rw [hw4] at C
        go_wp2_with fail
        refine C.out.mono ?_
        rintro e w5 ⟨r, rfl, hxr, he, hs⟩
        rw [← hw4] at he
        clear C
        have HX5 := Lib.hid (HX4.out.go he.chg hs)
        have hz5 : Hid (w5.heap.size = wr.heap.size + 2) := Lib.hid (he.size.trans hz4.out)
        replace o0 := (exc_cell he hne).trans o0
        replace o1 := (exc_cell he hne).trans o1
        replace o2 := (exc_cell he hne).trans o2
        replace o3 := (exc_cell he hne).trans o3
        replace oz := fun i => (exc_frozen he hne).trans (oz i)
        have c05 := HX5.out.c0
        clear he hs
        have y1 := oz 1
        obtain ⟨w6, hw6⟩ : ∃ z, z = w5.setCell ⟨w3.heap.size, 1, none⟩ (.int .i64 r) := ⟨_, rfl⟩
        have HX6 : Hid (Drw w s _ (1 + x1) w6 os v G) := Lib.hid (by rw [hw6]; exact HX5.out.setN _ _ _ hne (by have := HZ3.out; omega) (fun e => by have := HDr.out.lst.lt _ e; have := HZ3.out; omega))
        have hz6 : Hid (w6.heap.size = wr.heap.size + 2) := Lib.hid (by rw [hw6, (Exc.setCell _ _ _).size]; exact hz5.out)
        have p0 := (show w6.cell? ⟨w3.heap.size, 0, none⟩ = _ from by rw [hw6]; exact World.cell?_setCell_other _ _ _ _ (by simp)).trans o0
        have p1 : w6.cell? ⟨w3.heap.size, 1, none⟩ = some (.int .i64 r) := by rw [hw6]; exact World.cell?_setCell_same _ _ _ o1
        have p2 := (show w6.cell? ⟨w3.heap.size, 2, none⟩ = _ from by rw [hw6]; exact World.cell?_setCell_other _ _ _ _ (by simp)).trans o2
        have p3 := (show w6.cell? ⟨w3.heap.size, 3, none⟩ = _ from by rw [hw6]; exact World.cell?_setCell_other _ _ _ _ (by simp)).trans o3
        have pz : ∀ i, w6.frozen? ⟨w3.heap.size, i, none⟩ = false := fun i => by rw [hw6, World.frozen?_setCell]; exact oz i
        have q0 := o0
        clear o0
        have o0 := p0
        clear p0
        have q1 := o1
        clear o1
        have o1 := p1
        clear p1
        have q2 := o2
        clear o2
        have o2 := p2
        clear p2
        have q3 := o3
        clear o3
        have o3 := p3
        clear p3
        clear oz
        have oz := pz
        clear pz
        have c06 := HX6.out.c0
        have C := Lib.hid (HP.out _ (1 + (nn : Int) + 1) w6 HX6.out.src (by omega) (by omega))
        rw [hw6] at C
        go_wp2_with fail
        refine C.out.mono ?_
        rintro e w7 ⟨t, rfl, hxt, he, hs⟩
        rw [← hw6] at he
        clear C
        have HX7 := Lib.hid (HX6.out.go he.chg hs)
        have hz7 : Hid (w7.heap.size = wr.heap.size + 2) := Lib.hid (he.size.trans hz6.out)
        replace o0 := (exc_cell he hne).trans o0
        replace o1 := (exc_cell he hne).trans o1
        replace o2 := (exc_cell he hne).trans o2
        replace o3 := (exc_cell he hne).trans o3
        replace oz := fun i => (exc_frozen he hne).trans (oz i)
        have c07 := HX7.out.c0
        clear he hs
        clear q0 q1 q2 q3 y1
        have y2 := oz 2
        obtain ⟨w8, hw8⟩ : ∃ z, z = w7.setCell ⟨w3.heap.size, 2, none⟩ (.int .i64 t) := ⟨_, rfl⟩
        have HX8 : Hid (Drw w s _ (1 + x1) w8 os v G) := Lib.hid (by rw [hw8]; exact HX7.out.setN _ _ _ hne (by have := HZ3.out; omega) (fun e => by have := HDr.out.lst.lt _ e; have := HZ3.out; omega))
        have hz8 : Hid (w8.heap.size = wr.heap.size + 2) := Lib.hid (by rw [hw8, (Exc.setCell _ _ _).size]; exact hz7.out)
        have p0 := (show w8.cell? ⟨w3.heap.size, 0, none⟩ = _ from by rw [hw8]; exact World.cell?_setCell_other _ _ _ _ (by simp)).trans o0
        have p1 := (show w8.cell? ⟨w3.heap.size, 1, none⟩ = _ from by rw [hw8]; exact World.cell?_setCell_other _ _ _ _ (by simp)).trans o1
        have p2 : w8.cell? ⟨w3.heap.size, 2, none⟩ = some (.int .i64 t) := by rw [hw8]; exact World.cell?_setCell_same _ _ _ o2
        have p3 := (show w8.cell? ⟨w3.heap.size, 3, none⟩ = _ from by rw [hw8]; exact World.cell?_setCell_other _ _ _ _ (by simp)).trans o3
        have pz : ∀ i, w8.frozen? ⟨w3.heap.size, i, none⟩ = false := fun i => by rw [hw8, World.frozen?_setCell]; exact oz i
        have q0 := o0
        clear o0
        have o0 := p0
        clear p0
        have q1 := o1
        clear o1
        have o1 := p1
        clear p1
        have q2 := o2
        clear o2
        have o2 := p2
        clear p2
        have q3 := o3
        clear o3
        have o3 := p3
        clear p3
        clear oz
        have oz := pz
        clear pz
        have c08 := HX8.out.c0
        have C := Lib.hid (HP.out _ (1 + (nn : Int) + 1) w8 HX8.out.src (by omega) (by omega))
        rw [hw8] at C
        go_wp2_with fail
        refine C.out.mono ?_
        rintro e w9 ⟨l, rfl, hxl, he, hs⟩
        rw [← hw8] at he
        clear C
        have HX9 := Lib.hid (HX8.out.go he.chg hs)
        have hz9 : Hid (w9.heap.size = wr.heap.size + 2) := Lib.hid (he.size.trans hz8.out)
        replace o0 := (exc_cell he hne).trans o0
        replace o1 := (exc_cell he hne).trans o1
        replace o2 := (exc_cell he hne).trans o2
        replace o3 := (exc_cell he hne).trans o3
        replace oz := fun i => (exc_frozen he hne).trans (oz i)
        have c09 := HX9.out.c0
        clear he hs
        clear q0 q1 q2 q3 y2
        have y3 := oz 3
        have HXA := Lib.hid (HX9.out.setN w3.heap.size 3 (.int .i64 l) hne (by have := HZ3.out; omega) (fun e => by have := HDr.out.lst.lt _ e; have := HZ3.out; omega))
        obtain ⟨wB, hwB⟩ : ∃ z, z = (w9.setCell ⟨w3.heap.size, 3, none⟩ (.int .i64 l)) := ⟨_, rfl⟩
        have HXB : Hid (Drw w s _ (1 + x1) wB os v G) := Lib.hid (by rw [hwB]; exact HXA.out)
        have b0 := (show wB.cell? ⟨w3.heap.size, 0, none⟩ = _ from by rw [hwB]; exact World.cell?_setCell_other _ _ _ _ (by simp)).trans o0
        have b1 := (show wB.cell? ⟨w3.heap.size, 1, none⟩ = _ from by rw [hwB]; exact World.cell?_setCell_other _ _ _ _ (by simp)).trans o1
        have b2 := (show wB.cell? ⟨w3.heap.size, 2, none⟩ = _ from by rw [hwB]; exact World.cell?_setCell_other _ _ _ _ (by simp)).trans o2
        have b3 : wB.cell? ⟨w3.heap.size, 3, none⟩ = some (.int .i64 l) := by rw [hwB]; exact World.cell?_setCell_same _ _ _ o3
        have bz : ∀ i, wB.frozen? ⟨w3.heap.size, i, none⟩ = false := fun i => by rw [hwB, World.frozen?_setCell]; exact oz i
        have C := Lib.hid (HO2.out _ wB HXB.out.src (by omega))
        rw [hwB] at C
        have y3q := oz 3
        go_wp2_with fail
        refine C.out.mono ?_
        rintro e w10 ⟨bb, rfl, he, hs⟩
        rw [← hwB] at he
        clear C o0 o1 o2 o3 oz y3 y3q
        have HXT := Lib.hid (HXB.out.go he.chg hs)
        have hzT : Hid (w10.heap.size = wr.heap.size + 2) := Lib.hid (he.size.trans (by rw [hwB, (Exc.setCell _ _ _).size]; exact hz9.out))
        replace b0 := (exc_cell he hne).trans b0
        replace b1 := (exc_cell he hne).trans b1
        replace b2 := (exc_cell he hne).trans b2
        replace b3 := (exc_cell he hne).trans b3
        replace bz := fun i => (exc_frozen he hne).trans (bz i)
        clear he hs hwB HXB HXA
        have y0 := bz 0
        have y1 := bz 1
        have y2 := bz 2
        have y3 := bz 3
        have c1 := HXT.out.c1
        cases bb
        · have HX := HXT
          have HY := Lib.hid (HX.out.go (Chg.lowP (Chg.refl [s] w10) (below_alloc w10 (.cells #[.int .i64 1, .int .i64 r, .int .i64 t, .int .i64 l] 125))) (HX.out.src.below (below_alloc w10 (.cells #[.int .i64 1, .int .i64 r, .int .i64 t, .int .i64 l] 125)) (by have := HX.out.hz; omega)))
          have HROW : Hid (RowAt (w10.alloc (.cells #[.int .i64 1, .int .i64 r, .int .i64 t, .int .i64 l] 125)) (w10.heap.size) 4 (w.heap.size + 2) (Ord.mk 1 r t l).ds [.int .i64 1, .int .i64 r, .int .i64 t, .int .i64 l] [] G) := Lib.hid (by have h := row_ord (w5 := w10) (B := w.heap.size + 2) (x := 1) (r := r) (t := t) (e := l) (E := 125) (G := G); rw [show w10.heap.size = w10.heap.size from by simp [go_sem]] at h; exact h)
          have HLEN := Lib.hid HL.out
          go_wp2_with (at_builtin; go_loud (refine app_lst rfl _ _ 50 rfl tabOrderSM rfl (by omega) (by decide) (w.heap.size + 2) _ os.length (os.flatMap Ord.ds) (Ord.mk 1 r t l).ds G [] _ rfl HY.out.lst _ rfl HROW.out (by have := HL.out; omega) (by have := HY.out.hz; omega) ?_))
          intro v7 w7 G7 hN
          obtain ⟨_, a7, c7, rfl⟩ := hN.lst.val
          obtain ⟨d1, d2, hD⟩ := HY.out.put (Chg.refl _ _) HY.out.src hN
          have HN := Lib.hid hD
          clear hD hN
          go_wp2
          go_roundw
          case rel => exact ⟨k + 1, os ++ [⟨1, r, t, l⟩], _, _, by omega, by go_num, Lib.hid (by have := HL.out; simp; omega), Lib.hid (fun j hj => ok_snoc HOK.out (okN.add (by omega) (by omega) (by omega)) j hj), Lib.hid (HN.out.more (by omega))⟩
          case measure => simp [intOf]; omega
        · have HX := Lib.hid (HXT.out.setN w3.heap.size 3 (.int .i64 t) hne (by have := HZ3.out; omega) (fun e => by have := HDr.out.lst.lt _ e; have := HZ3.out; omega))
          have HY := Lib.hid (HX.out.go (Chg.lowP (Chg.refl [s] (w10.setCell ⟨w3.heap.size, 3, none⟩ (.int .i64 t))) (below_alloc (w10.setCell ⟨w3.heap.size, 3, none⟩ (.int .i64 t)) (.cells #[.int .i64 1, .int .i64 r, .int .i64 t, .int .i64 t] 125))) (HX.out.src.below (below_alloc (w10.setCell ⟨w3.heap.size, 3, none⟩ (.int .i64 t)) (.cells #[.int .i64 1, .int .i64 r, .int .i64 t, .int .i64 t] 125)) (by have := HX.out.hz; omega)))
          have HROW : Hid (RowAt ((w10.setCell ⟨w3.heap.size, 3, none⟩ (.int .i64 t)).alloc (.cells #[.int .i64 1, .int .i64 r, .int .i64 t, .int .i64 t] 125)) (w10.heap.size) 4 (w.heap.size + 2) (Ord.mk 1 r t t).ds [.int .i64 1, .int .i64 r, .int .i64 t, .int .i64 t] [] G) := Lib.hid (by have h := row_ord (w5 := (w10.setCell ⟨w3.heap.size, 3, none⟩ (.int .i64 t))) (B := w.heap.size + 2) (x := 1) (r := r) (t := t) (e := t) (E := 125) (G := G); rw [show (w10.setCell ⟨w3.heap.size, 3, none⟩ (.int .i64 t)).heap.size = w10.heap.size from by simp [go_sem]] at h; exact h)
          have HLEN := Lib.hid HL.out
          go_wp2_with (at_builtin; go_loud (refine app_lst rfl _ _ 50 rfl tabOrderSM rfl (by omega) (by decide) (w.heap.size + 2) _ os.length (os.flatMap Ord.ds) (Ord.mk 1 r t t).ds G [] _ rfl HY.out.lst _ rfl HROW.out (by have := HL.out; omega) (by have := HY.out.hz; omega) ?_))
          intro v7 w7 G7 hN
          obtain ⟨_, a7, c7, rfl⟩ := hN.lst.val
          obtain ⟨d1, d2, hD⟩ := HY.out.put (Chg.refl _ _) HY.out.src hN
          have HN := Lib.hid hD
          clear hD hN
          go_wp2
          go_roundw
          case rel => exact ⟨k + 1, os ++ [⟨1, r, t, t⟩], _, _, by omega, by go_num, Lib.hid (by have := HL.out; simp; omega), Lib.hid (fun j hj => ok_snoc HOK.out (okN.add (by omega) (by omega) (by omega)) j hj), Lib.hid (HN.out.more (by omega))⟩
          case measure => simp [intOf]; omega
      · obtain ⟨w4, hw4⟩ : ∃ z, z = (w3.alloc (.cells #[.int .i64 2, .int .i64 0, .int .i64 0, .int .i64 0] 125)) := ⟨_, rfl⟩
        have HX4 : Hid (Drw w s _ (1 + x1) w4 os v G) := Lib.hid (by rw [hw4]; exact HDr3.out.go (Chg.lowP (Chg.refl [s] w3) (below_alloc w3 _)) (HS3.out.below (below_alloc w3 _) (by have := HZ3.out; omega)))
        have hz4 : Hid (w4.heap.size = wr.heap.size + 2) := Lib.hid (by rw [hw4]; simp [HZ3.out])
        have o0 : w4.cell? ⟨w3.heap.size, 0, none⟩ = some (.int .i64 2) := by rw [hw4]; simp [go_sem]
        have o1 : w4.cell? ⟨w3.heap.size, 1, none⟩ = some (.int .i64 0) := by rw [hw4]; simp [go_sem]
        have o2 : w4.cell? ⟨w3.heap.size, 2, none⟩ = some (.int .i64 0) := by rw [hw4]; simp [go_sem]
        have o3 : w4.cell? ⟨w3.heap.size, 3, none⟩ = some (.int .i64 0) := by rw [hw4]; simp [go_sem]
        have oz : ∀ i, w4.frozen? ⟨w3.heap.size, i, none⟩ = false := fun i => by rw [hw4]; simp [go_sem]
        have c0 := HX4.out.c0
        have C := Lib.hid (HP.out _ (1 + x1) w4 HX4.out.src (by omega) (by omega))
        rw [hw4] at C
        go_wp2_with fail
        refine C.out.mono ?_
        rintro e w5 ⟨r, rfl, hxr, he, hs⟩
        rw [← hw4] at he
        clear C
        have HX5 := Lib.hid (HX4.out.go he.chg hs)
        have hz5 : Hid (w5.heap.size = wr.heap.size + 2) := Lib.hid (he.size.trans hz4.out)
        replace o0 := (exc_cell he hne).trans o0
        replace o1 := (exc_cell he hne).trans o1
        replace o2 := (exc_cell he hne).trans o2
        replace o3 := (exc_cell he hne).trans o3
        replace oz := fun i => (exc_frozen he hne).trans (oz i)
        have c05 := HX5.out.c0
        clear he hs
        have y1 := oz 1
        obtain ⟨w6, hw6⟩ : ∃ z, z = w5.setCell ⟨w3.heap.size, 1, none⟩ (.int .i64 r) := ⟨_, rfl⟩
        have HX6 : Hid (Drw w s _ (1 + x1) w6 os v G) := Lib.hid (by rw [hw6]; exact HX5.out.setN _ _ _ hne (by have := HZ3.out; omega) (fun e => by have := HDr.out.lst.lt _ e; have := HZ3.out; omega))
        have hz6 : Hid (w6.heap.size = wr.heap.size + 2) := Lib.hid (by rw [hw6, (Exc.setCell _ _ _).size]; exact hz5.out)
        have p0 := (show w6.cell? ⟨w3.heap.size, 0, none⟩ = _ from by rw [hw6]; exact World.cell?_setCell_other _ _ _ _ (by simp)).trans o0
        have p1 : w6.cell? ⟨w3.heap.size, 1, none⟩ = some (.int .i64 r) := by rw [hw6]; exact World.cell?_setCell_same _ _ _ o1
        have p2 := (show w6.cell? ⟨w3.heap.size, 2, none⟩ = _ from by rw [hw6]; exact World.cell?_setCell_other _ _ _ _ (by simp)).trans o2
        have p3 := (show w6.cell? ⟨w3.heap.size, 3, none⟩ = _ from by rw [hw6]; exact World.cell?_setCell_other _ _ _ _ (by simp)).trans o3
        have pz : ∀ i, w6.frozen? ⟨w3.heap.size, i, none⟩ = false := fun i => by rw [hw6, World.frozen?_setCell]; exact oz i
        have q0 := o0
        clear o0
        have o0 := p0
        clear p0
        have q1 := o1
        clear o1
        have o1 := p1
        clear p1
        have q2 := o2
        clear o2
        have o2 := p2
        clear p2
        have q3 := o3
        clear o3
        have o3 := p3
        clear p3
        clear oz
        have oz := pz
        clear pz
        have c06 := HX6.out.c0
        have C := Lib.hid (HP.out _ (1 + (nn : Int) + 1) w6 HX6.out.src (by omega) (by omega))
        rw [hw6] at C
        go_wp2_with fail
        refine C.out.mono ?_
        rintro e w7 ⟨t, rfl, hxt, he, hs⟩
        rw [← hw6] at he
        clear C
        have HX7 := Lib.hid (HX6.out.go he.chg hs)
        have hz7 : Hid (w7.heap.size = wr.heap.size + 2) := Lib.hid (he.size.trans hz6.out)
        replace o0 := (exc_cell he hne).trans o0
        replace o1 := (exc_cell he hne).trans o1
        replace o2 := (exc_cell he hne).trans o2
        replace o3 := (exc_cell he hne).trans o3
        replace oz := fun i => (exc_frozen he hne).trans (oz i)
        have c07 := HX7.out.c0
        clear he hs
        clear q0 q1 q2 q3 y1
        have y2 := oz 2
        obtain ⟨w8, hw8⟩ : ∃ z, z = w7.setCell ⟨w3.heap.size, 2, none⟩ (.int .i64 t) := ⟨_, rfl⟩
        have HX8 : Hid (Drw w s _ (1 + x1) w8 os v G) := Lib.hid (by rw [hw8]; exact HX7.out.setN _ _ _ hne (by have := HZ3.out; omega) (fun e => by have := HDr.out.lst.lt _ e; have := HZ3.out; omega))
        have hz8 : Hid (w8.heap.size = wr.heap.size + 2) := Lib.hid (by rw [hw8, (Exc.setCell _ _ _).size]; exact hz7.out)
        have p0 := (show w8.cell? ⟨w3.heap.size, 0, none⟩ = _ from by rw [hw8]; exact World.cell?_setCell_other _ _ _ _ (by simp)).trans o0
        have p1 := (show w8.cell? ⟨w3.heap.size, 1, none⟩ = _ from by rw [hw8]; exact World.cell?_setCell_other _ _ _ _ (by simp)).trans o1
        have p2 : w8.cell? ⟨w3.heap.size, 2, none⟩ = some (.int .i64 t) := by rw [hw8]; exact World.cell?_setCell_same _ _ _ o2
        have p3 := (show w8.cell? ⟨w3.heap.size, 3, none⟩ = _ from by rw [hw8]; exact World.cell?_setCell_other _ _ _ _ (by simp)).trans o3
        have pz : ∀ i, w8.frozen? ⟨w3.heap.size, i, none⟩ = false := fun i => by rw [hw8, World.frozen?_setCell]; exact oz i
        have q0 := o0
        clear o0
        have o0 := p0
        clear p0
        have q1 := o1
        clear o1
        have o1 := p1
        clear p1
        have q2 := o2
        clear o2
        have o2 := p2
        clear p2
        have q3 := o3
        clear o3
        have o3 := p3
        clear p3
        clear oz
        have oz := pz
        clear pz
        have c08 := HX8.out.c0
        have C := Lib.hid (HP.out _ (1 + (nn : Int) + 1) w8 HX8.out.src (by omega) (by omega))
        rw [hw8] at C
        go_wp2_with fail
        refine C.out.mono ?_
        rintro e w9 ⟨l, rfl, hxl, he, hs⟩
        rw [← hw8] at he
        clear C
        have HX9 := Lib.hid (HX8.out.go he.chg hs)
        have hz9 : Hid (w9.heap.size = wr.heap.size + 2) := Lib.hid (he.size.trans hz8.out)
        replace o0 := (exc_cell he hne).trans o0
        replace o1 := (exc_cell he hne).trans o1
        replace o2 := (exc_cell he hne).trans o2
        replace o3 := (exc_cell he hne).trans o3
        replace oz := fun i => (exc_frozen he hne).trans (oz i)
        have c09 := HX9.out.c0
        clear he hs
        clear q0 q1 q2 q3 y2
        have y3 := oz 3
        have HXA := Lib.hid (HX9.out.setN w3.heap.size 3 (.int .i64 l) hne (by have := HZ3.out; omega) (fun e => by have := HDr.out.lst.lt _ e; have := HZ3.out; omega))
        have HX := HXA
        have c1 := HX9.out.c1
        have y0 := oz 0
        have y1 := oz 1
        have y2 := oz 2
        have y3 := oz 3
        have HY := Lib.hid (HX.out.go (Chg.lowP (Chg.refl [s] (w9.setCell ⟨w3.heap.size, 3, none⟩ (.int .i64 l))) (below_alloc (w9.setCell ⟨w3.heap.size, 3, none⟩ (.int .i64 l)) (.cells #[.int .i64 2, .int .i64 r, .int .i64 t, .int .i64 l] 125))) (HX.out.src.below (below_alloc (w9.setCell ⟨w3.heap.size, 3, none⟩ (.int .i64 l)) (.cells #[.int .i64 2, .int .i64 r, .int .i64 t, .int .i64 l] 125)) (by have := HX.out.hz; omega)))
        have HROW : Hid (RowAt ((w9.setCell ⟨w3.heap.size, 3, none⟩ (.int .i64 l)).alloc (.cells #[.int .i64 2, .int .i64 r, .int .i64 t, .int .i64 l] 125)) (w9.heap.size) 4 (w.heap.size + 2) (Ord.mk 2 r t l).ds [.int .i64 2, .int .i64 r, .int .i64 t, .int .i64 l] [] G) := Lib.hid (by have h := row_ord (w5 := (w9.setCell ⟨w3.heap.size, 3, none⟩ (.int .i64 l))) (B := w.heap.size + 2) (x := 2) (r := r) (t := t) (e := l) (E := 125) (G := G); rw [show (w9.setCell ⟨w3.heap.size, 3, none⟩ (.int .i64 l)).heap.size = w9.heap.size from by simp [go_sem]] at h; exact h)
        have HLEN := Lib.hid HL.out
        go_wp2_with (at_builtin; go_loud (refine app_lst rfl _ _ 50 rfl tabOrderSM rfl (by omega) (by decide) (w.heap.size + 2) _ os.length (os.flatMap Ord.ds) (Ord.mk 2 r t l).ds G [] _ rfl HY.out.lst _ rfl HROW.out (by have := HL.out; omega) (by have := HY.out.hz; omega) ?_))
        intro v7 w7 G7 hN
        obtain ⟨_, a7, c7, rfl⟩ := hN.lst.val
        obtain ⟨d1, d2, hD⟩ := HY.out.put (Chg.refl _ _) HY.out.src hN
        have HN := Lib.hid hD
        clear hD hN
        go_wp2
        go_roundw
        case rel => exact ⟨k + 1, os ++ [⟨2, r, t, l⟩], _, _, by omega, by go_num, Lib.hid (by have := HL.out; simp; omega), Lib.hid (fun j hj => ok_snoc HOK.out (okN.sub (by omega) (by omega) (by omega)) j hj), Lib.hid (HN.out.more (by omega))⟩
        case measure => simp [intOf]; omega
      · have HX := Lib.hid (HDr3.out.go (Chg.lowP (Chg.refl [s] w3) (below_alloc w3 (.cells #[.int .i64 3, .int .i64 0, .int .i64 0, .int .i64 0] 125))) (HS3.out.below (below_alloc w3 (.cells #[.int .i64 3, .int .i64 0, .int .i64 0, .int .i64 0] 125)) (by have := HZ3.out; omega)))
        have HY := Lib.hid (HX.out.go (Chg.lowP (Chg.refl [s] (w3.alloc (.cells #[.int .i64 3, .int .i64 0, .int .i64 0, .int .i64 0] 125))) (below_alloc (w3.alloc (.cells #[.int .i64 3, .int .i64 0, .int .i64 0, .int .i64 0] 125)) (.cells #[.int .i64 3, .int .i64 0, .int .i64 0, .int .i64 0] 125))) (HX.out.src.below (below_alloc (w3.alloc (.cells #[.int .i64 3, .int .i64 0, .int .i64 0, .int .i64 0] 125)) (.cells #[.int .i64 3, .int .i64 0, .int .i64 0, .int .i64 0] 125)) (by have := HX.out.hz; omega)))
        have HROW : Hid (RowAt ((w3.alloc (.cells #[.int .i64 3, .int .i64 0, .int .i64 0, .int .i64 0] 125)).alloc (.cells #[.int .i64 3, .int .i64 0, .int .i64 0, .int .i64 0] 125)) (w3.heap.size + 1) 4 (w.heap.size + 2) (Ord.mk 3 0 0 0).ds [.int .i64 3, .int .i64 0, .int .i64 0, .int .i64 0] [] G) := Lib.hid (by have h := row_ord (w5 := (w3.alloc (.cells #[.int .i64 3, .int .i64 0, .int .i64 0, .int .i64 0] 125))) (B := w.heap.size + 2) (x := 3) (r := 0) (t := 0) (e := 0) (E := 125) (G := G); rw [show (w3.alloc (.cells #[.int .i64 3, .int .i64 0, .int .i64 0, .int .i64 0] 125)).heap.size = w3.heap.size + 1 from by simp [go_sem]] at h; exact h)
        have HLEN := Lib.hid HL.out
        go_wp2_with (at_builtin; go_loud (refine app_lst rfl _ _ 50 rfl tabOrderSM rfl (by omega) (by decide) (w.heap.size + 2) _ os.length (os.flatMap Ord.ds) (Ord.mk 3 0 0 0).ds G [] _ rfl HY.out.lst _ rfl HROW.out (by have := HL.out; omega) (by have := HY.out.hz; omega) ?_))
        intro v7 w7 G7 hN
        obtain ⟨_, a7, c7, rfl⟩ := hN.lst.val
        obtain ⟨d1, d2, hD⟩ := HY.out.put (Chg.refl _ _) HY.out.src hN
        have HN := Lib.hid hD
        clear hD hN
        go_wp2
        go_roundw
        case rel => exact ⟨k + 1, os ++ [⟨3, 0, 0, 0⟩], _, _, by omega, by go_num, Lib.hid (by have := HL.out; simp; omega), Lib.hid (fun j hj => ok_snoc HOK.out (okN.halt _ _) j hj), Lib.hid (HN.out.more (by omega))⟩
        case measure => simp [intOf]; omega
    · obtain rfl : k = nn + 1 := by omega
      have hnlt : ¬ ((nn + 1 : Nat) : Int) < 1 + (nn : Int) := by omega
      obtain ⟨_, av, cv, rfl⟩ := HDr.out.lst.val
      have C := Lib.hid (HO.out _ wr HDr.out.src (by omega))
      go_wp2_with fail
      refine C.out.mono ?_
      rintro e w3 ⟨b, rfl, he, hs⟩
      have HX := Lib.hid (HDr.out.go he.chg hs)
      have HDW : Hid (Drawn (1 + x1) os) := Lib.hid ⟨hRb, by rw [HL.out]; omega, fun j hj => by rw [HL.out]; exact HOK.out j hj⟩
      clear C he hs
      obtain ⟨u0, hu0⟩ := HX.out.r0
      obtain ⟨u1, hu1⟩ := HX.out.r1
      have z0 := HX.out.zr 0
      have z1 := HX.out.zr 1
      have c0 := HX.out.c0
      have c1 := HX.out.c1
      have hz := HX.out.hz
      cases b
      · have sA := setA w3 w.heap.size (.int .i64 (1 + x1)) (.slice av os.length cv) hu0 hu1
        go_wp2
        refine bodyPost_ret (v := .agg #[.int .i64 (1 + x1), .slice av os.length cv]) (by simp [results, Try.results78, go_sem, sA]) rfl ?_
        exact (HX.out.ret HDW.out).more (by omega)
      · obtain ⟨wB, hwB⟩ : ∃ z, z = (w3.setCell ⟨w.heap.size + 1, 0, none⟩ (.int .i64 2)).setCell ⟨w.heap.size + 1, 1, none⟩ (.slice (some ⟨w3.heap.size, 0, none⟩) 2 2) := ⟨_, rfl⟩
        obtain ⟨hzB, hf⟩ := HX.out.fix hwB
        have HF := Lib.hid hf
        have hlt : w.heap.size + 1 < w3.heap.size := by omega
        have hlt0 : w.heap.size < w3.heap.size := by omega
        have y0 := HX.out.zc 0
        have y1 := HX.out.zc 1
        have sB := setA w3 (w.heap.size + 1) (.int .i64 2) (.slice (some ⟨w3.heap.size, 0, none⟩) 2 2) c0 c1
        have d0 := fun X => (bcell1 (i := 0) (below_alloc w3 X) hlt).trans c0
        have d1 := fun X => (bcell1 (i := 1) (below_alloc w3 X) hlt).trans c1
        have y0a := fun X => ((below_alloc w3 X).frozen (p := ⟨w.heap.size + 1, 0, none⟩) hlt).trans y0
        have hs1 : (w3.setCell ⟨w.heap.size + 1, 0, none⟩ (.int .i64 2)).heap.size = w3.heap.size := (Exc.setCell _ _ _).size
        have d2 : ∀ X, ((w3.setCell ⟨w.heap.size + 1, 0, none⟩ (.int .i64 2)).alloc X).cell? ⟨w.heap.size + 1, 1, none⟩ = some (.slice av os.length cv) := fun X => (bcell1 (below_alloc _ X) (by rw [hs1]; exact hlt)).trans (by rw [World.cell?_setCell_other _ _ _ _ (by simp)]; exact c1)
        have y2 : ∀ X, ((w3.setCell ⟨w.heap.size + 1, 0, none⟩ (.int .i64 2)).alloc X).frozen? ⟨w.heap.size + 1, 1, none⟩ = false := fun X => ((below_alloc _ X).frozen (p := ⟨w.heap.size + 1, 1, none⟩) (by rw [hs1]; exact hlt)).trans (by rw [World.frozen?_setCell]; exact y1)
        obtain ⟨u2, hu2⟩ := HF.out.r0
        obtain ⟨u3, hu3⟩ := HF.out.r1
        have sA := setA _ w.heap.size (.int .i64 2) (.slice (some ⟨w3.heap.size, 0, none⟩) 2 2) hu2 hu3
        have hE : ((wB.alloc (.cells #[.int .i64 2, .int .i64 0, .int .i64 1, .int .i64 2, .int .i64 1, .int .i64 1, .int .i64 0, .int .i64 0] 125)).setCell ⟨w.heap.size, 0, none⟩ (.int .i64 2)).setCell ⟨w.heap.size, 1, none⟩ (.slice (some ⟨w3.heap.size, 0, none⟩) 2 2) = ((wB.setCell ⟨w.heap.size, 0, none⟩ (.int .i64 2)).setCell ⟨w.heap.size, 1, none⟩ (.slice (some ⟨w3.heap.size, 0, none⟩) 2 2)).alloc (.cells #[.int .i64 2, .int .i64 0, .int .i64 1, .int .i64 2, .int .i64 1, .int .i64 1, .int .i64 0, .int .i64 0] 125) := by
          rw [World.setCell_alloc_past _ _ _ _ (by omega), World.setCell_alloc_past _ _ _ _ (by rw [(Exc.setCell _ _ _).size]; omega)]
        have hR := (HF.out.ret Drawn.fix).more (show m + 4 + 12 * (nn + 1) + 2 ≤ m + 100 by omega)
        rw [hE, hwB] at hR
        have q1 := sA.1
        have q2 := sA.2.1
        rw [hE, hwB] at q1 q2
        have HR := Lib.hid hR
        have Q1 := Lib.hid q1
        have Q2 := Lib.hid q2
        clear hR q1 q2 sA hE hu2 hu3 hwB hf
        go_wp2
        refine bodyPost_ret (v := .agg #[.int .i64 2, .slice (some ⟨w3.heap.size, 0, none⟩) 2 2]) (by simp [results, Try.results78, go_sem, Q1.out, Q2.out]) rfl ?_
        exact HR.out
end Go.Proofs.Ytncndnholheemaa
