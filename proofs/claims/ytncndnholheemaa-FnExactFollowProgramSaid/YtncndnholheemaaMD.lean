/- The rules that a program becomes: the builder's state. Written by mkmd.py. -/
import Derived.Test.YtncndnholheemaaMC
namespace Go.Proofs.Ytncndnholheemaa
open Go.RowKit

/-- The builder: its rules, and the list of first rules. -/
structure Bst (B : Nat) (wr : World) (gb K : Nat) (rs : List Rul) (v : Value) (G : List Nat) (fs : List Int) (vf : Value) (Gf : List Nat) : Prop where
  mr : Mkr 173 B wr gb K rs v G
  fl : Lst 2 1 wr B vf fs.length (fs.map .i) Gf
  c2 : wr.cell? ⟨gb, 2, none⟩ = some vf
  f2 : wr.frozen? ⟨gb, 2, none⟩ = false
  d1 : ∀ x, x ∈ Gf → x ∉ G
  d2 : gb ∉ Gf
theorem Bst.keep {B : Nat} {wr w' : World} {gb K : Nat} {rs : List Rul} {v : Value} {G : List Nat} {fs : List Int} {vf : Value} {Gf : List Nat} (h : Bst B wr gb K rs v G fs vf Gf) (hb : Below wr.heap.size wr w') : Bst B w' gb K rs v G fs vf Gf :=
  ⟨h.mr.keep hb, h.fl.below hb, (bcell1 hb h.mr.hg.2).trans h.c2, (hb.frozen (p := ⟨gb, 2, none⟩) h.mr.hg.2).trans h.f2, h.d1, h.d2⟩
theorem Bst.rule {B : Nat} {wr w' : World} {gb K : Nat} {rs : List Rul} {r : Rul} {v : Value} {G : List Nat} {fs : List Int} {vf : Value} {Gf : List Nat} {gl c : Nat} {G' : List Nat} (h : Bst B wr gb K rs v G fs vf Gf) (hn : MkrNext 173 B wr w' gb K rs r v G gl c G') :
    Bst B w' gb K (rs ++ [r]) (.slice (some ⟨gl, 0, none⟩) (rs.length + 1) c) G' fs vf Gf := by
  have hlt := h.fl.lt
  refine ⟨hn.made, h.fl.keep hn.chg (fun g hg e => ?_), (hn.oth 2 (by omega)).1.trans h.c2, (hn.oth 2 (by omega)).2.trans h.f2, fun x hx hG => ?_, h.d2⟩
  · rcases List.mem_cons.1 e with e | e
    · subst e; exact h.d2 hg
    · exact h.d1 g hg (ob_sub h.mr.lst _ e)
  · rcases hn.mem x hG with e | e
    · exact h.d1 x hx e
    · have := (hlt x hx).2; omega
/-- A list in the last rule: where it lies, and what a store there makes. -/
structure Inn5 (B : Nat) (wr : World) (gb K : Nat) (rs : List Rul) (upd : List Int → Rul) (xs : List Int) (v : Value) (G : List Nat) (fs : List Int) (vf : Value) (Gf : List Nat) (gl off a o ca : Nat) : Prop where
  cell : wr.cell? ⟨gl, off, none⟩ = some (.slice (some ⟨a, o, none⟩) K ca)
  at_ : ∀ i, i < K → wr.cell? ⟨a, o + i, none⟩ = some (.int .i64 (nth xs i)) ∧ wr.frozen? ⟨a, o + i, none⟩ = false
  mem : a ∈ G
  base : B ≤ a
  put : ∀ w', Below wr.heap.size wr w' → ∀ i, i < K → Bst B (w'.setCell ⟨a, o + i, none⟩ (.int .i64 (nth xs i + 1))) gb K (rs ++ [upd (incr xs i)]) v G fs vf Gf
theorem Bst.inner {B : Nat} {wr : World} {gb K : Nat} {rs : List Rul} {upd : List Int → Rul} {xs : List Int} {v : Value} {G : List Nat} {fs : List Int} {vf : Value} {Gf : List Nat} {gl n c : Nat} (h : Bst B wr gb K (rs ++ [upd xs]) v G fs vf Gf) (hv : v = .slice (some ⟨gl, 0, none⟩) n c) (ds1 : List Int → List D) (ds2 : List Int → List D) (j : Nat)
    (hd : ∀ ys, (upd ys).ds = ds1 xs ++ dI ys :: ds2 xs) (hj : (ds1 xs).length = j) (hl : xs.length = K) (hK : 0 < K) : ∃ a o ca, Inn5 B wr gb K rs upd xs v G fs vf Gf gl (rs.length * 9 + j) a o ca := by
  have hf : ∀ ys, (rs ++ [upd ys]).flatMap Rul.ds = (rs.flatMap Rul.ds ++ ds1 xs) ++ dI ys :: ds2 xs := fun ys => by
    rw [List.flatMap_append, List.append_assoc, ← hd ys]; simp
  have hL := h.mr.lst
  rw [hf xs] at hL
  obtain ⟨g, a, o, c', ca, hr⟩ := Lst.inner hL (by omega)
  have hg : g = gl := by have := hr.val; rw [hv] at this; cases this; rfl
  subst hg
  have hc := hr.cell
  rw [List.length_append, dRul_len, hj, hl] at hc
  have hag : a ≠ gb := fun e => h.mr.ap (e ▸ hr.mem.1)
  have haf : a ∉ Gf := fun e => h.d1 a e hr.mem.1
  have hlen : ∀ ys, (rs ++ [upd xs]).length = (rs ++ [upd ys]).length := fun ys => by simp
  refine ⟨a, o, ca, hc, fun i hi => hr.at_ i (by omega), hr.mem.1, (h.mr.lst.lt a hr.mem.1).1, fun w' hb i hi => ?_⟩
  have hk := h.keep hb
  have hx : ∀ (q : Nat) (u : Value), (w'.setCell ⟨a, o + i, none⟩ u).cell? ⟨gb, q, none⟩ = w'.cell? ⟨gb, q, none⟩ := fun q u => World.cell?_setCell_other _ _ _ _ (by intro e; cases e; exact hag rfl)
  refine ⟨⟨(hx 0 _).trans hk.mr.c0, (hx 1 _).trans hk.mr.c1, by rw [World.frozen?_setCell]; exact hk.mr.fr, ?_, h.mr.ap, h.mr.hg.1, ?_⟩, hk.fl.keep (chg_set w' ⟨a, o + i, none⟩ _ [a] (by simp)) (fun g hg e => by simp at e; subst e; exact haf hg), (hx 2 _).trans hk.c2, by rw [World.frozen?_setCell]; exact hk.f2, h.d1, h.d2⟩
  · have hp := hr.put w' hb i (nth xs i + 1) (by omega)
    rw [hf (incr xs i), ← hlen]
    exact hp
  · rw [(Exc.setCell w' ⟨a, o + i, none⟩ _).size]; exact hk.mr.hg.2
/-- The rank of the last rule. -/
theorem Bst.rank {B : Nat} {wr : World} {gb K : Nat} {rs : List Rul} {r : Rul} {v : Value} {G : List Nat} {fs : List Int} {vf : Value} {Gf : List Nat} {gl n c : Nat} (h : Bst B wr gb K (rs ++ [r]) v G fs vf Gf) (hv : v = .slice (some ⟨gl, 0, none⟩) n c) (y : Int) :
    wr.cell? ⟨gl, rs.length * 9 + 1, none⟩ = some (.int .i64 r.rank) ∧ wr.frozen? ⟨gl, rs.length * 9 + 1, none⟩ = false ∧ gl ∈ G ∧ B ≤ gl ∧ Bst B (wr.setCell ⟨gl, rs.length * 9 + 1, none⟩ (.int .i64 y)) gb K (rs ++ [{ r with rank := y }]) v G fs vf Gf := by
  have hf : ∀ z, (rs ++ [{ r with rank := z }]).flatMap Rul.ds = (rs.flatMap Rul.ds ++ [.i r.cell]) ++ .i z :: [dI r.need, dI r.have_, dI r.lack, dI r.here, dI r.out, dInn r.into, .b r.melts] := fun z => by
    rw [List.flatMap_append, List.append_assoc]; simp [Rul.ds]
  have hL := h.mr.lst
  have h0 : rs ++ [r] = rs ++ [{ r with rank := r.rank }] := by cases r; rfl
  rw [h0, hf r.rank] at hL
  obtain ⟨g, c', e, h1, h2, h3, h4⟩ := Lst.num hL
  have hg : g = gl := by rw [hv] at e; cases e; rfl
  subst hg
  have hlen : (rs.flatMap Rul.ds ++ [D.i r.cell]).length = rs.length * 9 + 1 := by rw [List.length_append, dRul_len]; rfl
  rw [hlen] at h1 h2
  have hag : g ≠ gb := fun e => h.mr.ap (e ▸ h3)
  have haf : g ∉ Gf := fun e => h.d1 g e h3
  have hx : ∀ (q : Nat) (u : Value), (wr.setCell ⟨g, rs.length * 9 + 1, none⟩ u).cell? ⟨gb, q, none⟩ = wr.cell? ⟨gb, q, none⟩ := fun q u => World.cell?_setCell_other _ _ _ _ (by intro e; cases e; exact hag rfl)
  refine ⟨h1, h2, h3, (h.mr.lst.lt g h3).1, ⟨⟨(hx 0 _).trans h.mr.c0, (hx 1 _).trans h.mr.c1, by rw [World.frozen?_setCell]; exact h.mr.fr, ?_, h.mr.ap, h.mr.hg.1, ?_⟩, h.fl.keep (chg_set wr ⟨g, rs.length * 9 + 1, none⟩ _ [g] (by simp)) (fun k hg e => by simp at e; subst e; exact haf hg), (hx 2 _).trans h.c2, by rw [World.frozen?_setCell]; exact h.f2, h.d1, h.d2⟩⟩
  · have hp := h4 y
    rw [hlen, ← hf y] at hp
    simpa using hp
  · rw [(Exc.setCell wr ⟨g, rs.length * 9 + 1, none⟩ _).size]; exact h.mr.hg.2
/-- The cells of a program and of an order, apart from the builder. -/
structure Bx (wx : World) (bp bo : Nat) (R : Int) (ao : Option Addr) (no co : Nat) (o : Ord) : Prop where
  p0 : wx.cell? ⟨bp, 0, none⟩ = some (.int .i64 R)
  p1 : wx.cell? ⟨bp, 1, none⟩ = some (.slice ao no co)
  o0 : wx.cell? ⟨bo, 0, none⟩ = some (.int .i64 o.op)
  o1 : wx.cell? ⟨bo, 1, none⟩ = some (.int .i64 o.reg)
  o2 : wx.cell? ⟨bo, 2, none⟩ = some (.int .i64 o.to)
  o3 : wx.cell? ⟨bo, 3, none⟩ = some (.int .i64 o.els)
theorem Bx.chg {F : List Nat} {wx w' : World} {bp bo : Nat} {R : Int} {ao : Option Addr} {no co : Nat} {o : Ord} (h : Bx wx bp bo R ao no co o) (hc : Chg F wx w') (hp : bp ∉ F) (ho : bo ∉ F) : Bx w' bp bo R ao no co o :=
  have zp := World.block_lt_of_cell? wx _ h.p0
  have zo := World.block_lt_of_cell? wx _ h.o0
  ⟨(hc.cell zp hp 0).trans h.p0, (hc.cell zp hp 1).trans h.p1, (hc.cell zo ho 0).trans h.o0, (hc.cell zo ho 1).trans h.o1, (hc.cell zo ho 2).trans h.o2, (hc.cell zo ho 3).trans h.o3⟩
theorem Bx.keep {wx w' : World} {bp bo : Nat} {R : Int} {ao : Option Addr} {no co : Nat} {o : Ord} (h : Bx wx bp bo R ao no co o) (hb : Below wx.heap.size wx w') : Bx w' bp bo R ao no co o := h.chg (F := []) (Chg.ofBelow hb) (by simp) (by simp)
theorem Bx.set {wx : World} {bp bo : Nat} {R : Int} {ao : Option Addr} {no co : Nat} {o : Ord} (h : Bx wx bp bo R ao no co o) {a i : Nat} (hp : bp ≠ a) (ho : bo ≠ a) (u : Value) : Bx (wx.setCell ⟨a, i, none⟩ u) bp bo R ao no co o :=
  h.chg (F := [a]) (chg_set wx ⟨a, i, none⟩ u [a] (by simp)) (by simpa using hp) (by simpa using ho)
/-- A round of the builder's loop. -/
structure Bit (B : Nat) (w1 wr : World) (gb K : Nat) (rs : List Rul) (v : Value) (G : List Nat) (fs : List Int) (vf : Value) (Gf : List Nat) (bp bo : Nat) (R : Int) (ao : Option Addr) (no co : Nat) (o : Ord) : Prop where
  st : Bst B wr gb K rs v G fs vf Gf
  bx : Bx wr bp bo R ao no co o
  hp : bp < B
  hn : bo ∉ G
  hf : bo ∉ Gf
  hg : bo ≠ gb
  hb : Below B w1 wr
theorem Bit.keep {B : Nat} {w1 wr w' : World} {gb K : Nat} {rs : List Rul} {v : Value} {G : List Nat} {fs : List Int} {vf : Value} {Gf : List Nat} {bp bo : Nat} {R : Int} {ao : Option Addr} {no co : Nat} {o : Ord} (h : Bit B w1 wr gb K rs v G fs vf Gf bp bo R ao no co o) (hb : Below wr.heap.size wr w') : Bit B w1 w' gb K rs v G fs vf Gf bp bo R ao no co o :=
  ⟨h.st.keep hb, h.bx.keep hb, h.hp, h.hn, h.hf, h.hg, h.hb.trans (hb.mono (Nat.le_trans h.st.mr.hg.1 (Nat.le_of_lt h.st.mr.hg.2)))⟩
theorem Bit.rule {B : Nat} {w1 wr w' : World} {gb K : Nat} {rs : List Rul} {r : Rul} {v : Value} {G : List Nat} {fs : List Int} {vf : Value} {Gf : List Nat} {bp bo : Nat} {R : Int} {ao : Option Addr} {no co : Nat} {o : Ord} {gl c : Nat} {G' : List Nat} (h : Bit B w1 wr gb K rs v G fs vf Gf bp bo R ao no co o) (hn : MkrNext 173 B wr w' gb K rs r v G gl c G') :
    Bit B w1 w' gb K (rs ++ [r]) (.slice (some ⟨gl, 0, none⟩) (rs.length + 1) c) G' fs vf Gf bp bo R ao no co o := by
  have hF : ∀ x, x ∈ gb :: ob v → B ≤ x := fun x hx => by
    rcases List.mem_cons.1 hx with e | e
    · subst e; exact h.st.mr.hg.1
    · exact (h.st.mr.lst.lt x (ob_sub h.st.mr.lst _ e)).1
  have zo : bo < wr.heap.size := World.block_lt_of_cell? wr _ h.bx.o0
  refine ⟨h.st.rule hn, h.bx.chg hn.chg (fun e => by have := hF _ e; have := h.hp; omega) (fun e => ?_), h.hp, fun e => ?_, h.hf, h.hg, h.hb.trans (hn.chg.below (Nat.le_trans h.st.mr.hg.1 (Nat.le_of_lt h.st.mr.hg.2)) hF)⟩
  · rcases List.mem_cons.1 e with e | e
    · exact h.hg e
    · exact h.hn (ob_sub h.st.mr.lst _ e)
  · rcases hn.mem _ e with e | e
    · exact h.hn e
    · omega
theorem Bit.put {B : Nat} {w1 wr : World} {gb K : Nat} {rs rs' : List Rul} {v : Value} {G : List Nat} {fs : List Int} {vf : Value} {Gf : List Nat} {bp bo : Nat} {R : Int} {ao : Option Addr} {no co : Nat} {o : Ord} {a i : Nat} {u : Value} (h : Bit B w1 wr gb K rs v G fs vf Gf bp bo R ao no co o) (ha : a ∈ G) (h2 : Bst B (wr.setCell ⟨a, i, none⟩ u) gb K rs' v G fs vf Gf) :
    Bit B w1 (wr.setCell ⟨a, i, none⟩ u) gb K rs' v G fs vf Gf bp bo R ao no co o := by
  have hB := (h.st.mr.lst.lt a ha).1
  exact ⟨h2, h.bx.set (by have := h.hp; omega) (fun e => h.hn (e ▸ ha)) u, h.hp, h.hn, h.hf, h.hg, h.hb.setCell hB _⟩
/-- One first rule more. -/
theorem Bst.first {B : Nat} {w wb w7 : World} {gb K : Nat} {rs : List Rul} {v v' : Value} {G : List Nat} {fs : List Int} {vf : Value} {Gf Gf' : List Nat} {x : Int} (h : Bst B w gb K rs v G fs vf Gf) (hb : Below w.heap.size w wb) (hN : LstNext 2 1 wb w7 B vf v' fs.length (fs.map .i) [.i x] Gf [] Gf') :
    w7.cell? ⟨gb, 2, none⟩ = some vf ∧ w7.frozen? ⟨gb, 2, none⟩ = false ∧ Chg (gb :: ob vf) w (w7.setCell ⟨gb, 2, none⟩ v') ∧ (∀ y, y ∈ Gf' → y ∈ Gf ∨ w.heap.size ≤ y) ∧ Bst B (w7.setCell ⟨gb, 2, none⟩ v') gb K rs v G (fs ++ [x]) v' Gf' := by
  have hk := h.keep hb
  have hz := hk.mr.hg.2
  have hgv : gb ∉ ob vf := fun e => h.d2 (ob_sub h.fl _ e)
  have c0 := (hN.chg.cell hz hgv 0).trans hk.mr.c0
  have c1 := (hN.chg.cell hz hgv 1).trans hk.mr.c1
  have c2 := (hN.chg.cell hz hgv 2).trans hk.c2
  have f1 := (hN.chg.frozen hz hgv 1).trans hk.mr.fr
  have f2 := (hN.chg.frozen hz hgv 2).trans hk.f2
  have hG : ∀ y, y ∈ Gf' → y ∈ Gf ∨ w.heap.size ≤ y := fun y hy => by
    rcases hN.mem y hy with e | e | e
    · exact .inl e
    · cases e
    · exact .inr (Nat.le_trans hb.size e)
  have hlt := h.mr.lst.lt
  have hg2 : gb ∉ Gf' := fun e => by
    rcases hG gb e with e | e
    · exact h.d2 e
    · have := h.mr.hg.2; omega
  have hx : ∀ (q : Nat), q ≠ 2 → (w7.setCell ⟨gb, 2, none⟩ v').cell? ⟨gb, q, none⟩ = w7.cell? ⟨gb, q, none⟩ := fun q hq => World.cell?_setCell_other _ _ _ _ (by intro e; cases e; exact hq rfl)
  have hs := (Exc.setCell w7 ⟨gb, 2, none⟩ v').size
  refine ⟨c2, f2, ?_, hG, ⟨⟨(hx 0 (by omega)).trans c0, (hx 1 (by omega)).trans c1, by rw [World.frozen?_setCell]; exact f1, ?_, h.mr.ap, h.mr.hg.1, by have := hN.chg.size; omega⟩, ?_, World.cell?_setCell_same _ _ _ c2, by rw [World.frozen?_setCell]; exact f2, fun y hy hG2 => ?_, hg2⟩⟩
  · refine Chg.trans (F := gb :: ob vf) (Chg.ofBelow hb) ((hN.chg.wider (by simp +contextual)).trans (chg_set w7 ⟨gb, 2, none⟩ v' _ (by simp)))
  · exact (hk.mr.lst.keep hN.chg (fun y hy e => h.d1 y (ob_sub h.fl _ e) hy)).keep (chg_set w7 ⟨gb, 2, none⟩ v' [gb] (by simp)) (fun y hy e => by simp at e; subst e; exact h.mr.ap hy)
  · have h8 := hN.lst.keep (chg_set w7 ⟨gb, 2, none⟩ v' [gb] (by simp)) (fun y hy e => by simp at e; subst e; exact hg2 hy)
    simpa using h8
  · rcases hG y hy with e | e
    · exact h.d1 y e hG2
    · have := (hlt y hG2).2; omega
theorem Bit.first {B : Nat} {w1 w wb w7 : World} {gb K : Nat} {rs : List Rul} {v v' : Value} {G : List Nat} {fs : List Int} {vf : Value} {Gf Gf' : List Nat} {x : Int} {bp bo : Nat} {R : Int} {ao : Option Addr} {no co : Nat} {o : Ord} (h : Bit B w1 w gb K rs v G fs vf Gf bp bo R ao no co o) (hb : Below w.heap.size w wb) (hN : LstNext 2 1 wb w7 B vf v' fs.length (fs.map .i) [.i x] Gf [] Gf') :
    w7.cell? ⟨gb, 2, none⟩ = some vf ∧ w7.frozen? ⟨gb, 2, none⟩ = false ∧ Bit B w1 (w7.setCell ⟨gb, 2, none⟩ v') gb K rs v G (fs ++ [x]) v' Gf' bp bo R ao no co o := by
  obtain ⟨z1, z2, hc, hG, hs⟩ := h.st.first hb hN
  have hF : ∀ y, y ∈ gb :: ob vf → B ≤ y := fun y hy => by
    rcases List.mem_cons.1 hy with e | e
    · subst e; exact h.st.mr.hg.1
    · exact (h.st.fl.lt y (ob_sub h.st.fl _ e)).1
  have zo : bo < w.heap.size := World.block_lt_of_cell? w _ h.bx.o0
  refine ⟨z1, z2, hs, h.bx.chg hc (fun e => by have := hF _ e; have := h.hp; omega) (fun e => ?_), h.hp, h.hn, fun e => ?_, h.hg, h.hb.trans (hc.below (Nat.le_trans h.st.mr.hg.1 (Nat.le_of_lt h.st.mr.hg.2)) hF)⟩
  · rcases List.mem_cons.1 e with e | e
    · exact h.hg e
    · exact h.hf (ob_sub h.st.fl _ e)
  · rcases hG _ e with e | e
    · exact h.hf e
    · omega
theorem RowAt.one64 {w : World} {g B : Nat} {x : Int} {Gf : List Nat} (h : w.cell? ⟨g, 0, none⟩ = some (.int .i64 x)) : RowAt w g 1 B [.i x] [.int .i64 x] [] Gf :=
  ⟨⟨[], [], ⟨rfl, rfl⟩, rfl, rfl⟩, rfl, by simp, by simp, by simp, fun j u hu => by
    match j, hu with
    | 0, hu => simp at hu; subst hu; exact h, by simp [Value.oneCell']⟩
theorem Bst.start {B : Nat} {w1 : World} {K : Nat} {E : TypeId} (hB : B ≤ w1.heap.size) : Bst B (w1.alloc (.cells #[.int .i64 K, .slice none 0 0, .slice none 0 0] E)) w1.heap.size K [] (.slice none 0 0) [] [] (.slice none 0 0) [] :=
  ⟨⟨by simp [go_sem], by simp [go_sem], by simp [go_sem], Lst.nil _ _ _ _, by simp, hB, by simp⟩, Lst.nil _ _ _ _, by simp [go_sem], by simp [go_sem], by simp, by simp⟩
theorem rng1 {K : Nat} {x : Int} (h : 0 ≤ x ∧ x < K) : ∀ j, j < [x].length → 0 ≤ nth [x] j ∧ nth [x] j < K := fun j hj => by
  have : j = 0 := by simpa using hj
  subst this; simpa [nth] using h
theorem rng2 {K : Nat} {x y : Int} (h : 0 ≤ x ∧ x < K) (h2 : 0 ≤ y ∧ y < K) : ∀ j, j < [x, y].length → 0 ≤ nth [x, y] j ∧ nth [x, y] j < K := fun j hj => by
  match j, hj with
  | 0, _ => simpa [nth] using h
  | 1, _ => simpa [nth] using h2
/-- Where one object more has been put into the last rule. -/
theorem rul_here (K : Nat) (need : List Int) (x y : Int) : { rulK K 0 need [] [] [x] with here := incr (bagK K [x]) y.toNat } = rulK K 0 need [] [] [x, y] := rfl
theorem rul_lack (K : Nat) (need : List Int) (x y : Int) : { rulK K 0 need [] [] [x] with lack := incr (bagK K []) y.toNat } = rulK K 0 need [] [y] [x] := rfl
theorem rul_have (K : Nat) (need : List Int) (x y : Int) : { rulK K 0 need [] [] [x] with have_ := incr (bagK K []) y.toNat } = rulK K 0 need [y] [] [x] := rfl
theorem rul_rank (K : Nat) (need : List Int) (x : Int) : { rulK K 0 need [] [] [x] with rank := 1 } = rulK K 1 need [] [] [x] := rfl
end Go.Proofs.Ytncndnholheemaa
