/- Programs that are read: the reference's function. Written by mkgc.py. -/
import Derived.Test.YtbnikblhnibgiaaDoorGB
import Derived.Test.YtbnikblhnibgiaaDoorYC
import Derived.Test.YtbnikblhnibgiaaDoorRM
import Derived.Test.YtbnikblhnibgiaaDoorBL
import Derived.Test.YtbnikblhnibgiaaDoorR
namespace Go.Proofs.YtbnikblhnibgiaaDoor
open Go.RowKit
/-- What ReadProgram tells, and a code. -/
def readProgS (s : Bs) : (Int × List Ord) × Int := match specRd s with
  | some p => (p, 0)
  | none => ((0, []), 5)
/-- The call returns a row in memory of its own, and a code. -/
def RetAQ (w : World) (ds : List D) (code : Int) (e : Ending) (w' : World) : Prop := ∃ vs F, e = .returned (.tuple #[.agg ⟨vs⟩, .int .i64 code]) ∧ Below w.heap.size w w' ∧ OwA w' ds vs F ∧ F.Nodup ∧ ∀ g, g ∈ F → w.heap.size ≤ g
theorem RetAQ.put {w w1 : World} {b : Nat} {R : Int} {os : List Ord} {v : Value} {F : List Nat} (h : Below w.heap.size w w1) (hb : w.heap.size ≤ b) (ho : Ow w1 (dO os) v F) (hn : F.Nodup) (hF : ∀ y, y ∈ F → w.heap.size ≤ y) (hbF : b ∉ F) (code : Int) :
    RetAQ w [.i R, dO os] code (.returned (.tuple #[.agg #[.int .i64 R, v], .int .i64 code])) ((w1.setCell ⟨b, 0, none⟩ (.int .i64 R)).setCell ⟨b, 1, none⟩ v) :=
  ⟨[.int .i64 R, v], F, rfl, (h.setCell hb _).setCell hb _, ⟨[], F, ⟨rfl, rfl⟩, ⟨F, [], (ho.setCell hbF _).setCell hbF _, rfl, by simp⟩, by simp⟩, hn, hF⟩
theorem setP2 (w : World) (b : Nat) (v0 v1 : Value) {u0 u1 : Value} (h0 : w.cell? ⟨b, 0, none⟩ = some u0) (h1 : w.cell? ⟨b, 1, none⟩ = some u1) :
    ((w.setCell ⟨b, 0, none⟩ v0).setCell ⟨b, 1, none⟩ v1).cell? ⟨b, 0, none⟩ = some v0 ∧ ((w.setCell ⟨b, 0, none⟩ v0).setCell ⟨b, 1, none⟩ v1).cell? ⟨b, 1, none⟩ = some v1 ∧ (w.setCell ⟨b, 0, none⟩ v0).cell? ⟨b, 0, none⟩ = some v0 := by
  have e0 : (w.setCell ⟨b, 0, none⟩ v0).cell? ⟨b, 0, none⟩ = some v0 := World.cell?_setCell_same _ _ _ h0
  have e1 : (w.setCell ⟨b, 0, none⟩ v0).cell? ⟨b, 1, none⟩ = some u1 := by rw [World.cell?_setCell_other _ _ _ _ (by simp)]; exact h1
  exact ⟨by rw [World.cell?_setCell_other _ _ _ _ (by simp)]; exact e0, World.cell?_setCell_same _ _ _ e1, e0⟩
theorem Bld.isSl {E : Nat} {w : World} {B : Nat} {v : Value} {vs : List Value} (h : Bld E w B v vs) : ∃ a c, v = .slice a vs.length c := by
  obtain ⟨_, h2⟩ := h
  rcases h2 with ⟨rfl, h0⟩ | ⟨g, cap, cur, rfl, _⟩
  · exact ⟨none, 0, by rw [h0]⟩
  · exact ⟨_, cap, rfl⟩
/-- A program that is being read, in block pb. -/
structure Prg (w1 : World) (pb : Nat) (R : Int) (wr : World) (os : List Ord) (v : Value) (G : List Nat) : Prop where
  bel : Below w1.heap.size w1 wr
  hp : w1.heap.size ≤ pb
  hz : pb < wr.heap.size
  c0 : wr.cell? ⟨pb, 0, none⟩ = some (.int .i64 R)
  c1 : wr.cell? ⟨pb, 1, none⟩ = some v
  zc : ∀ i, wr.frozen? ⟨pb, i, none⟩ = false
  lst : Lst 60 4 wr (pb + 1) v os.length (os.flatMap Ord.ds) G
theorem Prg.go {w1 : World} {pb : Nat} {R : Int} {wr w' : World} {os : List Ord} {v : Value} {G : List Nat} (h : Prg w1 pb R wr os v G) (hb : Below wr.heap.size wr w') : Prg w1 pb R w' os v G :=
  ⟨bnext h.bel hb (Nat.le_refl _), h.hp, Nat.lt_of_lt_of_le h.hz hb.size, (bcell1 hb h.hz).trans h.c0, (bcell1 hb h.hz).trans h.c1, fun i => (hb.frozen (p := ⟨pb, i, none⟩) h.hz).trans (h.zc i), h.lst.below hb⟩
theorem Prg.put {w1 : World} {pb : Nat} {R : Int} {wr w7 : World} {os : List Ord} {v v' : Value} {G G' : List Nat} {r : Ord} (hk : Prg w1 pb R wr os v G) (hN : LstNext 60 4 wr w7 (pb + 1) v v' os.length (os.flatMap Ord.ds) r.ds G [] G') :
    w7.cell? ⟨pb, 1, none⟩ = some v ∧ w7.frozen? ⟨pb, 1, none⟩ = false ∧ Below w1.heap.size w1 w7 ∧ Prg w1 pb R (w7.setCell ⟨pb, 1, none⟩ v') (os ++ [r]) v' G' := by
  have hz := hk.hz
  have hp := hk.hp
  have hlt := hk.lst.lt
  have hob : ∀ g, g ∈ ob v → pb + 1 ≤ g := fun g hg => (hlt g (ob_sub hk.lst _ hg)).1
  have n2 : pb ∉ ob v := fun e => by have := hob _ e; omega
  have c0 := (hN.chg.cell (by omega) n2 0).trans hk.c0
  have c1 := (hN.chg.cell (by omega) n2 1).trans hk.c1
  have zc := fun i => (hN.chg.frozen (by omega) n2 i).trans (hk.zc i)
  have hG : ∀ x, x ∈ G' → pb + 1 ≤ x := fun x hx => by
    rcases hN.mem x hx with h | h | h
    · exact (hlt x h).1
    · simp at h
    · omega
  have hzz : pb < w7.heap.size := Nat.lt_of_lt_of_le hz hN.chg.size
  have hcs : Chg [pb] w7 (w7.setCell ⟨pb, 1, none⟩ v') := chg_set w7 ⟨pb, 1, none⟩ v' [pb] (by simp)
  have hsz := (Exc.setCell w7 ⟨pb, 1, none⟩ v').size
  have a1 : Below w1.heap.size w1 w7 := hk.bel.trans (hN.chg.below (Nat.le_trans hk.bel.size (Nat.le_refl _)) (fun g hg => by have := hob g hg; omega))
  refine ⟨c1, zc 1, a1, a1.setCell (by simp; omega) _, hp, by rw [hsz]; exact hzz, (oth_cell (.inr (by omega))).trans c0, World.cell?_setCell_same _ _ _ c1, fun i => by rw [World.frozen?_setCell]; exact zc i, ?_⟩
  have := hN.lst.keep hcs fun g hg e => by
    have := hG g hg
    simp at e; omega
  simpa using this
theorem Prg.ret {w w1 : World} {b pb : Nat} {R : Int} {wr : World} {os : List Ord} {v : Value} {G : List Nat} (h : Prg w1 pb R wr os v G) (h1 : Below w.heap.size w w1) (hb : w.heap.size ≤ b) (hbp : b < w1.heap.size) (h6 : os.length ≤ 6) {Q : (Int × List Ord) × Int} (hQ : Q = ((R, os), 0)) :
    RetAQ w [.i Q.1.1, dO Q.1.2] Q.2 (.returned (.tuple #[.agg #[.int .i64 R, v], .int .i64 0])) ((wr.setCell ⟨b, 0, none⟩ (.int .i64 R)).setCell ⟨b, 1, none⟩ v) := by
  subst hQ
  obtain ⟨G', o1, n1, s1⟩ := h.lst.ow (by omega) (by unfold maxLen; omega)
  have hlt := h.lst.lt
  have hp := h.hp
  have hz := h1.size
  exact RetAQ.put (bnext h1 h.bel (Nat.le_refl _)) hb o1 n1 (fun y hy => by have := (hlt y (s1 y hy)).1; omega) (fun e => by have := (hlt _ (s1 _ e)).1; omega) 0
theorem RetAQ.none {w w1 : World} {b : Nat} (h : Below w.heap.size w w1) (hb : w.heap.size ≤ b) {Q : (Int × List Ord) × Int} (hQ : Q = ((0, []), 5)) :
    RetAQ w [.i Q.1.1, dO Q.1.2] Q.2 (.returned (.tuple #[.agg #[.int .i64 0, .slice none 0 0], .int .i64 5])) ((w1.setCell ⟨b, 0, none⟩ (.int .i64 0)).setCell ⟨b, 1, none⟩ (.slice none 0 0)) := by
  subst hQ
  exact RetAQ.put h hb (Ow_empty _ _ _ _) (by simp) (by simp) (by simp) 5
theorem Prg.slO {w1 : World} {pb : Nat} {R : Int} {wr : World} {os : List Ord} {a : Option Addr} {n c : Nat} {G : List Nat} (h : Prg w1 pb R wr os (.slice a n c) G) (h6 : os.length ≤ 6) : SlO Any wr a os := by
  obtain ⟨G', o1, _, _⟩ := h.lst.ow (by omega) (by unfold maxLen; omega)
  exact (Ow.argO o1).2
theorem Prg.start {w1 w4 : World} {R : Int} (h : Below w1.heap.size w1 w4) : Prg w1 w4.heap.size R (w4.alloc (.cells #[.int .i64 R, .slice none 0 0] 36)) [] (.slice none 0 0) [] :=
  ⟨bnext h (below_alloc _ _) (Nat.le_refl _), h.size, by simp, by simp [go_sem], by simp [go_sem], fun i => by simp [go_sem], Lst.nil _ _ _ _⟩
theorem row_ordR {w5 : World} {B : Nat} {o : Ord} {E : TypeId} {G : List Nat} : RowAt (w5.alloc (.cells #[.int .i64 o.op, .int .i64 o.reg, .int .i64 o.to, .int .i64 o.els] E)) w5.heap.size 4 B o.ds [.int .i64 o.op, .int .i64 o.reg, .int .i64 o.to, .int .i64 o.els] [] G := by
  refine ⟨⟨[], [], ⟨rfl, rfl⟩, ⟨[], [], ⟨rfl, rfl⟩, ⟨[], [], ⟨rfl, rfl⟩, ⟨[], [], ⟨rfl, rfl⟩, rfl, rfl⟩, rfl⟩, rfl⟩, rfl⟩, rfl, by simp, by simp, by simp, fun j u hu => ?_, by simp [Value.oneCell']⟩
  match j, hu with
  | 0, hu => simp at hu; subst hu; simp
  | 1, hu => simp at hu; subst hu; simp
  | 2, hu => simp at hu; subst hu; simp
  | 3, hu => simp at hu; subst hu; simp
theorem tail_step (f : Bs → Ord) {ws : List ByteArray} {k : Nat} (h1 : 1 ≤ k) (hk : k < ws.length) : ((ws.map (·.data.toList)).tail.take (k - 1)).map f ++ [f (nthBA ws k).data.toList] = ((ws.map (·.data.toList)).tail.take k).map f := by
  obtain ⟨q, rfl⟩ : ∃ q, k = q + 1 := ⟨k - 1, by omega⟩
  have e : (ws.map (·.data.toList)).tail[q]? = some (nthBA ws (q + 1)).data.toList := by
    rw [List.getElem?_tail, List.getElem?_map, List.getElem?_eq_getElem hk]
    simp [nthBA, hk]
  rw [show q + 1 - 1 = q by omega, List.take_add_one, e, List.map_append]
  rfl
theorem readProg_none {s : Bs} (h : specRd s = none) : readProgS s = ((0, []), 5) := by unfold readProgS; rw [h]
theorem readProg_some {s : Bs} {p : Int × List Ord} (h : specRd s = some p) : readProgS s = (p, 0) := by unfold readProgS; rw [h]
theorem specRd_a {s : Bs} {ls : List Bs} {ok : Bool} (h1 : (linesOfB s).1 = ls) (h2 : (linesOfB s).2 = ok) (h : ¬ (ok = true ∧ 1 ≤ ls.length ∧ ls.length ≤ 7)) : specRd s = none := by
  have e : linesOfS s = (ls, ok) := by rw [← h1, ← h2]; rfl
  unfold specRd
  rw [e]
  simp only
  rw [if_neg h]
theorem specRd_b {s : Bs} {ls : List Bs} {ok : Bool} (h1 : (linesOfB s).1 = ls) (h2 : (linesOfB s).2 = ok) (h : ok = true ∧ 1 ≤ ls.length ∧ ls.length ≤ 7) :
    specRd s = if validProgS (sHead (ls.getD 0 [])) (ls.tail.map sOrd) = true ∧ progL (sHead (ls.getD 0 [])) (ls.tail.map sOrd) = s then some (sHead (ls.getD 0 []), ls.tail.map sOrd) else none := by
  have e : linesOfS s = (ls, ok) := by rw [← h1, ← h2]; rfl
  unfold specRd
  rw [e]
  simp only
  rw [if_pos h]
set_option maxHeartbeats 8000000 in
set_option maxRecDepth 100000 in
theorem specReadProgram_d (s : ByteArray) (w : World) (hs : s.size ≤ 2097152) :
    Calls Tryd.prog 17 #[.string s] w (RetAQ w [.i (readProgS s.data.toList).1.1, dO (readProgS s.data.toList).1.2] (readProgS s.data.toList).2) := by
  obtain ⟨Q, hQ⟩ : ∃ Q, Q = readProgS s.data.toList := ⟨_, rfl⟩
  rw [← hQ]
  have HQ := Lib.hid hQ
  clear hQ
  have C := Lib.hid (l06Lines_c s hs (w.alloc (.cells #[.int .i64 0, .slice none 0 0] 36)))
  go_enter Tryd.func17, Tryd.ntmps17
  go_wp2_with fail
  refine C.out.mono ?_
  rintro e w1 ⟨v1, ok, rfl, hok, ws, hws, hbl, hwl, hb1⟩
  have HW1 : Hid (Below w.heap.size w w1) := Lib.hid ((below_alloc w _).trans (hb1.mono (by simp)))
  have HRB : Hid (w.heap.size < w1.heap.size) := Lib.hid (by have := hb1.size; simp at this; omega)
  have HR0 : Hid (w1.cell? ⟨w.heap.size, 0, none⟩ = some (.int .i64 0)) := Lib.hid ((bcell1 hb1 (by simp)).trans (by simp [go_sem]))
  have HR1 : Hid (w1.cell? ⟨w.heap.size, 1, none⟩ = some (.slice none 0 0)) := Lib.hid ((bcell1 hb1 (by simp)).trans (by simp [go_sem]))
  have HRZ0 : Hid (w1.frozen? ⟨w.heap.size, 0, none⟩ = false) := Lib.hid ((hb1.frozen (p := ⟨w.heap.size, 0, none⟩) (by simp)).trans (by simp [go_sem]))
  have HRZ1 : Hid (w1.frozen? ⟨w.heap.size, 1, none⟩ = false) := Lib.hid ((hb1.frozen (p := ⟨w.heap.size, 1, none⟩) (by simp)).trans (by simp [go_sem]))
  have HB1 : Hid (Below w1.heap.size w1 w1) := Lib.hid (Below.refl _ _)
  have HOK := Lib.hid hok
  have HWS := Lib.hid hws
  obtain ⟨n, hn⟩ : ∃ n, n = ws.length := ⟨_, rfl⟩
  have hn2 : n ≤ 2097153 := by omega
  have HN := Lib.hid hn
  have HLN : Hid ((ws.map (·.data.toList)).length = n) := Lib.hid (by simpa using hn.symm)
  clear hb1 C hok
  by_cases hc : ok = true ∧ 1 ≤ n ∧ n ≤ 7
  rotate_left
  · have HF : Hid (Q = ((0, []), 5)) := Lib.hid (by rw [HQ.out, readProg_none (specRd_a hws.symm HOK.out (by rw [HLN.out]; exact hc))])
    obtain ⟨a, c, rfl⟩ := hbl.isSl
    rw [List.length_map, ← hn]
    clear hbl hws hn hwl
    cases ok
    · clear hc
      have sA := setP2 w1 w.heap.size (.int .i64 0) (.slice none 0 0) ((bcell1 HB1.out HRB.out).trans HR0.out) ((bcell1 HB1.out HRB.out).trans HR1.out)
      have rr0 := (bcell1 HB1.out HRB.out).trans HR0.out
      have rr1 := (bcell1 HB1.out HRB.out).trans HR1.out
      have rz0 := (HB1.out.frozen (p := ⟨w.heap.size, 0, none⟩) HRB.out).trans HRZ0.out
      have rz1 := (HB1.out.frozen (p := ⟨w.heap.size, 1, none⟩) HRB.out).trans HRZ1.out
      go_wp2
      refine bodyPost_ret (v := .tuple #[.agg #[.int .i64 0, .slice none 0 0], .int .i64 5]) (by simp [results, Tryd.results17, go_sem, sA]) rfl ?_
      exact RetAQ.none (bnext HW1.out HB1.out (Nat.le_refl _)) (Nat.le_refl _) HF.out
    · by_cases h1 : n < 1
      · have h1' : (n : Int) < 1 := by omega
        clear hc
        have sA := setP2 w1 w.heap.size (.int .i64 0) (.slice none 0 0) ((bcell1 HB1.out HRB.out).trans HR0.out) ((bcell1 HB1.out HRB.out).trans HR1.out)
        have rr0 := (bcell1 HB1.out HRB.out).trans HR0.out
        have rr1 := (bcell1 HB1.out HRB.out).trans HR1.out
        have rz0 := (HB1.out.frozen (p := ⟨w.heap.size, 0, none⟩) HRB.out).trans HRZ0.out
        have rz1 := (HB1.out.frozen (p := ⟨w.heap.size, 1, none⟩) HRB.out).trans HRZ1.out
        go_wp2
        refine bodyPost_ret (v := .tuple #[.agg #[.int .i64 0, .slice none 0 0], .int .i64 5]) (by simp [results, Tryd.results17, go_sem, sA]) rfl ?_
        exact RetAQ.none (bnext HW1.out HB1.out (Nat.le_refl _)) (Nat.le_refl _) HF.out
      · have h1' : ¬ (n : Int) < 1 := by omega
        have h7 : (7 : Int) < n := by
          have : ¬ (1 ≤ n ∧ n ≤ 7) := fun h => hc ⟨rfl, h⟩
          omega
        clear hc
        have sA := setP2 w1 w.heap.size (.int .i64 0) (.slice none 0 0) ((bcell1 HB1.out HRB.out).trans HR0.out) ((bcell1 HB1.out HRB.out).trans HR1.out)
        have rr0 := (bcell1 HB1.out HRB.out).trans HR0.out
        have rr1 := (bcell1 HB1.out HRB.out).trans HR1.out
        have rz0 := (HB1.out.frozen (p := ⟨w.heap.size, 0, none⟩) HRB.out).trans HRZ0.out
        have rz1 := (HB1.out.frozen (p := ⟨w.heap.size, 1, none⟩) HRB.out).trans HRZ1.out
        go_wp2
        refine bodyPost_ret (v := .tuple #[.agg #[.int .i64 0, .slice none 0 0], .int .i64 5]) (by simp [results, Tryd.results17, go_sem, sA]) rfl ?_
        exact RetAQ.none (bnext HW1.out HB1.out (Nat.le_refl _)) (Nat.le_refl _) HF.out
  obtain ⟨rfl, h1, h7⟩ := hc
  have hne : ws ≠ [] := by rintro rfl; simp at hn; omega
  obtain ⟨g, c, rfl, hgB, hgl, hwc, hcell⟩ := hbl.words hne
  have HGL := Lib.hid hgl
  have HCL := Lib.hid hcell
  have HWSZ : Hid (∀ j, j < n → (nthBA ws j).size ≤ 2097152) := Lib.hid fun j hj => by
    have h2 := words_mem (ws := ws) rfl (k := j) (by omega)
    rw [hws] at h2
    have h3 := cutL_size 10 s.data.toList _ (List.dropLast_subset _ h2)
    rw [← sizeL, ← sizeL] at h3
    omega
  have HRD := Lib.hid (specRd_b hws.symm HOK.out ⟨rfl, by rw [HLN.out]; exact h1, by rw [HLN.out]; exact h7⟩)
  have iw := ix_of (P := Tryd.prog) tabStr.under tabStr.size (a := some ⟨g, 0, none⟩) (n := n) (fun _ => ⟨g, 0, rfl⟩) c
  simp only [Nat.mul_one, adr, blk, ofs, Nat.zero_add] at iw
  have j0 := fun w' => iw 0 w' (by omega) (by omega)
  simp only [show Int.toNat 0 = 0 from rfl] at j0
  have y0 := hcell 0 (by omega)
  obtain ⟨y, hy0⟩ : ∃ y, y = nthBA ws 0 := ⟨_, rfl⟩
  have hys := HWSZ.out 0 (by omega)
  rw [← hy0] at y0 hys
  have HY0 : Hid ((ws.map (·.data.toList)).getD 0 [] = y.data.toList) := Lib.hid (by rw [hy0]; simp [nthBA, List.getD_eq_getElem?_getD, show 0 < ws.length by omega])
  rw [← hn]
  have C := Lib.hid (l06Cut_c y ⟨#[112, 114, 111, 103, 114, 97, 109, 32]⟩ hys (by decide) w1)
  have h1' : ¬ (n : Int) < 1 := by omega
  have h7' : ¬ (7 : Int) < n := by omega
  clear hbl hws hn hwl hne hgB hwc hcell hgl hy0
  go_wp2_with fail
  refine C.out.mono ?_
  rintro e w2 ⟨x3, x4, ok3, rfl, hz4, hx4, hb2⟩
  have HB2 := Lib.hid hb2
  have C := Lib.hid (l07Number_c x4 (by omega) w2)
  have HRH : Hid (num7 x4.data.toList = sHead y.data.toList) := Lib.hid (by rw [hx4]; rfl)
  obtain ⟨R, hR⟩ : ∃ R, R = num7 x4.data.toList := ⟨_, rfl⟩
  rw [← hR] at C HRH
  clear hb2 hx4 hR hz4
  go_wp2_with fail
  refine C.out.mono ?_
  rintro e w4 ⟨rfl, hb4⟩
  have HP0 := Lib.hid (Prg.start (R := R) (bnext HB2.out hb4 (Nat.le_refl _)))
  clear hb4 C
  have HRUN := Lib.hid (callFunc_run Tryd.func39 (by kernel_rfl) rfl)
  go_wp2
  go_loopw [10] (fun i wr => ∃ (k : Nat) (os : List Ord) (v : Value) (G : List Nat), 1 ≤ k ∧ k ≤ n ∧ i = .int .i64 k ∧ Hid (os = ((ws.map (·.data.toList)).tail.take (k - 1)).map sOrd) ∧ Hid (Prg w1 w4.heap.size R wr os v G)) (fun i _ => n - (intOf i).toNat)
  case atStart => exact ⟨1, [], _, _, Nat.le_refl _, h1, rfl, Lib.hid (by simp), HP0⟩
  case round =>
    obtain ⟨k, os, v, G, hk1, hk, rfl, HOS, HPR⟩ := hrel
    have hosl : os.length ≤ 6 := by rw [HOS.out, List.length_map, List.length_take]; omega
    obtain ⟨_, av, cv, rfl⟩ := HPR.out.lst.val
    by_cases hlt : k < n
    · have hlt' : (k : Int) < n := by omega
      have jk := fun w' => iw k w' (by omega) hlt'
      simp only [Int.toNat_natCast] at jk
      have hys := HWSZ.out k hlt
      have HST : Hid (os ++ [sOrd (nthBA ws k).data.toList] = ((ws.map (·.data.toList)).tail.take (k + 1 - 1)).map sOrd) := Lib.hid (by rw [HOS.out, show k + 1 - 1 = k by omega]; exact tail_step sOrd hk1 (by have := HN.out; omega))
      obtain ⟨y, hy⟩ : ∃ y, y = nthBA ws k := ⟨_, rfl⟩
      have HYC : Hid (w1.cell? ⟨g, k, none⟩ = some (.string y)) := Lib.hid (by rw [hy]; exact HCL.out k (by rw [← HN.out]; exact hlt))
      rw [← hy] at hys HST
      obtain ⟨o, ho⟩ : ∃ o, o = sOrd y.data.toList := ⟨_, rfl⟩
      rw [← ho] at HST
      have HCR : Hid (∀ wx, Calls Tryd.prog 39 #[.string y] wx (RetV wx o.val)) := Lib.hid (fun wx => by rw [ho]; exact l05Read_c y hys wx)
      clear hy ho
      have hs0 : wr.drew.cell? ⟨w4.heap.size, 1, none⟩ = some (.slice av os.length cv) ∧ wr.drew.cell? ⟨g, k, none⟩ = some (.string y) := ⟨HPR.out.c1, (bcell1 HPR.out.bel HGL.out).trans HYC.out⟩
      go_wp2
      rename_i K hK
      refine wp_region_C (n := 11) (l := #[false, false, false, false, false, false, false, false, false, false, false]) (fun wx => wx.cell? ⟨w4.heap.size, 1, none⟩ = some (.slice av os.length cv) ∧ wx.cell? ⟨g, k, none⟩ = some (.string y)) [10] (by kernel_rfl) rfl rfl ?_
      refine wpC_take (i := 0) (v := ?v0_1) (l' := #[true, false, false, false, false, false, false, false, false, false, false]) [1, 8, 9, 10] rfl (by kernel_rfl) (by kernel_rfl) (by kernel_rfl) (by kernel_rfl) (by kernel_rfl) rfl (fun _ _ _ h => h) (by rfl) (fun wx hS => ?q0_1) (by assumption) ?_
      case q0_1 => (go_simp; try with_reducible rfl)
      try simp only [List.getElem_toArray, List.getElem_cons_zero, Act.put, List.setIfInBounds_toArray, List.set_cons_zero, List.set_cons_succ]
      refine wpC_take (i := 1) (v := ?v1_2) (l' := #[true, true, false, false, false, false, false, false, false, false, false]) [8, 9, 10] rfl (by kernel_rfl) (by kernel_rfl) (by kernel_rfl) (by kernel_rfl) (by kernel_rfl) rfl (fun _ _ _ h => h) (by rfl) (fun wx hS => ?q1_2) (by assumption) ?_
      case q1_2 => ((try dsimp only at hS); obtain ⟨hS1, hS2⟩ := hS; go_simp; try with_reducible rfl)
      try simp only [List.getElem_toArray, List.getElem_cons_succ, List.getElem_cons_zero, Act.put, List.setIfInBounds_toArray, List.set_cons_zero, List.set_cons_succ]
      refine wpC_take (i := 2) (v := ?v2_3) (l' := #[true, true, true, false, false, false, false, false, false, false, false]) [4, 5, 6, 7, 8, 9, 10] rfl (by kernel_rfl) (by kernel_rfl) (by kernel_rfl) (by kernel_rfl) (by kernel_rfl) rfl (fun _ _ _ h => h) (by rfl) (fun wx hS => ?q2_3) (by assumption) ?_
      case q2_3 => (go_simp; try with_reducible rfl)
      try simp only [List.getElem_toArray, List.getElem_cons_succ, List.getElem_cons_zero, Act.put, List.setIfInBounds_toArray, List.set_cons_zero, List.set_cons_succ]
      refine wpC_take (i := 3) (v := ?v3_4) (l' := #[true, true, true, true, false, false, false, false, false, false, false]) [4, 5, 6, 7, 8, 9, 10] rfl (by kernel_rfl) (by kernel_rfl) (by kernel_rfl) (by kernel_rfl) (by kernel_rfl) rfl (fun _ _ _ h => h) (by rfl) (fun wx hS => ?q3_4) (by assumption) ?_
      case q3_4 => (go_simp; try with_reducible rfl)
      try simp only [List.getElem_toArray, List.getElem_cons_succ, List.getElem_cons_zero, Act.put, List.setIfInBounds_toArray, List.set_cons_zero, List.set_cons_succ]
      refine wpC_take (i := 4) (v := ?v4_5) (l' := #[true, true, true, true, true, false, false, false, false, false, false]) [5, 6, 7, 8, 9, 10] rfl (by kernel_rfl) (by kernel_rfl) (by kernel_rfl) (by kernel_rfl) (by kernel_rfl) rfl (fun _ _ _ h => h) (by rfl) (fun wx hS => ?q4_5) (by assumption) ?_
      case q4_5 => (go_simp; try with_reducible rfl)
      try simp only [List.getElem_toArray, List.getElem_cons_succ, List.getElem_cons_zero, Act.put, List.setIfInBounds_toArray, List.set_cons_zero, List.set_cons_succ]
      refine wpC_take (i := 5) (v := ?v5_6) (l' := #[true, true, true, true, true, true, false, false, false, false, false]) [6, 7, 8, 9, 10] rfl (by kernel_rfl) (by kernel_rfl) (by kernel_rfl) (by kernel_rfl) (by kernel_rfl) rfl (fun _ _ _ h => h) (by rfl) (fun wx hS => ?q5_6) (by assumption) ?_
      case q5_6 => ((try dsimp only at hS); obtain ⟨hS1, hS2⟩ := hS; go_simp; try with_reducible rfl)
      try simp only [List.getElem_toArray, List.getElem_cons_succ, List.getElem_cons_zero, Act.put, List.setIfInBounds_toArray, List.set_cons_zero, List.set_cons_succ]
      refine wpC_one (i := 6) (l' := #[true, true, true, true, true, true, true, false, false, false, false]) (by kernel_rfl) rfl rfl (by rfl) (fun Kr hKr => ?_)
      refine step_callV rfl 39 #[.tmp 51] _ rfl HRUN.out #[.string y] (by first | rfl | (simp [Act.eval]; done) | (simp [Act.eval]; rfl) | (simp [Act.eval]; repeat' constructor)) (HCR.out _) ?_
      rintro e wA ⟨rfl, hbA⟩
      refine ⟨_, rfl, ?_⟩
      have hbA2 : Below wr.heap.size wr wA := (Below.refl _ _).drew.trans hbA
      have hPA := HPR.out.go hbA2
      refine hKr _ _ (fun _ => ⟨hPA.c1, (bcell1 hPA.bel HGL.out).trans HYC.out⟩) ?_
      clear hKr Kr
      try simp only [List.getElem_toArray, List.getElem_cons_succ, List.getElem_cons_zero, Act.put, List.setIfInBounds_toArray, List.set_cons_zero, List.set_cons_succ]
      refine wpC_one (i := 7) (l' := #[true, true, true, true, true, true, true, true, false, false, false]) (by kernel_rfl) rfl rfl (by rfl) (fun Kr hKr => ?_)
      go_simp
      refine hKr _ _ (fun _ => ⟨(hPA.go (below_alloc _ _)).c1, (bcell1 (hPA.go (below_alloc _ _)).bel HGL.out).trans HYC.out⟩) ?_
      clear hKr Kr
      try simp only [List.getElem_toArray, List.getElem_cons_succ, List.getElem_cons_zero, Act.put, List.setIfInBounds_toArray, List.set_cons_zero, List.set_cons_succ]
      refine wpC_one (i := 8) (l' := #[true, true, true, true, true, true, true, true, true, false, false]) (by kernel_rfl) rfl rfl (by rfl) (fun Kr hKr => ?_)
      refine step_lst rfl (.tmp 47) (.tmp 53) 34 rfl tabOrderSM rfl (by omega) (by decide) (w4.heap.size + 1) (.slice av os.length cv) os.length (os.flatMap Ord.ds) o.ds G [] _ rfl (hPA.go (below_alloc _ _)).lst wA.heap.size rfl row_ordR (by omega) (by have := hPA.hz; simp; omega) ?_
      intro v7 w7 G7 hN
      obtain ⟨_, a7, c7, rfl⟩ := hN.lst.val
      obtain ⟨z1, z2, hW7, hPN⟩ := (hPA.go (below_alloc _ _)).put hN
      refine hKr _ _ (fun _ => ⟨z1, (bcell1 hW7 HGL.out).trans HYC.out⟩) ?_
      clear hKr Kr
      try simp only [List.getElem_toArray, List.getElem_cons_succ, List.getElem_cons_zero, Act.put, List.setIfInBounds_toArray, List.set_cons_zero, List.set_cons_succ]
      have hs8 := And.intro z1 ((bcell1 hW7 HGL.out).trans HYC.out)
      refine wpC_take (i := 9) (v := ?v9_7) (l' := #[true, true, true, true, true, true, true, true, true, true, false]) [10] rfl (by kernel_rfl) (by kernel_rfl) (by kernel_rfl) (by kernel_rfl) (by kernel_rfl) rfl (fun _ _ _ h => h) (by rfl) (fun wx hS => ?q9_7) (by assumption) ?_
      case q9_7 => (go_simp; try with_reducible rfl)
      try simp only [List.getElem_toArray, List.getElem_cons_succ, List.getElem_cons_zero, Act.put, List.setIfInBounds_toArray, List.set_cons_zero, List.set_cons_succ]
      refine wpC_one (i := 10) (l' := #[true, true, true, true, true, true, true, true, true, true, true]) (by kernel_rfl) rfl rfl (by rfl) (fun Kr hKr => ?_)
      go_simp
      refine hKr _ _ (fun h => absurd (by decide) h) ?_
      clear hKr Kr
      try simp only [List.getElem_toArray, List.getElem_cons_succ, List.getElem_cons_zero, Act.put, List.setIfInBounds_toArray, List.set_cons_zero, List.set_cons_succ]
      refine wpC_done (by kernel_rfl) ?_ _
      skip
      refine hK _ _ ?_
      have HPN := Lib.hid hPN
      clear hPN hN hPA hbA2 hbA hs0 hs8 hW7 z1 z2 hK
      go_wp2
      go_roundw
      case rel => exact ⟨k + 1, os ++ [o], _, _, by omega, by omega, by go_num, HST, HPN⟩
      case measure => simp [intOf]; omega
    · obtain rfl : k = n := by omega
      have HOS2 : Hid (os = (ws.map (·.data.toList)).tail.map sOrd) := Lib.hid (by rw [HOS.out, List.take_of_length_le (by rw [List.length_tail, HLN.out]; exact Nat.le_refl _)])
      have HSP : Hid (specRd s.data.toList = if validProgS R os = true ∧ progL R os = s.data.toList then some (R, os) else none) := Lib.hid (by rw [HRD.out, HY0.out, ← HRH.out, ← HOS2.out])
      have p0 := HPR.out.c0
      have p1 := HPR.out.c1
      have C := l05Ok_c R Any av cv os w4.heap.size wr (HPR.out.slO hosl) p0 p1
      cases hv : validProgS R os
      · rw [hv] at C
        have HF : Hid (Q = ((0, []), 5)) := Lib.hid (by rw [HQ.out, readProg_none (by rw [HSP.out, if_neg (by rw [hv]; simp)])])
        replace C := Lib.hid C
        clear hv
        go_wp2_with fail
        refine C.out.mono ?_
        rintro e w5 ⟨rfl, hb5⟩
        have HPF := Lib.hid (HPR.out.go hb5)
        clear hb5 C p0 p1
        have sA := setP2 w5 w.heap.size (.int .i64 0) (.slice none 0 0) ((bcell1 HPF.out.bel HRB.out).trans HR0.out) ((bcell1 HPF.out.bel HRB.out).trans HR1.out)
        have rr0 := (bcell1 HPF.out.bel HRB.out).trans HR0.out
        have rr1 := (bcell1 HPF.out.bel HRB.out).trans HR1.out
        have rz0 := (HPF.out.bel.frozen (p := ⟨w.heap.size, 0, none⟩) HRB.out).trans HRZ0.out
        have rz1 := (HPF.out.bel.frozen (p := ⟨w.heap.size, 1, none⟩) HRB.out).trans HRZ1.out
        go_wp2
        refine bodyPost_ret (v := .tuple #[.agg #[.int .i64 0, .slice none 0 0], .int .i64 5]) (by simp [results, Tryd.results17, go_sem, sA]) rfl ?_
        exact RetAQ.none (bnext HW1.out HPF.out.bel (Nat.le_refl _)) (Nat.le_refl _) HF.out
      rw [hv] at C
      replace C := Lib.hid C
      have HV := Lib.hid hv
      have HT : Hid ((progT R os os.length).data.toList = progL R os) := Lib.hid (by rw [progT_L R os os.length (Nat.le_refl _), List.take_length, progL])
      clear hv
      go_wp2_with fail
      refine C.out.mono ?_
      rintro e w5 ⟨rfl, hb5⟩
      have HP5 := Lib.hid (HPR.out.go hb5)
      clear hb5 C p0 p1
      have C := l05Text_c R os av cv w4.heap.size w5 (HP5.out.slO hosl) HP5.out.c0 HP5.out.c1 HV.out
      obtain ⟨t, ht⟩ : ∃ t, t = progT R os os.length := ⟨_, rfl⟩
      rw [← ht] at C HT
      replace C := Lib.hid C
      clear ht
      have htl : t.toList = progL R os := by rw [ByteArray.toList_eq]; exact HT.out
      have hsl : s.toList = s.data.toList := ByteArray.toList_eq s
      by_cases he : progL R os = s.data.toList
      · have e1 : (t.toList == s.toList) = true := by rw [htl, hsl, he]; exact beq_self_eq_true _
        have e2 : (!(t.toList == s.toList)) = false := by rw [e1]; rfl
        have HF : Hid (Q = ((R, os), 0)) := Lib.hid (by rw [HQ.out, readProg_some (by rw [HSP.out, if_pos ⟨HV.out, he⟩])])
        clear htl hsl he
        go_wp2_with fail
        refine C.out.mono ?_
        rintro e w6 ⟨rfl, hb6⟩
        have HP6 := Lib.hid (HP5.out.go hb6)
        clear hb6 C
        have p0 := HP6.out.c0
        have p1 := HP6.out.c1
        have rr0 := (bcell1 HP6.out.bel HRB.out).trans HR0.out
        have rr1 := (bcell1 HP6.out.bel HRB.out).trans HR1.out
        have rz0 := (HP6.out.bel.frozen (p := ⟨w.heap.size, 0, none⟩) HRB.out).trans HRZ0.out
        have rz1 := (HP6.out.bel.frozen (p := ⟨w.heap.size, 1, none⟩) HRB.out).trans HRZ1.out
        have sA := setP2 w6 w.heap.size (.int .i64 R) (.slice av os.length cv) rr0 rr1
        go_wp2
        refine bodyPost_ret (v := .tuple #[.agg #[.int .i64 R, .slice av os.length cv], .int .i64 0]) (by simp [results, Tryd.results17, go_sem, sA]) rfl ?_
        exact HP6.out.ret HW1.out (Nat.le_refl _) HRB.out hosl HF.out
      · have e1 : (t.toList == s.toList) = false := by rw [htl, hsl]; simpa using he
        have e2 : (!(t.toList == s.toList)) = true := by rw [e1]; rfl
        have HF : Hid (Q = ((0, []), 5)) := Lib.hid (by rw [HQ.out, readProg_none (by rw [HSP.out, if_neg (fun h => he h.2)])])
        clear htl hsl he
        go_wp2_with fail
        refine C.out.mono ?_
        rintro e w6 ⟨rfl, hb6⟩
        have HPF := Lib.hid (HP5.out.go hb6)
        clear hb6 C
        have sA := setP2 w6 w.heap.size (.int .i64 0) (.slice none 0 0) ((bcell1 HPF.out.bel HRB.out).trans HR0.out) ((bcell1 HPF.out.bel HRB.out).trans HR1.out)
        have rr0 := (bcell1 HPF.out.bel HRB.out).trans HR0.out
        have rr1 := (bcell1 HPF.out.bel HRB.out).trans HR1.out
        have rz0 := (HPF.out.bel.frozen (p := ⟨w.heap.size, 0, none⟩) HRB.out).trans HRZ0.out
        have rz1 := (HPF.out.bel.frozen (p := ⟨w.heap.size, 1, none⟩) HRB.out).trans HRZ1.out
        go_wp2
        refine bodyPost_ret (v := .tuple #[.agg #[.int .i64 0, .slice none 0 0], .int .i64 5]) (by simp [results, Tryd.results17, go_sem, sA]) rfl ?_
        exact RetAQ.none (bnext HW1.out HPF.out.bel (Nat.le_refl _)) (Nat.le_refl _) HF.out
end Go.Proofs.YtbnikblhnibgiaaDoor
