/- The rules that a program becomes: the reference's function. Written by mkmh.py. -/
import Derived.Test.YtncndnholheemaaMF
namespace Go.Proofs.Ytncndnholheemaa
open Go.RowKit

/-- A round of the maker's loop. -/
structure Sit (B : Nat) (w1 wr : World) (g K : Nat) (rs : List Rul) (v : Value) (G : List Nat) (bo : Nat) (o : Ord) : Prop where
  mr : Mkr 173 B wr g K rs v G
  o0 : wr.cell? ⟨bo, 0, none⟩ = some (.int .i64 o.op)
  o1 : wr.cell? ⟨bo, 1, none⟩ = some (.int .i64 o.reg)
  o2 : wr.cell? ⟨bo, 2, none⟩ = some (.int .i64 o.to)
  o3 : wr.cell? ⟨bo, 3, none⟩ = some (.int .i64 o.els)
  hn : bo ∉ G
  hg : bo ≠ g
  hb : Below B w1 wr
theorem Sit.keep {B : Nat} {w1 wr w' : World} {g K : Nat} {rs : List Rul} {v : Value} {G : List Nat} {bo : Nat} {o : Ord} (h : Sit B w1 wr g K rs v G bo o) (hb : Below wr.heap.size wr w') : Sit B w1 w' g K rs v G bo o :=
  have zo : bo < wr.heap.size := World.block_lt_of_cell? wr _ h.o0
  ⟨h.mr.keep hb, (bcell1 hb zo).trans h.o0, (bcell1 hb zo).trans h.o1, (bcell1 hb zo).trans h.o2, (bcell1 hb zo).trans h.o3, h.hn, h.hg, h.hb.trans (hb.mono (Nat.le_trans h.mr.hg.1 (Nat.le_of_lt h.mr.hg.2)))⟩
theorem Sit.rule {B : Nat} {w1 wr w' : World} {g K : Nat} {rs : List Rul} {r : Rul} {v : Value} {G : List Nat} {bo : Nat} {o : Ord} {gl c : Nat} {G' : List Nat} (h : Sit B w1 wr g K rs v G bo o) (hn : MkrNext 173 B wr w' g K rs r v G gl c G') :
    Sit B w1 w' g K (rs ++ [r]) (.slice (some ⟨gl, 0, none⟩) (rs.length + 1) c) G' bo o := by
  have zo : bo < wr.heap.size := World.block_lt_of_cell? wr _ h.o0
  have hF : ∀ x, x ∈ g :: ob v → B ≤ x := fun x hx => by
    rcases List.mem_cons.1 hx with e | e
    · subst e; exact h.mr.hg.1
    · exact (h.mr.lst.lt x (ob_sub h.mr.lst _ e)).1
  have hbF : bo ∉ g :: ob v := fun e => by
    rcases List.mem_cons.1 e with e | e
    · exact h.hg e
    · exact h.hn (ob_sub h.mr.lst _ e)
  refine ⟨hn.made, (hn.chg.cell zo hbF 0).trans h.o0, (hn.chg.cell zo hbF 1).trans h.o1, (hn.chg.cell zo hbF 2).trans h.o2, (hn.chg.cell zo hbF 3).trans h.o3, fun e => ?_, h.hg, h.hb.trans (hn.chg.below (Nat.le_trans h.mr.hg.1 (Nat.le_of_lt h.mr.hg.2)) hF)⟩
  rcases hn.mem _ e with e | e
  · exact h.hn e
  · omega
/-- Between the rounds. -/
structure Sit0 (B : Nat) (w1 wr : World) (g K : Nat) (rs : List Rul) (v : Value) (G : List Nat) : Prop where
  mr : Mkr 173 B wr g K rs v G
  hb : Below B w1 wr
theorem Sit0.keep {B : Nat} {w1 wr w' : World} {g K : Nat} {rs : List Rul} {v : Value} {G : List Nat} (h : Sit0 B w1 wr g K rs v G) (hb : Below wr.heap.size wr w') : Sit0 B w1 w' g K rs v G :=
  ⟨h.mr.keep hb, h.hb.trans (hb.mono (Nat.le_trans h.mr.hg.1 (Nat.le_of_lt h.mr.hg.2)))⟩
theorem Sit0.rule {B : Nat} {w1 wr w' : World} {g K : Nat} {rs : List Rul} {r : Rul} {v : Value} {G : List Nat} {gl c : Nat} {G' : List Nat} (h : Sit0 B w1 wr g K rs v G) (hn : MkrNext 173 B wr w' g K rs r v G gl c G') :
    Sit0 B w1 w' g K (rs ++ [r]) (.slice (some ⟨gl, 0, none⟩) (rs.length + 1) c) G' :=
  ⟨hn.made, h.hb.trans (hn.chg.below (Nat.le_trans h.mr.hg.1 (Nat.le_of_lt h.mr.hg.2)) (fun x hx => by
    rcases List.mem_cons.1 hx with e | e
    · subst e; exact h.mr.hg.1
    · exact (h.mr.lst.lt x (ob_sub h.mr.lst _ e)).1))⟩
theorem set3 (w : World) (b : Nat) (v0 v1 v2 : Value) {u0 u1 u2 : Value} (h0 : w.cell? ⟨b, 0, none⟩ = some u0) (h1 : w.cell? ⟨b, 1, none⟩ = some u1) (h2 : w.cell? ⟨b, 2, none⟩ = some u2) :
    (((w.setCell ⟨b, 0, none⟩ v0).setCell ⟨b, 1, none⟩ v1).setCell ⟨b, 2, none⟩ v2).cell? ⟨b, 0, none⟩ = some v0 ∧ (((w.setCell ⟨b, 0, none⟩ v0).setCell ⟨b, 1, none⟩ v1).setCell ⟨b, 2, none⟩ v2).cell? ⟨b, 1, none⟩ = some v1 ∧ (((w.setCell ⟨b, 0, none⟩ v0).setCell ⟨b, 1, none⟩ v1).setCell ⟨b, 2, none⟩ v2).cell? ⟨b, 2, none⟩ = some v2 := by
  have o : ∀ (w : World) (i j : Nat) (v : Value), i ≠ j → (w.setCell ⟨b, i, none⟩ v).cell? ⟨b, j, none⟩ = w.cell? ⟨b, j, none⟩ := fun w i j v h => World.cell?_setCell_other _ _ _ _ (by intro e; cases e; exact h rfl)
  refine ⟨?_, ?_, ?_⟩
  · rw [o _ 2 0 _ (by omega), o _ 1 0 _ (by omega)]; exact World.cell?_setCell_same _ _ _ h0
  · rw [o _ 2 1 _ (by omega)]; exact World.cell?_setCell_same _ _ _ (by rw [o _ 0 1 _ (by omega)]; exact h1)
  · exact World.cell?_setCell_same _ _ _ (by rw [o _ 1 2 _ (by omega), o _ 0 2 _ (by omega)]; exact h2)
theorem Mkr.start {E1 E2 : TypeId} {B : Nat} {w1 : World} {K : Nat} (hB : B ≤ w1.heap.size) : Mkr E1 B (w1.alloc (.cells #[.int .i64 K, .slice none 0 0] E2)) w1.heap.size K [] (.slice none 0 0) [] :=
  ⟨by simp [go_sem], by simp [go_sem], by simp [go_sem], Lst.nil _ _ _ _, by simp, hB, by simp⟩
/-- A made system: its kinds, its one cell, its rules. -/
theorem RetA.sys {B : Nat} {w wr w7 : World} {g K b : Nat} {rs : List Rul} {v : Value} {G : List Nat} (h : Mkr 173 B wr g K rs v G) (_hB : w.heap.size ≤ B) (hb : Below wr.heap.size wr w7) (hr : rs.length ≤ maxLen) (hc : w7.cell? ⟨b, 0, none⟩ = some (.int .i64 (-1))) (hf : w7.frozen? ⟨b, 0, none⟩ = false) (hbw : wr.heap.size ≤ b) :
    ∃ F, OwA w7 [.i K, dI [-1], dRul rs] [.int .i64 K, .slice (some ⟨b, 0, none⟩) 1 1, v] F ∧ F.Nodup ∧ ∀ x, x ∈ F → B ≤ x := by
  obtain ⟨G', h1, h2, h3⟩ := (h.lst.below hb).ow (by omega) hr
  have ho : Ow w7 (dI [-1]) (.slice (some ⟨b, 0, none⟩) 1 1) [b] := Ow_I.2 ⟨some ⟨b, 0, none⟩, 1, rfl, by simp, by simp [maxLen], .inr ⟨by simp, ⟨b, 0, rfl⟩, rfl⟩, fun i hi => by
    have : i = 0 := by simpa using hi
    subst this; simpa [adr, blk, ofs, nth] using hc, fun i hi => by
    have : i = 0 := by simpa using hi
    subst this; simpa [adr, blk, ofs] using hf⟩
  have hbB : B ≤ b := Nat.le_trans (Nat.le_trans h.hg.1 (Nat.le_of_lt h.hg.2)) hbw
  refine ⟨[] ++ ([b] ++ (G' ++ [])), ⟨[], _, ⟨rfl, rfl⟩, ⟨[b], _, ho, ⟨G', [], h1, rfl, rfl⟩, rfl⟩, rfl⟩, ?_, fun x hx => ?_⟩
  · simp only [List.nil_append, List.append_nil]
    exact List.nodup_append.2 ⟨by simp, h2, fun a ha c hc e => by
      have e1 : a = b := by simpa using ha
      subst e1; subst e
      have := (h.lst.lt _ (h3 _ hc)).2; omega⟩
  · simp only [List.nil_append, List.append_nil, List.mem_append, List.mem_singleton] at hx
    rcases hx with e | e
    · subst e; exact hbB
    · exact ((h.lst.lt _ (h3 _ e)).1)
set_option maxHeartbeats 4000000 in
set_option maxRecDepth 100000 in
theorem l05Made_c (R : Nat) (p : Nat) (ao : Option Addr) (co : Nat) (os : List Ord) (mode : Int) (w : World) (ho : SlO Any w ao os) (hp0 : w.cell? ⟨p, 0, none⟩ = some (.int .i64 R)) (hp1 : w.cell? ⟨p, 1, none⟩ = some (.slice ao os.length co)) (hpg : PgOk R os) (hm : 1 ≤ mode ∧ mode ≤ 3) :
    Calls Try.prog 127 #[.pointer (some ⟨p, 0, none⟩), .int .i64 mode] w (RetA w [.i (kindsN R os mode : Nat), dI [-1], dRul (rulesS R os mode)]) := by
  have HO := Lib.hid ho
  have zp := World.block_lt_of_cell? w _ hp0
  simp only at zp
  have HP0 : Hid (∀ {wx : World}, Below w.heap.size w wx → wx.cell? ⟨p, 0, none⟩ = some (.int .i64 R)) := Lib.hid fun h => (bcell1 h zp).trans hp0
  have HP1 : Hid (∀ {wx : World}, Below w.heap.size w wx → wx.cell? ⟨p, 1, none⟩ = some (.slice ao os.length co)) := Lib.hid fun h => (bcell1 h zp).trans hp1
  have h3 := hpg.r3
  have h1 := hpg.r1
  have h6 := hpg.n6
  have hn1 := hpg.n1
  have lo := ho.len
  unfold maxLen at lo
  have i1 := ixO ho co
  have HK := Lib.hid (fun wx (h : Below w.heap.size w wx) => l05Kinds_c R p ao co os mode wx (ho.below h) (HP0.out h) (HP1.out h) hpg)
  obtain ⟨hk1, hk2⟩ := kindsN_le hpg mode
  obtain ⟨K, hKe⟩ : ∃ K, K = kindsN R os mode := ⟨_, rfl⟩
  rw [← hKe] at HK hk1 hk2 ⊢
  have HKE := Lib.hid hKe
  have HPG := Lib.hid hpg
  have hKp : 0 < K := by omega
  have hwrK : IntKind.i64.wrap ((K : Int) - 1) = (K : Int) - 1 := by rw [IntKind.wrap_i64]; omega
  clear hKe hpg ho hp0 hp1
  go_enter Try.func127, Try.ntmps127
  go_wp2_with fail
  refine (HK.out _ (below_alloc _ _)).mono ?_
  rintro e w1 ⟨rfl, rfl⟩
  have HS0 : Hid (Mkr 173 (w.heap.size + 1) (((w.alloc (.cells #[.int .i64 0, .slice none 0 0, .slice none 0 0] 120)).alloc (.cells #[.int .i64 K, .slice none 0 0] 193)).alloc (.cells #[] 2)) (w.heap.size + 1) K (rulesTo R os mode K 0) (.slice none 0 0) []) := Lib.hid (by
    have := Mkr.start (E1 := 173) (E2 := 193) (B := w.heap.size + 1) (w1 := w.alloc (.cells #[.int .i64 0, .slice none 0 0, .slice none 0 0] 120)) (K := K) (by simp)
    rw [World.size_alloc] at this
    exact this.keep (below_alloc _ _))
  have HBA : Hid (Below (w.heap.size + 1) (w.alloc (.cells #[.int .i64 0, .slice none 0 0, .slice none 0 0] 120)) (((w.alloc (.cells #[.int .i64 0, .slice none 0 0, .slice none 0 0] 120)).alloc (.cells #[.int .i64 K, .slice none 0 0] 193)).alloc (.cells #[] 2))) := Lib.hid (((Below.refl _ _).alloc (by simp) _).alloc (by first | (simp; done) | (simp; omega)) _)
  have r1 : ∀ {wx : World}, Below w.heap.size w wx → wx.cell? ⟨p, 1, none⟩ = some (.slice ao os.length co) := HP1.out
  have q1 := HP1.out (Below.refl _ _)
  go_wp2
  go_loopw [7] (fun i wr => ∃ (k : Nat) (v : Value) (G : List Nat), k ≤ os.length ∧ i = .int .i64 k ∧ Mkr 173 (w.heap.size + 1) wr (w.heap.size + 1) K (rulesTo R os mode K k) v G ∧ Below (w.heap.size + 1) (w.alloc (.cells #[.int .i64 0, .slice none 0 0, .slice none 0 0] 120)) wr) (fun i _ => os.length - (intOf i).toNat)
  case atStart => exact ⟨0, _, _, Nat.zero_le _, rfl, HS0.out, HBA.out⟩
  case round =>
    obtain ⟨k, v, G, hk, rfl, hst, hbr⟩ := hrel
    clear HS0 HBA r1 q1
    have hbw : Below w.heap.size w wr := (below_alloc _ _).trans (hbr.mono (by omega))
    have zB : w.heap.size + 1 < wr.heap.size := hst.hg.2
    have q1 := HP1.out hbw
    have hlr := rulesTo_len R os mode K k
    by_cases hlt : k < os.length
    · have HOR := Lib.hid (HO.out.below hbw)
      have g0 := HOR.out.c0 k hlt
      have g1 := HOR.out.c1 k hlt
      have g2 := HOR.out.c2 k hlt
      have g3 := HOR.out.c3 k hlt
      have hAT := HPG.out.at hlt
      have HST := Lib.hid hst
      have HBR := Lib.hid hbr
      have HBW := Lib.hid hbw
      have hlt' : (k : Int) < os.length := by omega
      obtain ⟨wA, hwA⟩ : ∃ wz, wz = wr.alloc (.cells #[.int .i64 (nthO os k).op, .int .i64 (nthO os k).reg, .int .i64 (nthO os k).to, .int .i64 (nthO os k).els] 125) := ⟨_, rfl⟩
      have HIT : Hid (Sit (w.heap.size + 1) (w.alloc (.cells #[.int .i64 0, .slice none 0 0, .slice none 0 0] 120)) wA (w.heap.size + 1) K (rulesTo R os mode K k) v G wr.heap.size (nthO os k)) := Lib.hid (by
        rw [hwA]
        have al := below_alloc wr (.cells #[.int .i64 (nthO os k).op, .int .i64 (nthO os k).reg, .int .i64 (nthO os k).to, .int .i64 (nthO os k).els] 125)
        exact ⟨hst.keep al, by simp [go_sem], by simp [go_sem], by simp [go_sem], by simp [go_sem], fun e => by have := (hst.lst.lt _ e).2; omega, by omega, hbr.alloc (by omega) _⟩)
      have hlab : ∀ (at_ : Int), 0 ≤ at_ ∧ at_ ≤ 6 → Calls Try.prog 156 #[.pointer (some ⟨p, 0, none⟩), .int .i64 at_] wA (RetP wA (.int .i64 (R + at_))) := fun at_ h => l05Label_c R p at_ wA (HP0.out (by rw [hwA]; exact hbw.alloc hbw.size _)) (by omega) h
      have HLAB := Lib.hid hlab
      have HBA : Hid (Below w.heap.size w wA) := Lib.hid (by rw [hwA]; exact hbw.alloc hbw.size _)
      clear hst hbr hbw hlab
      have zA : w.heap.size + 1 < wA.heap.size := HIT.out.mr.hg.2
      have hrg : (0 : Int) ≤ (nthO os k).to ∧ (nthO os k).to ≤ 6 ∧ 0 ≤ (nthO os k).els ∧ (nthO os k).els ≤ 6 := by rcases hAT with h | h <;> omega
      go_wp2_with fail
      rw [← hwA]
      have HWA := Lib.hid hwA
      clear hwA g0 g1 g2 g3
      refine (HLAB.out k (by omega)).mono ?_
      rintro e w8 ⟨rfl, rfl⟩
      have bx0 := HIT.out.o0
      have bx1 := HIT.out.o1
      have bx2 := HIT.out.o2
      have bx3 := HIT.out.o3
      have zo : wr.heap.size < wA.heap.size := World.block_lt_of_cell? _ _ bx0
      clear q1
      have q1 := HP1.out HBA.out
      go_wp2_with fail
      refine (HLAB.out (nthO os k).to (by omega)).mono ?_
      rintro e w8 ⟨rfl, rfl⟩
      go_wp2_with fail
      refine (HLAB.out (nthO os k).els (by omega)).mono ?_
      rintro e w8 ⟨rfl, rfl⟩
      have hkk : subsTo os k ≤ subsTo os os.length := by have := subsTo_mono os k (os.length - k); rwa [show k + (os.length - k) = os.length by omega] at this
      have hsk := subsTo_le os os.length
      rcases hAT with ⟨hop, a1, a2, a3, a4, a5, a6⟩ | ⟨hop, _⟩
      · by_cases hp1 : (nthO os k).op = 1
        · have hq1 : ((nthO os k).op == 1) = true := by simpa using hp1
          by_cases hel : (nthO os k).els = (nthO os k).to
          · have hq2 : ((nthO os k).to == (nthO os k).els) = true := by simpa using hel.symm
            have HRS : Hid (rulesTo R os mode K (k + 1) = ((rulesTo R os mode K k) ++ [(rulK K 0 [((R : Int) + (k : Int))] [] [] [(nthO os k).reg, ((R : Int) + (nthO os k).to)])])) := Lib.hid (by rw [rulesTo, ordRules, if_pos hp1, if_pos hel] <;> simp)
            clear hp1 hel hop
            go_wp2_with fail
            refine Calls.mono (srule_c K (w.heap.size + 1) 0 (some ⟨wA.heap.size, 0, none⟩) (some ⟨w.heap.size + 1 + 1, 0, none⟩) (some ⟨w.heap.size + 1 + 1, 0, none⟩) (some ⟨wA.heap.size + 1, 0, none⟩) 1 0 0 2 [((R : Int) + (k : Int))] [] [] [(nthO os k).reg, ((R : Int) + (nthO os k).to)] (w.heap.size + 1) (rulesTo R os mode K k) v G ((wA.alloc (.cells #[.int .i64 ((R : Int) + (k : Int))] 2)).alloc (.cells #[.int .i64 (nthO os k).reg, .int .i64 ((R : Int) + (nthO os k).to)] 2)) (HIT.out.keep (below_al (below_alloc _ _) _)).mr (by (try simp); omega) (SlI.one (by simp [go_sem])) (SlI.nil0 _ _) (SlI.nil0 _ _) (SlI.two (by simp [go_sem]) (by simp [go_sem])) (by simp) (by simp) (by simp) (by simp) (rng1 (by omega)) (by simp) (by simp) (rng2 (by omega) (by omega)) hk2 (by (try simp); omega)) ?_
            rintro e w21 ⟨gl21, cl21, G21, rfl, hN⟩
            have HIT21 := Lib.hid ((HIT.out.keep (below_al (below_alloc _ _) _)).rule hN)
            clear hN
            clear bx0 bx1 bx2 bx3 zA zo q1
            have bx0 := HIT21.out.o0
            have bx1 := HIT21.out.o1
            have bx2 := HIT21.out.o2
            have bx3 := HIT21.out.o3
            have zA : w.heap.size + 1 < w21.heap.size := HIT21.out.mr.hg.2
            have zo : wr.heap.size < w21.heap.size := World.block_lt_of_cell? _ _ bx0
            have q1 := HP1.out ((below_alloc w (.cells #[.int .i64 0, .slice none 0 0, .slice none 0 0] 120)).trans (HIT21.out.hb.mono (by omega)))
            go_wp2
            go_roundw
            case rel => exact ⟨k + 1, _, _, by omega, by go_num, by rw [HRS.out]; exact HIT21.out.mr, HIT21.out.hb⟩
            case measure => simp [intOf]; omega
          · have hq2 : ((nthO os k).to == (nthO os k).els) = false := by simpa using fun e => hel (Eq.symm e)
            have HRS : Hid (rulesTo R os mode K (k + 1) = (((rulesTo R os mode K k) ++ [(rulK K 0 [((R : Int) + (k : Int))] [] [] [(nthO os k).reg, ((R : Int) + (nthO os k).to)])]) ++ [(rulK K 0 [((R : Int) + (k : Int))] [] [] [(nthO os k).reg, ((R : Int) + (nthO os k).els)])])) := Lib.hid (by rw [rulesTo, ordRules, if_pos hp1, if_neg hel] <;> simp)
            clear hp1 hel hop
            go_wp2_with fail
            refine Calls.mono (srule_c K (w.heap.size + 1) 0 (some ⟨wA.heap.size, 0, none⟩) (some ⟨w.heap.size + 1 + 1, 0, none⟩) (some ⟨w.heap.size + 1 + 1, 0, none⟩) (some ⟨wA.heap.size + 1, 0, none⟩) 1 0 0 2 [((R : Int) + (k : Int))] [] [] [(nthO os k).reg, ((R : Int) + (nthO os k).to)] (w.heap.size + 1) (rulesTo R os mode K k) v G ((wA.alloc (.cells #[.int .i64 ((R : Int) + (k : Int))] 2)).alloc (.cells #[.int .i64 (nthO os k).reg, .int .i64 ((R : Int) + (nthO os k).to)] 2)) (HIT.out.keep (below_al (below_alloc _ _) _)).mr (by (try simp); omega) (SlI.one (by simp [go_sem])) (SlI.nil0 _ _) (SlI.nil0 _ _) (SlI.two (by simp [go_sem]) (by simp [go_sem])) (by simp) (by simp) (by simp) (by simp) (rng1 (by omega)) (by simp) (by simp) (rng2 (by omega) (by omega)) hk2 (by (try simp); omega)) ?_
            rintro e w22 ⟨gl22, cl22, G22, rfl, hN⟩
            have HIT22 := Lib.hid ((HIT.out.keep (below_al (below_alloc _ _) _)).rule hN)
            clear hN
            clear bx0 bx1 bx2 bx3 zA zo q1
            have bx0 := HIT22.out.o0
            have bx1 := HIT22.out.o1
            have bx2 := HIT22.out.o2
            have bx3 := HIT22.out.o3
            have zA : w.heap.size + 1 < w22.heap.size := HIT22.out.mr.hg.2
            have zo : wr.heap.size < w22.heap.size := World.block_lt_of_cell? _ _ bx0
            have q1 := HP1.out ((below_alloc w (.cells #[.int .i64 0, .slice none 0 0, .slice none 0 0] 120)).trans (HIT22.out.hb.mono (by omega)))
            go_wp2_with fail
            refine Calls.mono (srule_c K (w.heap.size + 1) 0 (some ⟨w22.heap.size, 0, none⟩) (some ⟨w.heap.size + 1 + 1, 0, none⟩) (some ⟨w.heap.size + 1 + 1, 0, none⟩) (some ⟨w22.heap.size + 1, 0, none⟩) 1 0 0 2 [((R : Int) + (k : Int))] [] [] [(nthO os k).reg, ((R : Int) + (nthO os k).els)] (w.heap.size + 1) ((rulesTo R os mode K k) ++ [(rulK K 0 [((R : Int) + (k : Int))] [] [] [(nthO os k).reg, ((R : Int) + (nthO os k).to)])]) (.slice (some ⟨gl22, 0, none⟩) ((rulesTo R os mode K k).length + 1) cl22) G22 ((w22.alloc (.cells #[.int .i64 ((R : Int) + (k : Int))] 2)).alloc (.cells #[.int .i64 (nthO os k).reg, .int .i64 ((R : Int) + (nthO os k).els)] 2)) (HIT22.out.keep (below_al (below_alloc _ _) _)).mr (by (try simp); omega) (SlI.one (by simp [go_sem])) (SlI.nil0 _ _) (SlI.nil0 _ _) (SlI.two (by simp [go_sem]) (by simp [go_sem])) (by simp) (by simp) (by simp) (by simp) (rng1 (by omega)) (by simp) (by simp) (rng2 (by omega) (by omega)) hk2 (by (try simp); omega)) ?_
            rintro e w23 ⟨gl23, cl23, G23, rfl, hN⟩
            have HIT23 := Lib.hid ((HIT22.out.keep (below_al (below_alloc _ _) _)).rule hN)
            clear hN
            clear bx0 bx1 bx2 bx3 zA zo q1
            have bx0 := HIT23.out.o0
            have bx1 := HIT23.out.o1
            have bx2 := HIT23.out.o2
            have bx3 := HIT23.out.o3
            have zA : w.heap.size + 1 < w23.heap.size := HIT23.out.mr.hg.2
            have zo : wr.heap.size < w23.heap.size := World.block_lt_of_cell? _ _ bx0
            have q1 := HP1.out ((below_alloc w (.cells #[.int .i64 0, .slice none 0 0, .slice none 0 0] 120)).trans (HIT23.out.hb.mono (by omega)))
            go_wp2
            go_roundw
            case rel => exact ⟨k + 1, _, _, by omega, by go_num, by rw [HRS.out]; exact HIT23.out.mr, HIT23.out.hb⟩
            case measure => simp [intOf]; omega
        · have hq1 : ((nthO os k).op == 1) = false := by simpa using hp1
          have hp2 : (nthO os k).op = 2 := by rcases hop with h | h; exact absurd h hp1; exact h
          have hq2 : ((nthO os k).op == 3) = false := by rw [hp2]; rfl
          by_cases hm1 : mode = 1
          · have hr1 : (mode == 1) = true := by simpa using hm1
            have HRS : Hid (rulesTo R os mode K (k + 1) = (((rulesTo R os mode K k) ++ [(rulK K 1 [((R : Int) + (k : Int)), (nthO os k).reg] [] [] [((R : Int) + (nthO os k).to)])]) ++ [(rulK K 0 [((R : Int) + (k : Int))] [] [] [((R : Int) + (nthO os k).els)])])) := Lib.hid (by rw [rulesTo, ordRules, if_neg hp1, if_pos hp2, if_pos hm1] <;> simp)
            clear hp1 hp2 hm1 hop
            go_wp2_with fail
            refine Calls.mono (srule_c K (w.heap.size + 1) 1 (some ⟨wA.heap.size, 0, none⟩) (some ⟨w.heap.size + 1 + 1, 0, none⟩) (some ⟨w.heap.size + 1 + 1, 0, none⟩) (some ⟨wA.heap.size + 1, 0, none⟩) 2 0 0 1 [((R : Int) + (k : Int)), (nthO os k).reg] [] [] [((R : Int) + (nthO os k).to)] (w.heap.size + 1) (rulesTo R os mode K k) v G ((wA.alloc (.cells #[.int .i64 ((R : Int) + (k : Int)), .int .i64 (nthO os k).reg] 2)).alloc (.cells #[.int .i64 ((R : Int) + (nthO os k).to)] 2)) (HIT.out.keep (below_al (below_alloc _ _) _)).mr (by (try simp); omega) (SlI.two (by simp [go_sem]) (by simp [go_sem])) (SlI.nil0 _ _) (SlI.nil0 _ _) (SlI.one (by simp [go_sem])) (by simp) (by simp) (by simp) (by simp) (rng2 (by omega) (by omega)) (by simp) (by simp) (rng1 (by omega)) hk2 (by (try simp); omega)) ?_
            rintro e w24 ⟨gl24, cl24, G24, rfl, hN⟩
            have HIT24 := Lib.hid ((HIT.out.keep (below_al (below_alloc _ _) _)).rule hN)
            clear hN
            clear bx0 bx1 bx2 bx3 zA zo q1
            have bx0 := HIT24.out.o0
            have bx1 := HIT24.out.o1
            have bx2 := HIT24.out.o2
            have bx3 := HIT24.out.o3
            have zA : w.heap.size + 1 < w24.heap.size := HIT24.out.mr.hg.2
            have zo : wr.heap.size < w24.heap.size := World.block_lt_of_cell? _ _ bx0
            have q1 := HP1.out ((below_alloc w (.cells #[.int .i64 0, .slice none 0 0, .slice none 0 0] 120)).trans (HIT24.out.hb.mono (by omega)))
            go_wp2_with fail
            refine Calls.mono (srule_c K (w.heap.size + 1) 0 (some ⟨w24.heap.size, 0, none⟩) (some ⟨w.heap.size + 1 + 1, 0, none⟩) (some ⟨w.heap.size + 1 + 1, 0, none⟩) (some ⟨w24.heap.size + 1, 0, none⟩) 1 0 0 1 [((R : Int) + (k : Int))] [] [] [((R : Int) + (nthO os k).els)] (w.heap.size + 1) ((rulesTo R os mode K k) ++ [(rulK K 1 [((R : Int) + (k : Int)), (nthO os k).reg] [] [] [((R : Int) + (nthO os k).to)])]) (.slice (some ⟨gl24, 0, none⟩) ((rulesTo R os mode K k).length + 1) cl24) G24 ((w24.alloc (.cells #[.int .i64 ((R : Int) + (k : Int))] 2)).alloc (.cells #[.int .i64 ((R : Int) + (nthO os k).els)] 2)) (HIT24.out.keep (below_al (below_alloc _ _) _)).mr (by (try simp); omega) (SlI.one (by simp [go_sem])) (SlI.nil0 _ _) (SlI.nil0 _ _) (SlI.one (by simp [go_sem])) (by simp) (by simp) (by simp) (by simp) (rng1 (by omega)) (by simp) (by simp) (rng1 (by omega)) hk2 (by (try simp); omega)) ?_
            rintro e w25 ⟨gl25, cl25, G25, rfl, hN⟩
            have HIT25 := Lib.hid ((HIT24.out.keep (below_al (below_alloc _ _) _)).rule hN)
            clear hN
            clear bx0 bx1 bx2 bx3 zA zo q1
            have bx0 := HIT25.out.o0
            have bx1 := HIT25.out.o1
            have bx2 := HIT25.out.o2
            have bx3 := HIT25.out.o3
            have zA : w.heap.size + 1 < w25.heap.size := HIT25.out.mr.hg.2
            have zo : wr.heap.size < w25.heap.size := World.block_lt_of_cell? _ _ bx0
            have q1 := HP1.out ((below_alloc w (.cells #[.int .i64 0, .slice none 0 0, .slice none 0 0] 120)).trans (HIT25.out.hb.mono (by omega)))
            go_wp2
            go_roundw
            case rel => exact ⟨k + 1, _, _, by omega, by go_num, by rw [HRS.out]; exact HIT25.out.mr, HIT25.out.hb⟩
            case measure => simp [intOf]; omega
          · have hr1 : (mode == 1) = false := by simpa using hm1
            by_cases hm2 : mode = 2
            · have hr2 : (mode == 2) = true := by simpa using hm2
              have HRS : Hid (rulesTo R os mode K (k + 1) = (((rulesTo R os mode K k) ++ [(rulK K 0 [((R : Int) + (k : Int)), (nthO os k).reg] [] [] [((R : Int) + (nthO os k).to)])]) ++ [(rulK K 0 [((R : Int) + (k : Int))] [] [(nthO os k).reg] [((R : Int) + (nthO os k).els)])])) := Lib.hid (by rw [rulesTo, ordRules, if_neg hp1, if_pos hp2, if_neg hm1, if_pos hm2] <;> simp)
              clear hp1 hp2 hm1 hm2 hop
              go_wp2_with fail
              refine Calls.mono (srule_c K (w.heap.size + 1) 0 (some ⟨wA.heap.size, 0, none⟩) (some ⟨w.heap.size + 1 + 1, 0, none⟩) (some ⟨w.heap.size + 1 + 1, 0, none⟩) (some ⟨wA.heap.size + 1, 0, none⟩) 2 0 0 1 [((R : Int) + (k : Int)), (nthO os k).reg] [] [] [((R : Int) + (nthO os k).to)] (w.heap.size + 1) (rulesTo R os mode K k) v G ((wA.alloc (.cells #[.int .i64 ((R : Int) + (k : Int)), .int .i64 (nthO os k).reg] 2)).alloc (.cells #[.int .i64 ((R : Int) + (nthO os k).to)] 2)) (HIT.out.keep (below_al (below_alloc _ _) _)).mr (by (try simp); omega) (SlI.two (by simp [go_sem]) (by simp [go_sem])) (SlI.nil0 _ _) (SlI.nil0 _ _) (SlI.one (by simp [go_sem])) (by simp) (by simp) (by simp) (by simp) (rng2 (by omega) (by omega)) (by simp) (by simp) (rng1 (by omega)) hk2 (by (try simp); omega)) ?_
              rintro e w26 ⟨gl26, cl26, G26, rfl, hN⟩
              have HIT26 := Lib.hid ((HIT.out.keep (below_al (below_alloc _ _) _)).rule hN)
              clear hN
              clear bx0 bx1 bx2 bx3 zA zo q1
              have bx0 := HIT26.out.o0
              have bx1 := HIT26.out.o1
              have bx2 := HIT26.out.o2
              have bx3 := HIT26.out.o3
              have zA : w.heap.size + 1 < w26.heap.size := HIT26.out.mr.hg.2
              have zo : wr.heap.size < w26.heap.size := World.block_lt_of_cell? _ _ bx0
              have q1 := HP1.out ((below_alloc w (.cells #[.int .i64 0, .slice none 0 0, .slice none 0 0] 120)).trans (HIT26.out.hb.mono (by omega)))
              go_wp2_with fail
              refine Calls.mono (srule_c K (w.heap.size + 1) 0 (some ⟨w26.heap.size, 0, none⟩) (some ⟨w.heap.size + 1 + 1, 0, none⟩) (some ⟨w26.heap.size + 1, 0, none⟩) (some ⟨w26.heap.size + 2, 0, none⟩) 1 0 1 1 [((R : Int) + (k : Int))] [] [(nthO os k).reg] [((R : Int) + (nthO os k).els)] (w.heap.size + 1) ((rulesTo R os mode K k) ++ [(rulK K 0 [((R : Int) + (k : Int)), (nthO os k).reg] [] [] [((R : Int) + (nthO os k).to)])]) (.slice (some ⟨gl26, 0, none⟩) ((rulesTo R os mode K k).length + 1) cl26) G26 (((w26.alloc (.cells #[.int .i64 ((R : Int) + (k : Int))] 2)).alloc (.cells #[.int .i64 (nthO os k).reg] 2)).alloc (.cells #[.int .i64 ((R : Int) + (nthO os k).els)] 2)) (HIT26.out.keep (below_al (below_al (below_alloc _ _) _) _)).mr (by (try simp); omega) (SlI.one (by simp [go_sem])) (SlI.nil0 _ _) (SlI.one (by simp [go_sem])) (SlI.one (by simp [go_sem])) (by simp) (by simp) (by simp) (by simp) (rng1 (by omega)) (by simp) (rng1 (by omega)) (rng1 (by omega)) hk2 (by (try simp); omega)) ?_
              rintro e w27 ⟨gl27, cl27, G27, rfl, hN⟩
              have HIT27 := Lib.hid ((HIT26.out.keep (below_al (below_al (below_alloc _ _) _) _)).rule hN)
              clear hN
              clear bx0 bx1 bx2 bx3 zA zo q1
              have bx0 := HIT27.out.o0
              have bx1 := HIT27.out.o1
              have bx2 := HIT27.out.o2
              have bx3 := HIT27.out.o3
              have zA : w.heap.size + 1 < w27.heap.size := HIT27.out.mr.hg.2
              have zo : wr.heap.size < w27.heap.size := World.block_lt_of_cell? _ _ bx0
              have q1 := HP1.out ((below_alloc w (.cells #[.int .i64 0, .slice none 0 0, .slice none 0 0] 120)).trans (HIT27.out.hb.mono (by omega)))
              go_wp2
              go_roundw
              case rel => exact ⟨k + 1, _, _, by omega, by go_num, by rw [HRS.out]; exact HIT27.out.mr, HIT27.out.hb⟩
              case measure => simp [intOf]; omega
            · have hr2 : (mode == 2) = false := by simpa using hm2
              have hr3 : (mode == 3) = true := by simp; omega
              have HRS : Hid (rulesTo R os mode K (k + 1) = (((((rulesTo R os mode K k) ++ [(rulK K 0 [((R : Int) + (k : Int)), (nthO os k).reg] [] [] [((R : Int) + (nthO os k).to)])]) ++ [(rulK K 0 [((R : Int) + (k : Int))] [] [] [((R : Int) + os.length + 1 + (subsTo os k : Nat))])]) ++ [(rulK K 0 [((R : Int) + os.length + 1 + (subsTo os k : Nat))] [] [] [((R : Int) + (nthO os k).els)])]) ++ [(rulK K 0 [(nthO os k).reg] [((R : Int) + os.length + 1 + (subsTo os k : Nat))] [] [((K : Int) - 1)])])) := Lib.hid (by rw [rulesTo, ordRules, if_neg hp1, if_pos hp2, if_neg hm1, if_neg hm2] <;> simp)
              have hwK : R + os.length + 1 + subsTo os k < K := by have := HKE.out; rw [this, kindsN, if_pos (show mode = 3 by omega)]; omega
              clear hp1 hp2 hm1 hm2 hop
              go_wp2_with fail
              refine (l05Label_c R p os.length _ (HP0.out ((below_alloc w (.cells #[.int .i64 0, .slice none 0 0, .slice none 0 0] 120)).trans (HIT.out.hb.mono (by omega)))) (by omega) (by omega)).mono ?_
              rintro e w7 ⟨rfl, rfl⟩
              go_wp2_with fail
              refine (l05Waits_c p ao co os k _ (HO.out.below ((below_alloc w (.cells #[.int .i64 0, .slice none 0 0, .slice none 0 0] 120)).trans (HIT.out.hb.mono (by omega)))) q1 (by omega) h6).mono ?_
              rintro e w7 ⟨rfl, rfl⟩
              go_wp2_with fail
              refine Calls.mono (srule_c K (w.heap.size + 1) 0 (some ⟨wA.heap.size, 0, none⟩) (some ⟨w.heap.size + 1 + 1, 0, none⟩) (some ⟨w.heap.size + 1 + 1, 0, none⟩) (some ⟨wA.heap.size + 1, 0, none⟩) 2 0 0 1 [((R : Int) + (k : Int)), (nthO os k).reg] [] [] [((R : Int) + (nthO os k).to)] (w.heap.size + 1) (rulesTo R os mode K k) v G ((wA.alloc (.cells #[.int .i64 ((R : Int) + (k : Int)), .int .i64 (nthO os k).reg] 2)).alloc (.cells #[.int .i64 ((R : Int) + (nthO os k).to)] 2)) (HIT.out.keep (below_al (below_alloc _ _) _)).mr (by (try simp); omega) (SlI.two (by simp [go_sem]) (by simp [go_sem])) (SlI.nil0 _ _) (SlI.nil0 _ _) (SlI.one (by simp [go_sem])) (by simp) (by simp) (by simp) (by simp) (rng2 (by omega) (by omega)) (by simp) (by simp) (rng1 (by omega)) hk2 (by (try simp); omega)) ?_
              rintro e w28 ⟨gl28, cl28, G28, rfl, hN⟩
              have HIT28 := Lib.hid ((HIT.out.keep (below_al (below_alloc _ _) _)).rule hN)
              clear hN
              clear bx0 bx1 bx2 bx3 zA zo q1
              have bx0 := HIT28.out.o0
              have bx1 := HIT28.out.o1
              have bx2 := HIT28.out.o2
              have bx3 := HIT28.out.o3
              have zA : w.heap.size + 1 < w28.heap.size := HIT28.out.mr.hg.2
              have zo : wr.heap.size < w28.heap.size := World.block_lt_of_cell? _ _ bx0
              have q1 := HP1.out ((below_alloc w (.cells #[.int .i64 0, .slice none 0 0, .slice none 0 0] 120)).trans (HIT28.out.hb.mono (by omega)))
              go_wp2_with fail
              refine Calls.mono (srule_c K (w.heap.size + 1) 0 (some ⟨w28.heap.size, 0, none⟩) (some ⟨w.heap.size + 1 + 1, 0, none⟩) (some ⟨w.heap.size + 1 + 1, 0, none⟩) (some ⟨w28.heap.size + 1, 0, none⟩) 1 0 0 1 [((R : Int) + (k : Int))] [] [] [((R : Int) + os.length + 1 + (subsTo os k : Nat))] (w.heap.size + 1) ((rulesTo R os mode K k) ++ [(rulK K 0 [((R : Int) + (k : Int)), (nthO os k).reg] [] [] [((R : Int) + (nthO os k).to)])]) (.slice (some ⟨gl28, 0, none⟩) ((rulesTo R os mode K k).length + 1) cl28) G28 ((w28.alloc (.cells #[.int .i64 ((R : Int) + (k : Int))] 2)).alloc (.cells #[.int .i64 ((R : Int) + os.length + 1 + (subsTo os k : Nat))] 2)) (HIT28.out.keep (below_al (below_alloc _ _) _)).mr (by (try simp); omega) (SlI.one (by simp [go_sem])) (SlI.nil0 _ _) (SlI.nil0 _ _) (SlI.one (by simp [go_sem])) (by simp) (by simp) (by simp) (by simp) (rng1 (by omega)) (by simp) (by simp) (rng1 (by omega)) hk2 (by (try simp); omega)) ?_
              rintro e w29 ⟨gl29, cl29, G29, rfl, hN⟩
              have HIT29 := Lib.hid ((HIT28.out.keep (below_al (below_alloc _ _) _)).rule hN)
              clear hN
              clear bx0 bx1 bx2 bx3 zA zo q1
              have bx0 := HIT29.out.o0
              have bx1 := HIT29.out.o1
              have bx2 := HIT29.out.o2
              have bx3 := HIT29.out.o3
              have zA : w.heap.size + 1 < w29.heap.size := HIT29.out.mr.hg.2
              have zo : wr.heap.size < w29.heap.size := World.block_lt_of_cell? _ _ bx0
              have q1 := HP1.out ((below_alloc w (.cells #[.int .i64 0, .slice none 0 0, .slice none 0 0] 120)).trans (HIT29.out.hb.mono (by omega)))
              go_wp2_with fail
              refine Calls.mono (srule_c K (w.heap.size + 1) 0 (some ⟨w29.heap.size, 0, none⟩) (some ⟨w.heap.size + 1 + 1, 0, none⟩) (some ⟨w.heap.size + 1 + 1, 0, none⟩) (some ⟨w29.heap.size + 1, 0, none⟩) 1 0 0 1 [((R : Int) + os.length + 1 + (subsTo os k : Nat))] [] [] [((R : Int) + (nthO os k).els)] (w.heap.size + 1) (((rulesTo R os mode K k) ++ [(rulK K 0 [((R : Int) + (k : Int)), (nthO os k).reg] [] [] [((R : Int) + (nthO os k).to)])]) ++ [(rulK K 0 [((R : Int) + (k : Int))] [] [] [((R : Int) + os.length + 1 + (subsTo os k : Nat))])]) (.slice (some ⟨gl29, 0, none⟩) (((rulesTo R os mode K k) ++ [(rulK K 0 [((R : Int) + (k : Int)), (nthO os k).reg] [] [] [((R : Int) + (nthO os k).to)])]).length + 1) cl29) G29 ((w29.alloc (.cells #[.int .i64 ((R : Int) + os.length + 1 + (subsTo os k : Nat))] 2)).alloc (.cells #[.int .i64 ((R : Int) + (nthO os k).els)] 2)) (HIT29.out.keep (below_al (below_alloc _ _) _)).mr (by (try simp); omega) (SlI.one (by simp [go_sem])) (SlI.nil0 _ _) (SlI.nil0 _ _) (SlI.one (by simp [go_sem])) (by simp) (by simp) (by simp) (by simp) (rng1 (by omega)) (by simp) (by simp) (rng1 (by omega)) hk2 (by (try simp); omega)) ?_
              rintro e w30 ⟨gl30, cl30, G30, rfl, hN⟩
              have HIT30 := Lib.hid ((HIT29.out.keep (below_al (below_alloc _ _) _)).rule hN)
              clear hN
              clear bx0 bx1 bx2 bx3 zA zo q1
              have bx0 := HIT30.out.o0
              have bx1 := HIT30.out.o1
              have bx2 := HIT30.out.o2
              have bx3 := HIT30.out.o3
              have zA : w.heap.size + 1 < w30.heap.size := HIT30.out.mr.hg.2
              have zo : wr.heap.size < w30.heap.size := World.block_lt_of_cell? _ _ bx0
              have q1 := HP1.out ((below_alloc w (.cells #[.int .i64 0, .slice none 0 0, .slice none 0 0] 120)).trans (HIT30.out.hb.mono (by omega)))
              clear bx0 bx1 bx2 bx3 zA zo q1
              have zA : w.heap.size + 1 < w30.heap.size := HIT30.out.mr.hg.2
              have hs0 : w30.drew.cell? ⟨wr.heap.size, 1, none⟩ = some (.int .i64 (nthO os k).reg) ∧ w30.drew.cell? ⟨w.heap.size + 1, 0, none⟩ = some (.int .i64 K) := ⟨HIT30.out.o1, HIT30.out.mr.c0⟩
              go_wp2
              have HRUN := Lib.hid (callFunc_run Try.func157 (by kernel_rfl) rfl)
              have hkp : ∀ wz, Below w30.heap.size w30 wz → wz.cell? ⟨wr.heap.size, 1, none⟩ = some (.int .i64 (nthO os k).reg) ∧ wz.cell? ⟨w.heap.size + 1, 0, none⟩ = some (.int .i64 K) := fun wz h => ⟨(bcell1 h (World.block_lt_of_cell? _ _ hs0.1)).trans hs0.1, (bcell1 h (World.block_lt_of_cell? _ _ hs0.2)).trans hs0.2⟩
              refine wp_region_C (n := 14) (l := #[false, false, false, false, false, false, false, false, false, false, false, false, false, false]) (fun wx => wx.cell? ⟨wr.heap.size, 1, none⟩ = some (.int .i64 (nthO os k).reg) ∧ wx.cell? ⟨w.heap.size + 1, 0, none⟩ = some (.int .i64 K)) [13] (by kernel_rfl) rfl rfl ?_
              refine wpC_take (i := 0) (v := ?v0_1) (l' := #[true, false, false, false, false, false, false, false, false, false, false, false, false, false]) [13] rfl (by kernel_rfl) (by kernel_rfl) (by kernel_rfl) (by kernel_rfl) (by kernel_rfl) rfl (fun _ _ _ h => h) (by rfl) (fun wx hS => ?q0_1) (by assumption) ?_
              case q0_1 => (go_simp; try with_reducible rfl)
              try simp only [List.getElem_toArray, List.getElem_cons_zero, Act.put, List.setIfInBounds_toArray, List.set_cons_zero, List.set_cons_succ]
              refine wpC_take (i := 1) (v := ?v1_2) (l' := #[true, true, false, false, false, false, false, false, false, false, false, false, false, false]) [2, 3, 13] rfl (by kernel_rfl) (by kernel_rfl) (by kernel_rfl) (by kernel_rfl) (by kernel_rfl) rfl (fun _ _ _ h => h) (by rfl) (fun wx hS => ?q1_2) (by assumption) ?_
              case q1_2 => (go_simp; try with_reducible rfl)
              try simp only [List.getElem_toArray, List.getElem_cons_succ, List.getElem_cons_zero, Act.put, List.setIfInBounds_toArray, List.set_cons_zero, List.set_cons_succ]
              refine wpC_take (i := 2) (v := ?v2_3) (l' := #[true, true, true, false, false, false, false, false, false, false, false, false, false, false]) [3, 13] rfl (by kernel_rfl) (by kernel_rfl) (by kernel_rfl) (by kernel_rfl) (by kernel_rfl) rfl (fun _ _ _ h => h) (by rfl) (fun wx hS => ?q2_3) (by assumption) ?_
              case q2_3 => ((try dsimp only at hS); obtain ⟨hS1, hS2⟩ := hS; go_simp; try with_reducible rfl)
              try simp only [List.getElem_toArray, List.getElem_cons_succ, List.getElem_cons_zero, Act.put, List.setIfInBounds_toArray, List.set_cons_zero, List.set_cons_succ]
              refine wpC_take (i := 4) (v := ?v4_4) (l' := #[true, true, true, false, true, false, false, false, false, false, false, false, false, false]) [5, 13] rfl (by kernel_rfl) (by kernel_rfl) (by kernel_rfl) (by kernel_rfl) (by kernel_rfl) rfl (fun _ _ _ h => h) (by rfl) (fun wx hS => ?q4_4) (by assumption) ?_
              case q4_4 => (go_simp; try with_reducible rfl)
              try simp only [List.getElem_toArray, List.getElem_cons_succ, List.getElem_cons_zero, Act.put, List.setIfInBounds_toArray, List.set_cons_zero, List.set_cons_succ]
              refine wpC_take (i := 6) (v := ?v6_5) (l' := #[true, true, true, false, true, false, true, false, false, false, false, false, false, false]) [13] rfl (by kernel_rfl) (by kernel_rfl) (by kernel_rfl) (by kernel_rfl) (by kernel_rfl) rfl (fun _ _ _ h => h) (by rfl) (fun wx hS => ?q6_5) (by assumption) ?_
              case q6_5 => (go_simp; try with_reducible rfl)
              try simp only [List.getElem_toArray, List.getElem_cons_succ, List.getElem_cons_zero, Act.put, List.setIfInBounds_toArray, List.set_cons_zero, List.set_cons_succ]
              refine wpC_take (i := 7) (v := ?v7_6) (l' := #[true, true, true, false, true, false, true, true, false, false, false, false, false, false]) [8, 9, 10, 11, 12, 13] rfl (by kernel_rfl) (by kernel_rfl) (by kernel_rfl) (by kernel_rfl) (by kernel_rfl) rfl (fun _ _ _ h => h) (by rfl) (fun wx hS => ?q7_6) (by assumption) ?_
              case q7_6 => (go_simp; try with_reducible rfl)
              try simp only [List.getElem_toArray, List.getElem_cons_succ, List.getElem_cons_zero, Act.put, List.setIfInBounds_toArray, List.set_cons_zero, List.set_cons_succ]
              refine wpC_take (i := 8) (v := ?v8_7) (l' := #[true, true, true, false, true, false, true, true, true, false, false, false, false, false]) [9, 10, 11, 12, 13] rfl (by kernel_rfl) (by kernel_rfl) (by kernel_rfl) (by kernel_rfl) (by kernel_rfl) rfl (fun _ _ _ h => h) (by rfl) (fun wx hS => ?q8_7) (by assumption) ?_
              case q8_7 => (go_simp; try with_reducible rfl)
              try simp only [List.getElem_toArray, List.getElem_cons_succ, List.getElem_cons_zero, Act.put, List.setIfInBounds_toArray, List.set_cons_zero, List.set_cons_succ]
              refine wpC_take (i := 9) (v := ?v9_8) (l' := #[true, true, true, false, true, false, true, true, true, true, false, false, false, false]) [10, 11, 12, 13] rfl (by kernel_rfl) (by kernel_rfl) (by kernel_rfl) (by kernel_rfl) (by kernel_rfl) rfl (fun _ _ _ h => h) (by rfl) (fun wx hS => ?q9_8) (by assumption) ?_
              case q9_8 => (go_simp; try with_reducible rfl)
              try simp only [List.getElem_toArray, List.getElem_cons_succ, List.getElem_cons_zero, Act.put, List.setIfInBounds_toArray, List.set_cons_zero, List.set_cons_succ]
              refine wpC_take (i := 10) (v := ?v10_9) (l' := #[true, true, true, false, true, false, true, true, true, true, true, false, false, false]) [11, 12, 13] rfl (by kernel_rfl) (by kernel_rfl) (by kernel_rfl) (by kernel_rfl) (by kernel_rfl) rfl (fun _ _ _ h => h) (by rfl) (fun wx hS => ?q10_9) (by assumption) ?_
              case q10_9 => ((try dsimp only at hS); obtain ⟨hS1, hS2⟩ := hS; go_simp; try with_reducible rfl)
              try simp only [List.getElem_toArray, List.getElem_cons_succ, List.getElem_cons_zero, Act.put, List.setIfInBounds_toArray, List.set_cons_zero, List.set_cons_succ]
              refine wpC_take (i := 11) (v := ?v11_10) (l' := #[true, true, true, false, true, false, true, true, true, true, true, true, false, false]) [12, 13] rfl (by kernel_rfl) (by kernel_rfl) (by kernel_rfl) (by kernel_rfl) (by kernel_rfl) rfl (fun _ _ _ h => h) (by rfl) (fun wx hS => ?q11_10) (by assumption) ?_
              case q11_10 => (go_simp; try with_reducible rfl)
              try simp only [List.getElem_toArray, List.getElem_cons_succ, List.getElem_cons_zero, Act.put, List.setIfInBounds_toArray, List.set_cons_zero, List.set_cons_succ]
              refine wpC_three (i := 3) (j := 5) (m := 12) (l1 := #[true, true, true, true, true, false, true, true, true, true, true, true, false, false]) (l2 := #[true, true, true, false, true, true, true, true, true, true, true, true, false, false]) (l3 := #[true, true, true, false, true, false, true, true, true, true, true, true, true, false]) (by kernel_rfl) rfl rfl rfl rfl rfl rfl (by rfl) (by rfl) (by rfl) (fun Kr hKr => ?_) (fun Kr hKr => ?_) (fun Kr hKr => ?_)
              · go_simp
                refine hKr _ _ (fun _ => hkp _ ((below_dr (below_alloc _ _)))) ?_
                clear hKr Kr
                try simp only [List.getElem_toArray, List.getElem_cons_succ, List.getElem_cons_zero, Act.put, List.setIfInBounds_toArray, List.set_cons_zero, List.set_cons_succ]
                refine wpC_two (i := 5) (j := 12) (l' := #[true, true, true, true, true, true, true, true, true, true, true, true, false, false]) (l'' := #[true, true, true, true, true, false, true, true, true, true, true, true, true, false]) (by kernel_rfl) rfl rfl rfl rfl (by rfl) (by rfl) (fun Kr hKr => ?_) (fun Kr hKr => ?_)
                · go_simp
                  refine hKr _ _ (fun _ => hkp _ ((below_dr (below_al (below_alloc _ _) _)))) ?_
                  clear hKr Kr
                  try simp only [List.getElem_toArray, List.getElem_cons_succ, List.getElem_cons_zero, Act.put, List.setIfInBounds_toArray, List.set_cons_zero, List.set_cons_succ]
                  refine wpC_one (i := 12) (l' := #[true, true, true, true, true, true, true, true, true, true, true, true, true, false]) (by kernel_rfl) rfl rfl (by rfl) (fun Kr hKr => ?_)
                  go_simp
                  refine hKr _ _ (fun _ => hkp _ ((below_dr (below_al (below_al (below_alloc _ _) _) _)))) ?_
                  clear hKr Kr
                  try simp only [List.getElem_toArray, List.getElem_cons_succ, List.getElem_cons_zero, Act.put, List.setIfInBounds_toArray, List.set_cons_zero, List.set_cons_succ]
                  refine wpC_one (i := 13) (l' := #[true, true, true, true, true, true, true, true, true, true, true, true, true, true]) (by kernel_rfl) rfl rfl (by rfl) (fun Kr hKr => ?_)
                  refine step_callV rfl 157 #[.tmp 164, .const (.int .i64 0), .tmp 167, .tmp 169, .tmp 170, .tmp 176] _ rfl HRUN.out #[.pointer (some ⟨w.heap.size + 1, 0, none⟩), .int .i64 0, .slice (some ⟨w30.heap.size, 0, none⟩) 1 1, .slice (some ⟨w30.heap.size + 1, 0, none⟩) 1 1, .slice (some ⟨w.heap.size + 1 + 1, 0, none⟩) 0 0, .slice (some ⟨w30.heap.size + 2, 0, none⟩) 1 1] (by first | rfl | (simp [Act.eval]; done) | (simp [Act.eval]; rfl) | (simp [Act.eval]; repeat' constructor)) (srule_c K (w.heap.size + 1) 0 (some ⟨w30.heap.size, 0, none⟩) (some ⟨w30.heap.size + 1, 0, none⟩) (some ⟨w.heap.size + 1 + 1, 0, none⟩) (some ⟨w30.heap.size + 2, 0, none⟩) 1 1 0 1 [(nthO os k).reg] [((R : Int) + os.length + 1 + (subsTo os k : Nat))] [] [((K : Int) - 1)] (w.heap.size + 1) ((((rulesTo R os mode K k) ++ [(rulK K 0 [((R : Int) + (k : Int)), (nthO os k).reg] [] [] [((R : Int) + (nthO os k).to)])]) ++ [(rulK K 0 [((R : Int) + (k : Int))] [] [] [((R : Int) + os.length + 1 + (subsTo os k : Nat))])]) ++ [(rulK K 0 [((R : Int) + os.length + 1 + (subsTo os k : Nat))] [] [] [((R : Int) + (nthO os k).els)])]) (.slice (some ⟨gl30, 0, none⟩) ((((rulesTo R os mode K k) ++ [(rulK K 0 [((R : Int) + (k : Int)), (nthO os k).reg] [] [] [((R : Int) + (nthO os k).to)])]) ++ [(rulK K 0 [((R : Int) + (k : Int))] [] [] [((R : Int) + os.length + 1 + (subsTo os k : Nat))])]).length + 1) cl30) G30 (((w30.alloc (.cells #[.int .i64 (nthO os k).reg] 2)).alloc (.cells #[.int .i64 ((R : Int) + os.length + 1 + (subsTo os k : Nat))] 2)).alloc (.cells #[.int .i64 ((K : Int) - 1)] 2)).drew (HIT30.out.keep (below_dr (below_al (below_al (below_alloc _ _) _) _))).mr (by (try simp); omega) (SlI.one (by simp [go_sem])) (SlI.one (by simp [go_sem])) (SlI.nil0 _ _) (SlI.one (by simp [go_sem])) (by simp) (by simp) (by simp) (by simp) (rng1 (by omega)) (rng1 (by omega)) (by simp) (rng1 (by omega)) hk2 (by (try simp); omega)) ?_
                  rintro e w31 ⟨gl31, cl31, G31, rfl, hN⟩
                  refine ⟨_, rfl, ?_⟩
                  have HIT31 := Lib.hid ((HIT30.out.keep (below_dr (below_al (below_al (below_alloc _ _) _) _))).rule hN)
                  refine hKr _ _ (fun h => absurd (by decide) h) ?_
                  clear hKr Kr
                  try simp only [List.getElem_toArray, List.getElem_cons_succ, List.getElem_cons_zero, Act.put, List.setIfInBounds_toArray, List.set_cons_zero, List.set_cons_succ]
                  refine wpC_done (by kernel_rfl) ?_ _
                  go_wp2
                  go_roundw
                  case rel => exact ⟨k + 1, _, _, by omega, by go_num, by rw [HRS.out]; exact HIT31.out.mr, HIT31.out.hb⟩
                  case measure => simp [intOf]; omega
                · go_simp
                  refine hKr _ _ (fun _ => hkp _ ((below_dr (below_al (below_alloc _ _) _)))) ?_
                  clear hKr Kr
                  try simp only [List.getElem_toArray, List.getElem_cons_succ, List.getElem_cons_zero, Act.put, List.setIfInBounds_toArray, List.set_cons_zero, List.set_cons_succ]
                  refine wpC_one (i := 5) (l' := #[true, true, true, true, true, true, true, true, true, true, true, true, true, false]) (by kernel_rfl) rfl rfl (by rfl) (fun Kr hKr => ?_)
                  go_simp
                  refine hKr _ _ (fun _ => hkp _ ((below_dr (below_al (below_al (below_alloc _ _) _) _)))) ?_
                  clear hKr Kr
                  try simp only [List.getElem_toArray, List.getElem_cons_succ, List.getElem_cons_zero, Act.put, List.setIfInBounds_toArray, List.set_cons_zero, List.set_cons_succ]
                  refine wpC_one (i := 13) (l' := #[true, true, true, true, true, true, true, true, true, true, true, true, true, true]) (by kernel_rfl) rfl rfl (by rfl) (fun Kr hKr => ?_)
                  refine step_callV rfl 157 #[.tmp 164, .const (.int .i64 0), .tmp 167, .tmp 169, .tmp 170, .tmp 176] _ rfl HRUN.out #[.pointer (some ⟨w.heap.size + 1, 0, none⟩), .int .i64 0, .slice (some ⟨w30.heap.size, 0, none⟩) 1 1, .slice (some ⟨w30.heap.size + 2, 0, none⟩) 1 1, .slice (some ⟨w.heap.size + 1 + 1, 0, none⟩) 0 0, .slice (some ⟨w30.heap.size + 1, 0, none⟩) 1 1] (by first | rfl | (simp [Act.eval]; done) | (simp [Act.eval]; rfl) | (simp [Act.eval]; repeat' constructor)) (srule_c K (w.heap.size + 1) 0 (some ⟨w30.heap.size, 0, none⟩) (some ⟨w30.heap.size + 2, 0, none⟩) (some ⟨w.heap.size + 1 + 1, 0, none⟩) (some ⟨w30.heap.size + 1, 0, none⟩) 1 1 0 1 [(nthO os k).reg] [((R : Int) + os.length + 1 + (subsTo os k : Nat))] [] [((K : Int) - 1)] (w.heap.size + 1) ((((rulesTo R os mode K k) ++ [(rulK K 0 [((R : Int) + (k : Int)), (nthO os k).reg] [] [] [((R : Int) + (nthO os k).to)])]) ++ [(rulK K 0 [((R : Int) + (k : Int))] [] [] [((R : Int) + os.length + 1 + (subsTo os k : Nat))])]) ++ [(rulK K 0 [((R : Int) + os.length + 1 + (subsTo os k : Nat))] [] [] [((R : Int) + (nthO os k).els)])]) (.slice (some ⟨gl30, 0, none⟩) ((((rulesTo R os mode K k) ++ [(rulK K 0 [((R : Int) + (k : Int)), (nthO os k).reg] [] [] [((R : Int) + (nthO os k).to)])]) ++ [(rulK K 0 [((R : Int) + (k : Int))] [] [] [((R : Int) + os.length + 1 + (subsTo os k : Nat))])]).length + 1) cl30) G30 (((w30.alloc (.cells #[.int .i64 (nthO os k).reg] 2)).alloc (.cells #[.int .i64 ((K : Int) - 1)] 2)).alloc (.cells #[.int .i64 ((R : Int) + os.length + 1 + (subsTo os k : Nat))] 2)).drew (HIT30.out.keep (below_dr (below_al (below_al (below_alloc _ _) _) _))).mr (by (try simp); omega) (SlI.one (by simp [go_sem])) (SlI.one (by simp [go_sem])) (SlI.nil0 _ _) (SlI.one (by simp [go_sem])) (by simp) (by simp) (by simp) (by simp) (rng1 (by omega)) (rng1 (by omega)) (by simp) (rng1 (by omega)) hk2 (by (try simp); omega)) ?_
                  rintro e w31 ⟨gl31, cl31, G31, rfl, hN⟩
                  refine ⟨_, rfl, ?_⟩
                  have HIT31 := Lib.hid ((HIT30.out.keep (below_dr (below_al (below_al (below_alloc _ _) _) _))).rule hN)
                  refine hKr _ _ (fun h => absurd (by decide) h) ?_
                  clear hKr Kr
                  try simp only [List.getElem_toArray, List.getElem_cons_succ, List.getElem_cons_zero, Act.put, List.setIfInBounds_toArray, List.set_cons_zero, List.set_cons_succ]
                  refine wpC_done (by kernel_rfl) ?_ _
                  go_wp2
                  go_roundw
                  case rel => exact ⟨k + 1, _, _, by omega, by go_num, by rw [HRS.out]; exact HIT31.out.mr, HIT31.out.hb⟩
                  case measure => simp [intOf]; omega
              · go_simp
                refine hKr _ _ (fun _ => hkp _ ((below_dr (below_alloc _ _)))) ?_
                clear hKr Kr
                try simp only [List.getElem_toArray, List.getElem_cons_succ, List.getElem_cons_zero, Act.put, List.setIfInBounds_toArray, List.set_cons_zero, List.set_cons_succ]
                refine wpC_two (i := 3) (j := 12) (l' := #[true, true, true, true, true, true, true, true, true, true, true, true, false, false]) (l'' := #[true, true, true, false, true, true, true, true, true, true, true, true, true, false]) (by kernel_rfl) rfl rfl rfl rfl (by rfl) (by rfl) (fun Kr hKr => ?_) (fun Kr hKr => ?_)
                · go_simp
                  refine hKr _ _ (fun _ => hkp _ ((below_dr (below_al (below_alloc _ _) _)))) ?_
                  clear hKr Kr
                  try simp only [List.getElem_toArray, List.getElem_cons_succ, List.getElem_cons_zero, Act.put, List.setIfInBounds_toArray, List.set_cons_zero, List.set_cons_succ]
                  refine wpC_one (i := 12) (l' := #[true, true, true, true, true, true, true, true, true, true, true, true, true, false]) (by kernel_rfl) rfl rfl (by rfl) (fun Kr hKr => ?_)
                  go_simp
                  refine hKr _ _ (fun _ => hkp _ ((below_dr (below_al (below_al (below_alloc _ _) _) _)))) ?_
                  clear hKr Kr
                  try simp only [List.getElem_toArray, List.getElem_cons_succ, List.getElem_cons_zero, Act.put, List.setIfInBounds_toArray, List.set_cons_zero, List.set_cons_succ]
                  refine wpC_one (i := 13) (l' := #[true, true, true, true, true, true, true, true, true, true, true, true, true, true]) (by kernel_rfl) rfl rfl (by rfl) (fun Kr hKr => ?_)
                  refine step_callV rfl 157 #[.tmp 164, .const (.int .i64 0), .tmp 167, .tmp 169, .tmp 170, .tmp 176] _ rfl HRUN.out #[.pointer (some ⟨w.heap.size + 1, 0, none⟩), .int .i64 0, .slice (some ⟨w30.heap.size + 1, 0, none⟩) 1 1, .slice (some ⟨w30.heap.size, 0, none⟩) 1 1, .slice (some ⟨w.heap.size + 1 + 1, 0, none⟩) 0 0, .slice (some ⟨w30.heap.size + 2, 0, none⟩) 1 1] (by first | rfl | (simp [Act.eval]; done) | (simp [Act.eval]; rfl) | (simp [Act.eval]; repeat' constructor)) (srule_c K (w.heap.size + 1) 0 (some ⟨w30.heap.size + 1, 0, none⟩) (some ⟨w30.heap.size, 0, none⟩) (some ⟨w.heap.size + 1 + 1, 0, none⟩) (some ⟨w30.heap.size + 2, 0, none⟩) 1 1 0 1 [(nthO os k).reg] [((R : Int) + os.length + 1 + (subsTo os k : Nat))] [] [((K : Int) - 1)] (w.heap.size + 1) ((((rulesTo R os mode K k) ++ [(rulK K 0 [((R : Int) + (k : Int)), (nthO os k).reg] [] [] [((R : Int) + (nthO os k).to)])]) ++ [(rulK K 0 [((R : Int) + (k : Int))] [] [] [((R : Int) + os.length + 1 + (subsTo os k : Nat))])]) ++ [(rulK K 0 [((R : Int) + os.length + 1 + (subsTo os k : Nat))] [] [] [((R : Int) + (nthO os k).els)])]) (.slice (some ⟨gl30, 0, none⟩) ((((rulesTo R os mode K k) ++ [(rulK K 0 [((R : Int) + (k : Int)), (nthO os k).reg] [] [] [((R : Int) + (nthO os k).to)])]) ++ [(rulK K 0 [((R : Int) + (k : Int))] [] [] [((R : Int) + os.length + 1 + (subsTo os k : Nat))])]).length + 1) cl30) G30 (((w30.alloc (.cells #[.int .i64 ((R : Int) + os.length + 1 + (subsTo os k : Nat))] 2)).alloc (.cells #[.int .i64 (nthO os k).reg] 2)).alloc (.cells #[.int .i64 ((K : Int) - 1)] 2)).drew (HIT30.out.keep (below_dr (below_al (below_al (below_alloc _ _) _) _))).mr (by (try simp); omega) (SlI.one (by simp [go_sem])) (SlI.one (by simp [go_sem])) (SlI.nil0 _ _) (SlI.one (by simp [go_sem])) (by simp) (by simp) (by simp) (by simp) (rng1 (by omega)) (rng1 (by omega)) (by simp) (rng1 (by omega)) hk2 (by (try simp); omega)) ?_
                  rintro e w31 ⟨gl31, cl31, G31, rfl, hN⟩
                  refine ⟨_, rfl, ?_⟩
                  have HIT31 := Lib.hid ((HIT30.out.keep (below_dr (below_al (below_al (below_alloc _ _) _) _))).rule hN)
                  refine hKr _ _ (fun h => absurd (by decide) h) ?_
                  clear hKr Kr
                  try simp only [List.getElem_toArray, List.getElem_cons_succ, List.getElem_cons_zero, Act.put, List.setIfInBounds_toArray, List.set_cons_zero, List.set_cons_succ]
                  refine wpC_done (by kernel_rfl) ?_ _
                  go_wp2
                  go_roundw
                  case rel => exact ⟨k + 1, _, _, by omega, by go_num, by rw [HRS.out]; exact HIT31.out.mr, HIT31.out.hb⟩
                  case measure => simp [intOf]; omega
                · go_simp
                  refine hKr _ _ (fun _ => hkp _ ((below_dr (below_al (below_alloc _ _) _)))) ?_
                  clear hKr Kr
                  try simp only [List.getElem_toArray, List.getElem_cons_succ, List.getElem_cons_zero, Act.put, List.setIfInBounds_toArray, List.set_cons_zero, List.set_cons_succ]
                  refine wpC_one (i := 3) (l' := #[true, true, true, true, true, true, true, true, true, true, true, true, true, false]) (by kernel_rfl) rfl rfl (by rfl) (fun Kr hKr => ?_)
                  go_simp
                  refine hKr _ _ (fun _ => hkp _ ((below_dr (below_al (below_al (below_alloc _ _) _) _)))) ?_
                  clear hKr Kr
                  try simp only [List.getElem_toArray, List.getElem_cons_succ, List.getElem_cons_zero, Act.put, List.setIfInBounds_toArray, List.set_cons_zero, List.set_cons_succ]
                  refine wpC_one (i := 13) (l' := #[true, true, true, true, true, true, true, true, true, true, true, true, true, true]) (by kernel_rfl) rfl rfl (by rfl) (fun Kr hKr => ?_)
                  refine step_callV rfl 157 #[.tmp 164, .const (.int .i64 0), .tmp 167, .tmp 169, .tmp 170, .tmp 176] _ rfl HRUN.out #[.pointer (some ⟨w.heap.size + 1, 0, none⟩), .int .i64 0, .slice (some ⟨w30.heap.size + 2, 0, none⟩) 1 1, .slice (some ⟨w30.heap.size, 0, none⟩) 1 1, .slice (some ⟨w.heap.size + 1 + 1, 0, none⟩) 0 0, .slice (some ⟨w30.heap.size + 1, 0, none⟩) 1 1] (by first | rfl | (simp [Act.eval]; done) | (simp [Act.eval]; rfl) | (simp [Act.eval]; repeat' constructor)) (srule_c K (w.heap.size + 1) 0 (some ⟨w30.heap.size + 2, 0, none⟩) (some ⟨w30.heap.size, 0, none⟩) (some ⟨w.heap.size + 1 + 1, 0, none⟩) (some ⟨w30.heap.size + 1, 0, none⟩) 1 1 0 1 [(nthO os k).reg] [((R : Int) + os.length + 1 + (subsTo os k : Nat))] [] [((K : Int) - 1)] (w.heap.size + 1) ((((rulesTo R os mode K k) ++ [(rulK K 0 [((R : Int) + (k : Int)), (nthO os k).reg] [] [] [((R : Int) + (nthO os k).to)])]) ++ [(rulK K 0 [((R : Int) + (k : Int))] [] [] [((R : Int) + os.length + 1 + (subsTo os k : Nat))])]) ++ [(rulK K 0 [((R : Int) + os.length + 1 + (subsTo os k : Nat))] [] [] [((R : Int) + (nthO os k).els)])]) (.slice (some ⟨gl30, 0, none⟩) ((((rulesTo R os mode K k) ++ [(rulK K 0 [((R : Int) + (k : Int)), (nthO os k).reg] [] [] [((R : Int) + (nthO os k).to)])]) ++ [(rulK K 0 [((R : Int) + (k : Int))] [] [] [((R : Int) + os.length + 1 + (subsTo os k : Nat))])]).length + 1) cl30) G30 (((w30.alloc (.cells #[.int .i64 ((R : Int) + os.length + 1 + (subsTo os k : Nat))] 2)).alloc (.cells #[.int .i64 ((K : Int) - 1)] 2)).alloc (.cells #[.int .i64 (nthO os k).reg] 2)).drew (HIT30.out.keep (below_dr (below_al (below_al (below_alloc _ _) _) _))).mr (by (try simp); omega) (SlI.one (by simp [go_sem])) (SlI.one (by simp [go_sem])) (SlI.nil0 _ _) (SlI.one (by simp [go_sem])) (by simp) (by simp) (by simp) (by simp) (rng1 (by omega)) (rng1 (by omega)) (by simp) (rng1 (by omega)) hk2 (by (try simp); omega)) ?_
                  rintro e w31 ⟨gl31, cl31, G31, rfl, hN⟩
                  refine ⟨_, rfl, ?_⟩
                  have HIT31 := Lib.hid ((HIT30.out.keep (below_dr (below_al (below_al (below_alloc _ _) _) _))).rule hN)
                  refine hKr _ _ (fun h => absurd (by decide) h) ?_
                  clear hKr Kr
                  try simp only [List.getElem_toArray, List.getElem_cons_succ, List.getElem_cons_zero, Act.put, List.setIfInBounds_toArray, List.set_cons_zero, List.set_cons_succ]
                  refine wpC_done (by kernel_rfl) ?_ _
                  go_wp2
                  go_roundw
                  case rel => exact ⟨k + 1, _, _, by omega, by go_num, by rw [HRS.out]; exact HIT31.out.mr, HIT31.out.hb⟩
                  case measure => simp [intOf]; omega
              · go_simp
                refine hKr _ _ (fun _ => hkp _ ((below_dr (below_alloc _ _)))) ?_
                clear hKr Kr
                try simp only [List.getElem_toArray, List.getElem_cons_succ, List.getElem_cons_zero, Act.put, List.setIfInBounds_toArray, List.set_cons_zero, List.set_cons_succ]
                refine wpC_two (i := 3) (j := 5) (l' := #[true, true, true, true, true, false, true, true, true, true, true, true, true, false]) (l'' := #[true, true, true, false, true, true, true, true, true, true, true, true, true, false]) (by kernel_rfl) rfl rfl rfl rfl (by rfl) (by rfl) (fun Kr hKr => ?_) (fun Kr hKr => ?_)
                · go_simp
                  refine hKr _ _ (fun _ => hkp _ ((below_dr (below_al (below_alloc _ _) _)))) ?_
                  clear hKr Kr
                  try simp only [List.getElem_toArray, List.getElem_cons_succ, List.getElem_cons_zero, Act.put, List.setIfInBounds_toArray, List.set_cons_zero, List.set_cons_succ]
                  refine wpC_one (i := 5) (l' := #[true, true, true, true, true, true, true, true, true, true, true, true, true, false]) (by kernel_rfl) rfl rfl (by rfl) (fun Kr hKr => ?_)
                  go_simp
                  refine hKr _ _ (fun _ => hkp _ ((below_dr (below_al (below_al (below_alloc _ _) _) _)))) ?_
                  clear hKr Kr
                  try simp only [List.getElem_toArray, List.getElem_cons_succ, List.getElem_cons_zero, Act.put, List.setIfInBounds_toArray, List.set_cons_zero, List.set_cons_succ]
                  refine wpC_one (i := 13) (l' := #[true, true, true, true, true, true, true, true, true, true, true, true, true, true]) (by kernel_rfl) rfl rfl (by rfl) (fun Kr hKr => ?_)
                  refine step_callV rfl 157 #[.tmp 164, .const (.int .i64 0), .tmp 167, .tmp 169, .tmp 170, .tmp 176] _ rfl HRUN.out #[.pointer (some ⟨w.heap.size + 1, 0, none⟩), .int .i64 0, .slice (some ⟨w30.heap.size + 1, 0, none⟩) 1 1, .slice (some ⟨w30.heap.size + 2, 0, none⟩) 1 1, .slice (some ⟨w.heap.size + 1 + 1, 0, none⟩) 0 0, .slice (some ⟨w30.heap.size, 0, none⟩) 1 1] (by first | rfl | (simp [Act.eval]; done) | (simp [Act.eval]; rfl) | (simp [Act.eval]; repeat' constructor)) (srule_c K (w.heap.size + 1) 0 (some ⟨w30.heap.size + 1, 0, none⟩) (some ⟨w30.heap.size + 2, 0, none⟩) (some ⟨w.heap.size + 1 + 1, 0, none⟩) (some ⟨w30.heap.size, 0, none⟩) 1 1 0 1 [(nthO os k).reg] [((R : Int) + os.length + 1 + (subsTo os k : Nat))] [] [((K : Int) - 1)] (w.heap.size + 1) ((((rulesTo R os mode K k) ++ [(rulK K 0 [((R : Int) + (k : Int)), (nthO os k).reg] [] [] [((R : Int) + (nthO os k).to)])]) ++ [(rulK K 0 [((R : Int) + (k : Int))] [] [] [((R : Int) + os.length + 1 + (subsTo os k : Nat))])]) ++ [(rulK K 0 [((R : Int) + os.length + 1 + (subsTo os k : Nat))] [] [] [((R : Int) + (nthO os k).els)])]) (.slice (some ⟨gl30, 0, none⟩) ((((rulesTo R os mode K k) ++ [(rulK K 0 [((R : Int) + (k : Int)), (nthO os k).reg] [] [] [((R : Int) + (nthO os k).to)])]) ++ [(rulK K 0 [((R : Int) + (k : Int))] [] [] [((R : Int) + os.length + 1 + (subsTo os k : Nat))])]).length + 1) cl30) G30 (((w30.alloc (.cells #[.int .i64 ((K : Int) - 1)] 2)).alloc (.cells #[.int .i64 (nthO os k).reg] 2)).alloc (.cells #[.int .i64 ((R : Int) + os.length + 1 + (subsTo os k : Nat))] 2)).drew (HIT30.out.keep (below_dr (below_al (below_al (below_alloc _ _) _) _))).mr (by (try simp); omega) (SlI.one (by simp [go_sem])) (SlI.one (by simp [go_sem])) (SlI.nil0 _ _) (SlI.one (by simp [go_sem])) (by simp) (by simp) (by simp) (by simp) (rng1 (by omega)) (rng1 (by omega)) (by simp) (rng1 (by omega)) hk2 (by (try simp); omega)) ?_
                  rintro e w31 ⟨gl31, cl31, G31, rfl, hN⟩
                  refine ⟨_, rfl, ?_⟩
                  have HIT31 := Lib.hid ((HIT30.out.keep (below_dr (below_al (below_al (below_alloc _ _) _) _))).rule hN)
                  refine hKr _ _ (fun h => absurd (by decide) h) ?_
                  clear hKr Kr
                  try simp only [List.getElem_toArray, List.getElem_cons_succ, List.getElem_cons_zero, Act.put, List.setIfInBounds_toArray, List.set_cons_zero, List.set_cons_succ]
                  refine wpC_done (by kernel_rfl) ?_ _
                  go_wp2
                  go_roundw
                  case rel => exact ⟨k + 1, _, _, by omega, by go_num, by rw [HRS.out]; exact HIT31.out.mr, HIT31.out.hb⟩
                  case measure => simp [intOf]; omega
                · go_simp
                  refine hKr _ _ (fun _ => hkp _ ((below_dr (below_al (below_alloc _ _) _)))) ?_
                  clear hKr Kr
                  try simp only [List.getElem_toArray, List.getElem_cons_succ, List.getElem_cons_zero, Act.put, List.setIfInBounds_toArray, List.set_cons_zero, List.set_cons_succ]
                  refine wpC_one (i := 3) (l' := #[true, true, true, true, true, true, true, true, true, true, true, true, true, false]) (by kernel_rfl) rfl rfl (by rfl) (fun Kr hKr => ?_)
                  go_simp
                  refine hKr _ _ (fun _ => hkp _ ((below_dr (below_al (below_al (below_alloc _ _) _) _)))) ?_
                  clear hKr Kr
                  try simp only [List.getElem_toArray, List.getElem_cons_succ, List.getElem_cons_zero, Act.put, List.setIfInBounds_toArray, List.set_cons_zero, List.set_cons_succ]
                  refine wpC_one (i := 13) (l' := #[true, true, true, true, true, true, true, true, true, true, true, true, true, true]) (by kernel_rfl) rfl rfl (by rfl) (fun Kr hKr => ?_)
                  refine step_callV rfl 157 #[.tmp 164, .const (.int .i64 0), .tmp 167, .tmp 169, .tmp 170, .tmp 176] _ rfl HRUN.out #[.pointer (some ⟨w.heap.size + 1, 0, none⟩), .int .i64 0, .slice (some ⟨w30.heap.size + 2, 0, none⟩) 1 1, .slice (some ⟨w30.heap.size + 1, 0, none⟩) 1 1, .slice (some ⟨w.heap.size + 1 + 1, 0, none⟩) 0 0, .slice (some ⟨w30.heap.size, 0, none⟩) 1 1] (by first | rfl | (simp [Act.eval]; done) | (simp [Act.eval]; rfl) | (simp [Act.eval]; repeat' constructor)) (srule_c K (w.heap.size + 1) 0 (some ⟨w30.heap.size + 2, 0, none⟩) (some ⟨w30.heap.size + 1, 0, none⟩) (some ⟨w.heap.size + 1 + 1, 0, none⟩) (some ⟨w30.heap.size, 0, none⟩) 1 1 0 1 [(nthO os k).reg] [((R : Int) + os.length + 1 + (subsTo os k : Nat))] [] [((K : Int) - 1)] (w.heap.size + 1) ((((rulesTo R os mode K k) ++ [(rulK K 0 [((R : Int) + (k : Int)), (nthO os k).reg] [] [] [((R : Int) + (nthO os k).to)])]) ++ [(rulK K 0 [((R : Int) + (k : Int))] [] [] [((R : Int) + os.length + 1 + (subsTo os k : Nat))])]) ++ [(rulK K 0 [((R : Int) + os.length + 1 + (subsTo os k : Nat))] [] [] [((R : Int) + (nthO os k).els)])]) (.slice (some ⟨gl30, 0, none⟩) ((((rulesTo R os mode K k) ++ [(rulK K 0 [((R : Int) + (k : Int)), (nthO os k).reg] [] [] [((R : Int) + (nthO os k).to)])]) ++ [(rulK K 0 [((R : Int) + (k : Int))] [] [] [((R : Int) + os.length + 1 + (subsTo os k : Nat))])]).length + 1) cl30) G30 (((w30.alloc (.cells #[.int .i64 ((K : Int) - 1)] 2)).alloc (.cells #[.int .i64 ((R : Int) + os.length + 1 + (subsTo os k : Nat))] 2)).alloc (.cells #[.int .i64 (nthO os k).reg] 2)).drew (HIT30.out.keep (below_dr (below_al (below_al (below_alloc _ _) _) _))).mr (by (try simp); omega) (SlI.one (by simp [go_sem])) (SlI.one (by simp [go_sem])) (SlI.nil0 _ _) (SlI.one (by simp [go_sem])) (by simp) (by simp) (by simp) (by simp) (rng1 (by omega)) (rng1 (by omega)) (by simp) (rng1 (by omega)) hk2 (by (try simp); omega)) ?_
                  rintro e w31 ⟨gl31, cl31, G31, rfl, hN⟩
                  refine ⟨_, rfl, ?_⟩
                  have HIT31 := Lib.hid ((HIT30.out.keep (below_dr (below_al (below_al (below_alloc _ _) _) _))).rule hN)
                  refine hKr _ _ (fun h => absurd (by decide) h) ?_
                  clear hKr Kr
                  try simp only [List.getElem_toArray, List.getElem_cons_succ, List.getElem_cons_zero, Act.put, List.setIfInBounds_toArray, List.set_cons_zero, List.set_cons_succ]
                  refine wpC_done (by kernel_rfl) ?_ _
                  go_wp2
                  go_roundw
                  case rel => exact ⟨k + 1, _, _, by omega, by go_num, by rw [HRS.out]; exact HIT31.out.mr, HIT31.out.hb⟩
                  case measure => simp [intOf]; omega
      · have hq1 : ((nthO os k).op == 1) = false := by rw [hop]; rfl
        have hq2 : ((nthO os k).op == 3) = true := by rw [hop]; rfl
        have HRS : Hid (rulesTo R os mode K (k + 1) = (rulesTo R os mode K k)) := Lib.hid (by rw [rulesTo, ordRules, if_neg (by rw [hop]; decide), if_neg (by rw [hop]; decide)]; simp)
        clear hop
        go_wp2
        go_roundw
        case rel => exact ⟨k + 1, _, _, by omega, by go_num, by rw [HRS.out]; exact HIT.out.mr, HIT.out.hb⟩
        case measure => simp [intOf]; omega
    · obtain rfl : k = os.length := by omega
      have HST := Lib.hid hst
      have HBR := Lib.hid hbr
      have HIT : Hid (Sit0 (w.heap.size + 1) (w.alloc (.cells #[.int .i64 0, .slice none 0 0, .slice none 0 0] 120)) wr (w.heap.size + 1) K (rulesTo R os mode K os.length) v G) := Lib.hid ⟨hst, hbr⟩
      clear hst hbr hbw HST HBR
      by_cases hm3 : mode = 3
      · have hr3 : (mode == 3) = true := by simpa using hm3
        have HRS : Hid (rulesS R os mode = ((rulesTo R os mode K os.length) ++ [(rulK K 0 [((K : Int) - 1)] [] [] [((K : Int) - 1)])])) := Lib.hid (by rw [rulesS, if_pos hm3, ← HKE.out])
        clear hm3
        have hlr := rulesTo_len R os mode K os.length
        have zA : w.heap.size + 1 < wr.heap.size := HIT.out.mr.hg.2
        have hs0 : wr.drew.cell? ⟨w.heap.size + 1, 0, none⟩ = some (.int .i64 K) ∧ wr.drew.cell? ⟨w.heap.size + 1, 0, none⟩ = some (.int .i64 K) := ⟨HIT.out.mr.c0, HIT.out.mr.c0⟩
        go_wp2
        have HRUN := Lib.hid (callFunc_run Try.func157 (by kernel_rfl) rfl)
        have hkp : ∀ wz, Below wr.heap.size wr wz → wz.cell? ⟨w.heap.size + 1, 0, none⟩ = some (.int .i64 K) ∧ wz.cell? ⟨w.heap.size + 1, 0, none⟩ = some (.int .i64 K) := fun wz h => ⟨(bcell1 h (World.block_lt_of_cell? _ _ hs0.1)).trans hs0.1, (bcell1 h (World.block_lt_of_cell? _ _ hs0.2)).trans hs0.2⟩
        refine wp_region_C (n := 16) (l := #[false, false, false, false, false, false, false, false, false, false, false, false, false, false, false, false]) (fun wx => wx.cell? ⟨w.heap.size + 1, 0, none⟩ = some (.int .i64 K) ∧ wx.cell? ⟨w.heap.size + 1, 0, none⟩ = some (.int .i64 K)) [15] (by kernel_rfl) rfl rfl ?_
        refine wpC_take (i := 0) (v := ?v0_11) (l' := #[true, false, false, false, false, false, false, false, false, false, false, false, false, false, false, false]) [15] rfl (by kernel_rfl) (by kernel_rfl) (by kernel_rfl) (by kernel_rfl) (by kernel_rfl) rfl (fun _ _ _ h => h) (by rfl) (fun wx hS => ?q0_11) (by assumption) ?_
        case q0_11 => (go_simp; try with_reducible rfl)
        try simp only [List.getElem_toArray, List.getElem_cons_zero, Act.put, List.setIfInBounds_toArray, List.set_cons_zero, List.set_cons_succ]
        refine wpC_take (i := 1) (v := ?v1_12) (l' := #[true, true, false, false, false, false, false, false, false, false, false, false, false, false, false, false]) [2, 3, 4, 5, 6, 15] rfl (by kernel_rfl) (by kernel_rfl) (by kernel_rfl) (by kernel_rfl) (by kernel_rfl) rfl (fun _ _ _ h => h) (by rfl) (fun wx hS => ?q1_12) (by assumption) ?_
        case q1_12 => (go_simp; try with_reducible rfl)
        try simp only [List.getElem_toArray, List.getElem_cons_succ, List.getElem_cons_zero, Act.put, List.setIfInBounds_toArray, List.set_cons_zero, List.set_cons_succ]
        refine wpC_take (i := 2) (v := ?v2_13) (l' := #[true, true, true, false, false, false, false, false, false, false, false, false, false, false, false, false]) [3, 4, 5, 6, 15] rfl (by kernel_rfl) (by kernel_rfl) (by kernel_rfl) (by kernel_rfl) (by kernel_rfl) rfl (fun _ _ _ h => h) (by rfl) (fun wx hS => ?q2_13) (by assumption) ?_
        case q2_13 => (go_simp; try with_reducible rfl)
        try simp only [List.getElem_toArray, List.getElem_cons_succ, List.getElem_cons_zero, Act.put, List.setIfInBounds_toArray, List.set_cons_zero, List.set_cons_succ]
        refine wpC_take (i := 3) (v := ?v3_14) (l' := #[true, true, true, true, false, false, false, false, false, false, false, false, false, false, false, false]) [4, 5, 6, 15] rfl (by kernel_rfl) (by kernel_rfl) (by kernel_rfl) (by kernel_rfl) (by kernel_rfl) rfl (fun _ _ _ h => h) (by rfl) (fun wx hS => ?q3_14) (by assumption) ?_
        case q3_14 => (go_simp; try with_reducible rfl)
        try simp only [List.getElem_toArray, List.getElem_cons_succ, List.getElem_cons_zero, Act.put, List.setIfInBounds_toArray, List.set_cons_zero, List.set_cons_succ]
        refine wpC_take (i := 4) (v := ?v4_15) (l' := #[true, true, true, true, true, false, false, false, false, false, false, false, false, false, false, false]) [5, 6, 15] rfl (by kernel_rfl) (by kernel_rfl) (by kernel_rfl) (by kernel_rfl) (by kernel_rfl) rfl (fun _ _ _ h => h) (by rfl) (fun wx hS => ?q4_15) (by assumption) ?_
        case q4_15 => ((try dsimp only at hS); obtain ⟨hS1, hS2⟩ := hS; go_simp; try with_reducible rfl)
        try simp only [List.getElem_toArray, List.getElem_cons_succ, List.getElem_cons_zero, Act.put, List.setIfInBounds_toArray, List.set_cons_zero, List.set_cons_succ]
        refine wpC_take (i := 5) (v := ?v5_16) (l' := #[true, true, true, true, true, true, false, false, false, false, false, false, false, false, false, false]) [6, 15] rfl (by kernel_rfl) (by kernel_rfl) (by kernel_rfl) (by kernel_rfl) (by kernel_rfl) rfl (fun _ _ _ h => h) (by rfl) (fun wx hS => ?q5_16) (by assumption) ?_
        case q5_16 => (go_simp; try with_reducible rfl)
        try simp only [List.getElem_toArray, List.getElem_cons_succ, List.getElem_cons_zero, Act.put, List.setIfInBounds_toArray, List.set_cons_zero, List.set_cons_succ]
        refine wpC_take (i := 7) (v := ?v7_17) (l' := #[true, true, true, true, true, true, false, true, false, false, false, false, false, false, false, false]) [15] rfl (by kernel_rfl) (by kernel_rfl) (by kernel_rfl) (by kernel_rfl) (by kernel_rfl) rfl (fun _ _ _ h => h) (by rfl) (fun wx hS => ?q7_17) (by assumption) ?_
        case q7_17 => (go_simp; try with_reducible rfl)
        try simp only [List.getElem_toArray, List.getElem_cons_succ, List.getElem_cons_zero, Act.put, List.setIfInBounds_toArray, List.set_cons_zero, List.set_cons_succ]
        refine wpC_take (i := 8) (v := ?v8_18) (l' := #[true, true, true, true, true, true, false, true, true, false, false, false, false, false, false, false]) [15] rfl (by kernel_rfl) (by kernel_rfl) (by kernel_rfl) (by kernel_rfl) (by kernel_rfl) rfl (fun _ _ _ h => h) (by rfl) (fun wx hS => ?q8_18) (by assumption) ?_
        case q8_18 => (go_simp; try with_reducible rfl)
        try simp only [List.getElem_toArray, List.getElem_cons_succ, List.getElem_cons_zero, Act.put, List.setIfInBounds_toArray, List.set_cons_zero, List.set_cons_succ]
        refine wpC_take (i := 9) (v := ?v9_19) (l' := #[true, true, true, true, true, true, false, true, true, true, false, false, false, false, false, false]) [10, 11, 12, 13, 14, 15] rfl (by kernel_rfl) (by kernel_rfl) (by kernel_rfl) (by kernel_rfl) (by kernel_rfl) rfl (fun _ _ _ h => h) (by rfl) (fun wx hS => ?q9_19) (by assumption) ?_
        case q9_19 => (go_simp; try with_reducible rfl)
        try simp only [List.getElem_toArray, List.getElem_cons_succ, List.getElem_cons_zero, Act.put, List.setIfInBounds_toArray, List.set_cons_zero, List.set_cons_succ]
        refine wpC_take (i := 10) (v := ?v10_20) (l' := #[true, true, true, true, true, true, false, true, true, true, true, false, false, false, false, false]) [11, 12, 13, 14, 15] rfl (by kernel_rfl) (by kernel_rfl) (by kernel_rfl) (by kernel_rfl) (by kernel_rfl) rfl (fun _ _ _ h => h) (by rfl) (fun wx hS => ?q10_20) (by assumption) ?_
        case q10_20 => (go_simp; try with_reducible rfl)
        try simp only [List.getElem_toArray, List.getElem_cons_succ, List.getElem_cons_zero, Act.put, List.setIfInBounds_toArray, List.set_cons_zero, List.set_cons_succ]
        refine wpC_take (i := 11) (v := ?v11_21) (l' := #[true, true, true, true, true, true, false, true, true, true, true, true, false, false, false, false]) [12, 13, 14, 15] rfl (by kernel_rfl) (by kernel_rfl) (by kernel_rfl) (by kernel_rfl) (by kernel_rfl) rfl (fun _ _ _ h => h) (by rfl) (fun wx hS => ?q11_21) (by assumption) ?_
        case q11_21 => (go_simp; try with_reducible rfl)
        try simp only [List.getElem_toArray, List.getElem_cons_succ, List.getElem_cons_zero, Act.put, List.setIfInBounds_toArray, List.set_cons_zero, List.set_cons_succ]
        refine wpC_take (i := 12) (v := ?v12_22) (l' := #[true, true, true, true, true, true, false, true, true, true, true, true, true, false, false, false]) [13, 14, 15] rfl (by kernel_rfl) (by kernel_rfl) (by kernel_rfl) (by kernel_rfl) (by kernel_rfl) rfl (fun _ _ _ h => h) (by rfl) (fun wx hS => ?q12_22) (by assumption) ?_
        case q12_22 => ((try dsimp only at hS); obtain ⟨hS1, hS2⟩ := hS; go_simp; try with_reducible rfl)
        try simp only [List.getElem_toArray, List.getElem_cons_succ, List.getElem_cons_zero, Act.put, List.setIfInBounds_toArray, List.set_cons_zero, List.set_cons_succ]
        refine wpC_take (i := 13) (v := ?v13_23) (l' := #[true, true, true, true, true, true, false, true, true, true, true, true, true, true, false, false]) [14, 15] rfl (by kernel_rfl) (by kernel_rfl) (by kernel_rfl) (by kernel_rfl) (by kernel_rfl) rfl (fun _ _ _ h => h) (by rfl) (fun wx hS => ?q13_23) (by assumption) ?_
        case q13_23 => (go_simp; try with_reducible rfl)
        try simp only [List.getElem_toArray, List.getElem_cons_succ, List.getElem_cons_zero, Act.put, List.setIfInBounds_toArray, List.set_cons_zero, List.set_cons_succ]
        refine wpC_two (i := 6) (j := 14) (l' := #[true, true, true, true, true, true, true, true, true, true, true, true, true, true, false, false]) (l'' := #[true, true, true, true, true, true, false, true, true, true, true, true, true, true, true, false]) (by kernel_rfl) rfl rfl rfl rfl (by rfl) (by rfl) (fun Kr hKr => ?_) (fun Kr hKr => ?_)
        · go_simp
          refine hKr _ _ (fun _ => hkp _ ((below_dr (below_alloc _ _)))) ?_
          clear hKr Kr
          try simp only [List.getElem_toArray, List.getElem_cons_succ, List.getElem_cons_zero, Act.put, List.setIfInBounds_toArray, List.set_cons_zero, List.set_cons_succ]
          refine wpC_one (i := 14) (l' := #[true, true, true, true, true, true, true, true, true, true, true, true, true, true, true, false]) (by kernel_rfl) rfl rfl (by rfl) (fun Kr hKr => ?_)
          go_simp
          refine hKr _ _ (fun _ => hkp _ ((below_dr (below_al (below_alloc _ _) _)))) ?_
          clear hKr Kr
          try simp only [List.getElem_toArray, List.getElem_cons_succ, List.getElem_cons_zero, Act.put, List.setIfInBounds_toArray, List.set_cons_zero, List.set_cons_succ]
          refine wpC_one (i := 15) (l' := #[true, true, true, true, true, true, true, true, true, true, true, true, true, true, true, true]) (by kernel_rfl) rfl rfl (by rfl) (fun Kr hKr => ?_)
          refine step_callV rfl 157 #[.tmp 180, .const (.int .i64 0), .tmp 186, .tmp 187, .tmp 188, .tmp 194] _ rfl HRUN.out #[.pointer (some ⟨w.heap.size + 1, 0, none⟩), .int .i64 0, .slice (some ⟨wr.heap.size, 0, none⟩) 1 1, .slice (some ⟨w.heap.size + 1 + 1, 0, none⟩) 0 0, .slice (some ⟨w.heap.size + 1 + 1, 0, none⟩) 0 0, .slice (some ⟨wr.heap.size + 1, 0, none⟩) 1 1] (by first | rfl | (simp [Act.eval]; done) | (simp [Act.eval]; rfl) | (simp [Act.eval]; repeat' constructor)) (srule_c K (w.heap.size + 1) 0 (some ⟨wr.heap.size, 0, none⟩) (some ⟨w.heap.size + 1 + 1, 0, none⟩) (some ⟨w.heap.size + 1 + 1, 0, none⟩) (some ⟨wr.heap.size + 1, 0, none⟩) 1 0 0 1 [((K : Int) - 1)] [] [] [((K : Int) - 1)] (w.heap.size + 1) (rulesTo R os mode K os.length) v G ((wr.alloc (.cells #[.int .i64 ((K : Int) - 1)] 2)).alloc (.cells #[.int .i64 ((K : Int) - 1)] 2)).drew (HIT.out.keep (below_dr (below_al (below_alloc _ _) _))).mr (by (try simp); omega) (SlI.one (by simp [go_sem])) (SlI.nil0 _ _) (SlI.nil0 _ _) (SlI.one (by simp [go_sem])) (by simp) (by simp) (by simp) (by simp) (rng1 (by omega)) (by simp) (by simp) (rng1 (by omega)) hk2 (by (try simp); omega)) ?_
          rintro e w32 ⟨gl32, cl32, G32, rfl, hN⟩
          refine ⟨_, rfl, ?_⟩
          have HIT32 := Lib.hid ((HIT.out.keep (below_dr (below_al (below_alloc _ _) _))).rule hN)
          refine hKr _ _ (fun h => absurd (by decide) h) ?_
          clear hKr Kr
          try simp only [List.getElem_toArray, List.getElem_cons_succ, List.getElem_cons_zero, Act.put, List.setIfInBounds_toArray, List.set_cons_zero, List.set_cons_succ]
          refine wpC_done (by kernel_rfl) ?_ _
          clear hs0 hkp
          have hq0 := HIT32.out.mr.c0
          have hq1 := HIT32.out.mr.c1
          have rr0 : w32.cell? ⟨w.heap.size, 0, none⟩ = some (.int .i64 0) := (bcell1 HIT32.out.hb (by omega)).trans (by simp [go_sem])
          have rz0 : w32.frozen? ⟨w.heap.size, 0, none⟩ = false := (HIT32.out.hb.frozen (p := ⟨w.heap.size, 0, none⟩) (by simp)).trans (by simp [go_sem])
          have rr1 : w32.cell? ⟨w.heap.size, 1, none⟩ = some (.slice none 0 0) := (bcell1 HIT32.out.hb (by omega)).trans (by simp [go_sem])
          have rz1 : w32.frozen? ⟨w.heap.size, 1, none⟩ = false := (HIT32.out.hb.frozen (p := ⟨w.heap.size, 1, none⟩) (by simp)).trans (by simp [go_sem])
          have rr2 : w32.cell? ⟨w.heap.size, 2, none⟩ = some (.slice none 0 0) := (bcell1 HIT32.out.hb (by omega)).trans (by simp [go_sem])
          have rz2 : w32.frozen? ⟨w.heap.size, 2, none⟩ = false := (HIT32.out.hb.frozen (p := ⟨w.heap.size, 2, none⟩) (by simp)).trans (by simp [go_sem])
          have hs0 : w32.drew.cell? ⟨w.heap.size + 1, 0, none⟩ = some (.int .i64 K) ∧ w32.drew.cell? ⟨w.heap.size + 1, 1, none⟩ = some (.slice (some ⟨gl32, 0, none⟩) ((rulesTo R os mode K os.length).length + 1) cl32) := ⟨hq0, hq1⟩
          have zA : w.heap.size + 1 < w32.heap.size := HIT32.out.mr.hg.2
          have HSYS := Lib.hid (RetA.sys (w7 := (w32.alloc (.cells #[.int .i64 (-1)] 2)).drew) (b := w32.heap.size) HIT32.out.mr (Nat.le_succ _) (below_dr (below_alloc _ _)) (by unfold maxLen; (try simp); omega) (by simp [go_sem]) (by simp [go_sem]) (Nat.le_refl _))
          have hx0 : ¬ w.heap.size + 1 = w32.heap.size := by omega
          have hx1 : ¬ w.heap.size = w32.heap.size := by omega
          have hx2 : w.heap.size < w32.heap.size := by omega
          have hx3 : w.heap.size + 1 < w32.heap.size := by omega
          go_wp2
          refine wp_region_C (n := 11) (l := #[false, false, false, false, false, false, false, false, false, false, false]) (fun wx => wx.cell? ⟨w.heap.size + 1, 0, none⟩ = some (.int .i64 K) ∧ wx.cell? ⟨w.heap.size + 1, 1, none⟩ = some (.slice (some ⟨gl32, 0, none⟩) ((rulesTo R os mode K os.length).length + 1) cl32)) [10] (by kernel_rfl) rfl rfl ?_
          refine wpC_take (i := 0) (v := ?v0_24) (l' := #[true, false, false, false, false, false, false, false, false, false, false]) [1, 2, 3, 9, 10] rfl (by kernel_rfl) (by kernel_rfl) (by kernel_rfl) (by kernel_rfl) (by kernel_rfl) rfl (fun _ _ _ h => h) (by rfl) (fun wx hS => ?q0_24) (by assumption) ?_
          case q0_24 => (go_simp; try with_reducible rfl)
          try simp only [List.getElem_toArray, List.getElem_cons_zero, Act.put, List.setIfInBounds_toArray, List.set_cons_zero, List.set_cons_succ]
          refine wpC_take (i := 1) (v := ?v1_25) (l' := #[true, true, false, false, false, false, false, false, false, false, false]) [2, 3, 9, 10] rfl (by kernel_rfl) (by kernel_rfl) (by kernel_rfl) (by kernel_rfl) (by kernel_rfl) rfl (fun _ _ _ h => h) (by rfl) (fun wx hS => ?q1_25) (by assumption) ?_
          case q1_25 => (go_simp; try with_reducible rfl)
          try simp only [List.getElem_toArray, List.getElem_cons_succ, List.getElem_cons_zero, Act.put, List.setIfInBounds_toArray, List.set_cons_zero, List.set_cons_succ]
          refine wpC_take (i := 2) (v := ?v2_26) (l' := #[true, true, true, false, false, false, false, false, false, false, false]) [3, 9, 10] rfl (by kernel_rfl) (by kernel_rfl) (by kernel_rfl) (by kernel_rfl) (by kernel_rfl) rfl (fun _ _ _ h => h) (by rfl) (fun wx hS => ?q2_26) (by assumption) ?_
          case q2_26 => (go_simp; try with_reducible rfl)
          try simp only [List.getElem_toArray, List.getElem_cons_succ, List.getElem_cons_zero, Act.put, List.setIfInBounds_toArray, List.set_cons_zero, List.set_cons_succ]
          refine wpC_take (i := 3) (v := ?v3_27) (l' := #[true, true, true, true, false, false, false, false, false, false, false]) [9, 10] rfl (by kernel_rfl) (by kernel_rfl) (by kernel_rfl) (by kernel_rfl) (by kernel_rfl) rfl (fun _ _ _ h => h) (by rfl) (fun wx hS => ?q3_27) (by assumption) ?_
          case q3_27 => ((try dsimp only at hS); obtain ⟨hS1, hS2⟩ := hS; go_simp; try with_reducible rfl)
          try simp only [List.getElem_toArray, List.getElem_cons_succ, List.getElem_cons_zero, Act.put, List.setIfInBounds_toArray, List.set_cons_zero, List.set_cons_succ]
          refine wpC_take (i := 5) (v := ?v5_28) (l' := #[true, true, true, true, false, true, false, false, false, false, false]) [6, 7, 8, 9, 10] rfl (by kernel_rfl) (by kernel_rfl) (by kernel_rfl) (by kernel_rfl) (by kernel_rfl) rfl (fun _ _ _ h => h) (by rfl) (fun wx hS => ?q5_28) (by assumption) ?_
          case q5_28 => (go_simp; try with_reducible rfl)
          try simp only [List.getElem_toArray, List.getElem_cons_succ, List.getElem_cons_zero, Act.put, List.setIfInBounds_toArray, List.set_cons_zero, List.set_cons_succ]
          refine wpC_take (i := 6) (v := ?v6_29) (l' := #[true, true, true, true, false, true, true, false, false, false, false]) [7, 8, 9, 10] rfl (by kernel_rfl) (by kernel_rfl) (by kernel_rfl) (by kernel_rfl) (by kernel_rfl) rfl (fun _ _ _ h => h) (by rfl) (fun wx hS => ?q6_29) (by assumption) ?_
          case q6_29 => (go_simp; try with_reducible rfl)
          try simp only [List.getElem_toArray, List.getElem_cons_succ, List.getElem_cons_zero, Act.put, List.setIfInBounds_toArray, List.set_cons_zero, List.set_cons_succ]
          refine wpC_take (i := 7) (v := ?v7_30) (l' := #[true, true, true, true, false, true, true, true, false, false, false]) [8, 9, 10] rfl (by kernel_rfl) (by kernel_rfl) (by kernel_rfl) (by kernel_rfl) (by kernel_rfl) rfl (fun _ _ _ h => h) (by rfl) (fun wx hS => ?q7_30) (by assumption) ?_
          case q7_30 => (go_simp; try with_reducible rfl)
          try simp only [List.getElem_toArray, List.getElem_cons_succ, List.getElem_cons_zero, Act.put, List.setIfInBounds_toArray, List.set_cons_zero, List.set_cons_succ]
          refine wpC_take (i := 8) (v := ?v8_31) (l' := #[true, true, true, true, false, true, true, true, true, false, false]) [9, 10] rfl (by kernel_rfl) (by kernel_rfl) (by kernel_rfl) (by kernel_rfl) (by kernel_rfl) rfl (fun _ _ _ h => h) (by rfl) (fun wx hS => ?q8_31) (by assumption) ?_
          case q8_31 => ((try dsimp only at hS); obtain ⟨hS1, hS2⟩ := hS; go_simp; try with_reducible rfl)
          try simp only [List.getElem_toArray, List.getElem_cons_succ, List.getElem_cons_zero, Act.put, List.setIfInBounds_toArray, List.set_cons_zero, List.set_cons_succ]
          refine wpC_one (i := 4) (l' := #[true, true, true, true, true, true, true, true, true, false, false]) (by kernel_rfl) rfl rfl (by rfl) (fun Kr hKr => ?_)
          go_simp
          refine hKr _ _ (fun _ => ⟨(bcell1 (below_alloc _ _) hx3).trans hq0, (bcell1 (below_alloc _ _) hx3).trans hq1⟩) ?_
          clear hKr Kr
          try simp only [List.getElem_toArray, List.getElem_cons_succ, List.getElem_cons_zero, Act.put, List.setIfInBounds_toArray, List.set_cons_zero, List.set_cons_succ]
          obtain ⟨wS, hwS⟩ : ∃ wz, wz = (w32.alloc (.cells #[.int .i64 (-1)] 2)).drew := ⟨_, rfl⟩
          rw [← hwS]
          have hbS : Below w32.heap.size w32 wS := by rw [hwS]; exact below_dr (below_alloc _ _)
          have hs4 : wS.cell? ⟨w.heap.size + 1, 0, none⟩ = some (.int .i64 K) ∧ wS.cell? ⟨w.heap.size + 1, 1, none⟩ = some (.slice (some ⟨gl32, 0, none⟩) ((rulesTo R os mode K os.length).length + 1) cl32) := ⟨(bcell1 hbS hx3).trans hq0, (bcell1 hbS hx3).trans hq1⟩
          have sA := set3 wS w.heap.size (.int .i64 K) (.slice (some ⟨w32.heap.size, 0, none⟩) 1 1) (.slice (some ⟨gl32, 0, none⟩) ((rulesTo R os mode K os.length).length + 1) cl32) ((bcell1 hbS hx2).trans rr0) ((bcell1 hbS hx2).trans rr1) ((bcell1 hbS hx2).trans rr2)
          have rs0 : wS.cell? ⟨w.heap.size, 0, none⟩ = some (.int .i64 0) := (bcell1 hbS hx2).trans rr0
          have ry0 : wS.frozen? ⟨w.heap.size, 0, none⟩ = false := (hbS.frozen (p := ⟨w.heap.size, 0, none⟩) hx2).trans rz0
          have rs1 : wS.cell? ⟨w.heap.size, 1, none⟩ = some (.slice none 0 0) := (bcell1 hbS hx2).trans rr1
          have ry1 : wS.frozen? ⟨w.heap.size, 1, none⟩ = false := (hbS.frozen (p := ⟨w.heap.size, 1, none⟩) hx2).trans rz1
          have rs2 : wS.cell? ⟨w.heap.size, 2, none⟩ = some (.slice none 0 0) := (bcell1 hbS hx2).trans rr2
          have ry2 : wS.frozen? ⟨w.heap.size, 2, none⟩ = false := (hbS.frozen (p := ⟨w.heap.size, 2, none⟩) hx2).trans rz2
          have HSYS2 := HSYS.out
          rw [← hwS] at HSYS2
          clear HSYS rr0 rr1 rr2 rz0 rz1 rz2 hwS
          refine wpC_take (i := 9) (v := ?v9_32) (l' := #[true, true, true, true, true, true, true, true, true, true, false]) [10] rfl (by kernel_rfl) (by kernel_rfl) (by kernel_rfl) (by kernel_rfl) (by kernel_rfl) rfl (fun _ _ _ h => h) (by rfl) (fun wx hS => ?q9_32) (by assumption) ?_
          case q9_32 => (go_simp; try with_reducible rfl)
          try simp only [List.getElem_toArray, List.getElem_cons_succ, List.getElem_cons_zero, Act.put, List.setIfInBounds_toArray, List.set_cons_zero, List.set_cons_succ]
          refine wpC_one (i := 10) (l' := #[true, true, true, true, true, true, true, true, true, true, true]) (by kernel_rfl) rfl rfl (by rfl) (fun Kr hKr => ?_)
          go_simp
          refine hKr _ _ (fun h => absurd (by decide) h) ?_
          clear hKr Kr
          try simp only [List.getElem_toArray, List.getElem_cons_succ, List.getElem_cons_zero, Act.put, List.setIfInBounds_toArray, List.set_cons_zero, List.set_cons_succ]
          refine wpC_done (by kernel_rfl) ?_ _
          go_wp2
          refine bodyPost_ret (v := .agg #[.int .i64 K, .slice (some ⟨w32.heap.size, 0, none⟩) 1 1, (.slice (some ⟨gl32, 0, none⟩) ((rulesTo R os mode K os.length).length + 1) cl32)]) (by simp [results, Try.results127, go_sem, sA]) rfl ?_
          obtain ⟨F, ho1, ho2, ho3⟩ := HSYS2
          have hF : w.heap.size ∉ F := fun e => by have := ho3 _ e; omega
          refine ⟨_, F, rfl, ?_, by rw [HRS.out]; exact ((ho1.put1 hF _).put1 hF _).put1 hF _, ho2, fun x hx => by have := ho3 x hx; omega⟩
          exact ((((below_alloc w (.cells #[.int .i64 0, .slice none 0 0, .slice none 0 0] 120)).trans ((HIT32.out.hb.trans (hbS.mono (by omega))).mono (by omega))).setCell (Nat.le_refl _) _).setCell (Nat.le_refl _) _).setCell (Nat.le_refl _) _
        · go_simp
          refine hKr _ _ (fun _ => hkp _ ((below_dr (below_alloc _ _)))) ?_
          clear hKr Kr
          try simp only [List.getElem_toArray, List.getElem_cons_succ, List.getElem_cons_zero, Act.put, List.setIfInBounds_toArray, List.set_cons_zero, List.set_cons_succ]
          refine wpC_one (i := 6) (l' := #[true, true, true, true, true, true, true, true, true, true, true, true, true, true, true, false]) (by kernel_rfl) rfl rfl (by rfl) (fun Kr hKr => ?_)
          go_simp
          refine hKr _ _ (fun _ => hkp _ ((below_dr (below_al (below_alloc _ _) _)))) ?_
          clear hKr Kr
          try simp only [List.getElem_toArray, List.getElem_cons_succ, List.getElem_cons_zero, Act.put, List.setIfInBounds_toArray, List.set_cons_zero, List.set_cons_succ]
          refine wpC_one (i := 15) (l' := #[true, true, true, true, true, true, true, true, true, true, true, true, true, true, true, true]) (by kernel_rfl) rfl rfl (by rfl) (fun Kr hKr => ?_)
          refine step_callV rfl 157 #[.tmp 180, .const (.int .i64 0), .tmp 186, .tmp 187, .tmp 188, .tmp 194] _ rfl HRUN.out #[.pointer (some ⟨w.heap.size + 1, 0, none⟩), .int .i64 0, .slice (some ⟨wr.heap.size + 1, 0, none⟩) 1 1, .slice (some ⟨w.heap.size + 1 + 1, 0, none⟩) 0 0, .slice (some ⟨w.heap.size + 1 + 1, 0, none⟩) 0 0, .slice (some ⟨wr.heap.size, 0, none⟩) 1 1] (by first | rfl | (simp [Act.eval]; done) | (simp [Act.eval]; rfl) | (simp [Act.eval]; repeat' constructor)) (srule_c K (w.heap.size + 1) 0 (some ⟨wr.heap.size + 1, 0, none⟩) (some ⟨w.heap.size + 1 + 1, 0, none⟩) (some ⟨w.heap.size + 1 + 1, 0, none⟩) (some ⟨wr.heap.size, 0, none⟩) 1 0 0 1 [((K : Int) - 1)] [] [] [((K : Int) - 1)] (w.heap.size + 1) (rulesTo R os mode K os.length) v G ((wr.alloc (.cells #[.int .i64 ((K : Int) - 1)] 2)).alloc (.cells #[.int .i64 ((K : Int) - 1)] 2)).drew (HIT.out.keep (below_dr (below_al (below_alloc _ _) _))).mr (by (try simp); omega) (SlI.one (by simp [go_sem])) (SlI.nil0 _ _) (SlI.nil0 _ _) (SlI.one (by simp [go_sem])) (by simp) (by simp) (by simp) (by simp) (rng1 (by omega)) (by simp) (by simp) (rng1 (by omega)) hk2 (by (try simp); omega)) ?_
          rintro e w32 ⟨gl32, cl32, G32, rfl, hN⟩
          refine ⟨_, rfl, ?_⟩
          have HIT32 := Lib.hid ((HIT.out.keep (below_dr (below_al (below_alloc _ _) _))).rule hN)
          refine hKr _ _ (fun h => absurd (by decide) h) ?_
          clear hKr Kr
          try simp only [List.getElem_toArray, List.getElem_cons_succ, List.getElem_cons_zero, Act.put, List.setIfInBounds_toArray, List.set_cons_zero, List.set_cons_succ]
          refine wpC_done (by kernel_rfl) ?_ _
          clear hs0 hkp
          have hq0 := HIT32.out.mr.c0
          have hq1 := HIT32.out.mr.c1
          have rr0 : w32.cell? ⟨w.heap.size, 0, none⟩ = some (.int .i64 0) := (bcell1 HIT32.out.hb (by omega)).trans (by simp [go_sem])
          have rz0 : w32.frozen? ⟨w.heap.size, 0, none⟩ = false := (HIT32.out.hb.frozen (p := ⟨w.heap.size, 0, none⟩) (by simp)).trans (by simp [go_sem])
          have rr1 : w32.cell? ⟨w.heap.size, 1, none⟩ = some (.slice none 0 0) := (bcell1 HIT32.out.hb (by omega)).trans (by simp [go_sem])
          have rz1 : w32.frozen? ⟨w.heap.size, 1, none⟩ = false := (HIT32.out.hb.frozen (p := ⟨w.heap.size, 1, none⟩) (by simp)).trans (by simp [go_sem])
          have rr2 : w32.cell? ⟨w.heap.size, 2, none⟩ = some (.slice none 0 0) := (bcell1 HIT32.out.hb (by omega)).trans (by simp [go_sem])
          have rz2 : w32.frozen? ⟨w.heap.size, 2, none⟩ = false := (HIT32.out.hb.frozen (p := ⟨w.heap.size, 2, none⟩) (by simp)).trans (by simp [go_sem])
          have hs0 : w32.drew.cell? ⟨w.heap.size + 1, 0, none⟩ = some (.int .i64 K) ∧ w32.drew.cell? ⟨w.heap.size + 1, 1, none⟩ = some (.slice (some ⟨gl32, 0, none⟩) ((rulesTo R os mode K os.length).length + 1) cl32) := ⟨hq0, hq1⟩
          have zA : w.heap.size + 1 < w32.heap.size := HIT32.out.mr.hg.2
          have HSYS := Lib.hid (RetA.sys (w7 := (w32.alloc (.cells #[.int .i64 (-1)] 2)).drew) (b := w32.heap.size) HIT32.out.mr (Nat.le_succ _) (below_dr (below_alloc _ _)) (by unfold maxLen; (try simp); omega) (by simp [go_sem]) (by simp [go_sem]) (Nat.le_refl _))
          have hx0 : ¬ w.heap.size + 1 = w32.heap.size := by omega
          have hx1 : ¬ w.heap.size = w32.heap.size := by omega
          have hx2 : w.heap.size < w32.heap.size := by omega
          have hx3 : w.heap.size + 1 < w32.heap.size := by omega
          go_wp2
          refine wp_region_C (n := 11) (l := #[false, false, false, false, false, false, false, false, false, false, false]) (fun wx => wx.cell? ⟨w.heap.size + 1, 0, none⟩ = some (.int .i64 K) ∧ wx.cell? ⟨w.heap.size + 1, 1, none⟩ = some (.slice (some ⟨gl32, 0, none⟩) ((rulesTo R os mode K os.length).length + 1) cl32)) [10] (by kernel_rfl) rfl rfl ?_
          refine wpC_take (i := 0) (v := ?v0_33) (l' := #[true, false, false, false, false, false, false, false, false, false, false]) [1, 2, 3, 9, 10] rfl (by kernel_rfl) (by kernel_rfl) (by kernel_rfl) (by kernel_rfl) (by kernel_rfl) rfl (fun _ _ _ h => h) (by rfl) (fun wx hS => ?q0_33) (by assumption) ?_
          case q0_33 => (go_simp; try with_reducible rfl)
          try simp only [List.getElem_toArray, List.getElem_cons_zero, Act.put, List.setIfInBounds_toArray, List.set_cons_zero, List.set_cons_succ]
          refine wpC_take (i := 1) (v := ?v1_34) (l' := #[true, true, false, false, false, false, false, false, false, false, false]) [2, 3, 9, 10] rfl (by kernel_rfl) (by kernel_rfl) (by kernel_rfl) (by kernel_rfl) (by kernel_rfl) rfl (fun _ _ _ h => h) (by rfl) (fun wx hS => ?q1_34) (by assumption) ?_
          case q1_34 => (go_simp; try with_reducible rfl)
          try simp only [List.getElem_toArray, List.getElem_cons_succ, List.getElem_cons_zero, Act.put, List.setIfInBounds_toArray, List.set_cons_zero, List.set_cons_succ]
          refine wpC_take (i := 2) (v := ?v2_35) (l' := #[true, true, true, false, false, false, false, false, false, false, false]) [3, 9, 10] rfl (by kernel_rfl) (by kernel_rfl) (by kernel_rfl) (by kernel_rfl) (by kernel_rfl) rfl (fun _ _ _ h => h) (by rfl) (fun wx hS => ?q2_35) (by assumption) ?_
          case q2_35 => (go_simp; try with_reducible rfl)
          try simp only [List.getElem_toArray, List.getElem_cons_succ, List.getElem_cons_zero, Act.put, List.setIfInBounds_toArray, List.set_cons_zero, List.set_cons_succ]
          refine wpC_take (i := 3) (v := ?v3_36) (l' := #[true, true, true, true, false, false, false, false, false, false, false]) [9, 10] rfl (by kernel_rfl) (by kernel_rfl) (by kernel_rfl) (by kernel_rfl) (by kernel_rfl) rfl (fun _ _ _ h => h) (by rfl) (fun wx hS => ?q3_36) (by assumption) ?_
          case q3_36 => ((try dsimp only at hS); obtain ⟨hS1, hS2⟩ := hS; go_simp; try with_reducible rfl)
          try simp only [List.getElem_toArray, List.getElem_cons_succ, List.getElem_cons_zero, Act.put, List.setIfInBounds_toArray, List.set_cons_zero, List.set_cons_succ]
          refine wpC_take (i := 5) (v := ?v5_37) (l' := #[true, true, true, true, false, true, false, false, false, false, false]) [6, 7, 8, 9, 10] rfl (by kernel_rfl) (by kernel_rfl) (by kernel_rfl) (by kernel_rfl) (by kernel_rfl) rfl (fun _ _ _ h => h) (by rfl) (fun wx hS => ?q5_37) (by assumption) ?_
          case q5_37 => (go_simp; try with_reducible rfl)
          try simp only [List.getElem_toArray, List.getElem_cons_succ, List.getElem_cons_zero, Act.put, List.setIfInBounds_toArray, List.set_cons_zero, List.set_cons_succ]
          refine wpC_take (i := 6) (v := ?v6_38) (l' := #[true, true, true, true, false, true, true, false, false, false, false]) [7, 8, 9, 10] rfl (by kernel_rfl) (by kernel_rfl) (by kernel_rfl) (by kernel_rfl) (by kernel_rfl) rfl (fun _ _ _ h => h) (by rfl) (fun wx hS => ?q6_38) (by assumption) ?_
          case q6_38 => (go_simp; try with_reducible rfl)
          try simp only [List.getElem_toArray, List.getElem_cons_succ, List.getElem_cons_zero, Act.put, List.setIfInBounds_toArray, List.set_cons_zero, List.set_cons_succ]
          refine wpC_take (i := 7) (v := ?v7_39) (l' := #[true, true, true, true, false, true, true, true, false, false, false]) [8, 9, 10] rfl (by kernel_rfl) (by kernel_rfl) (by kernel_rfl) (by kernel_rfl) (by kernel_rfl) rfl (fun _ _ _ h => h) (by rfl) (fun wx hS => ?q7_39) (by assumption) ?_
          case q7_39 => (go_simp; try with_reducible rfl)
          try simp only [List.getElem_toArray, List.getElem_cons_succ, List.getElem_cons_zero, Act.put, List.setIfInBounds_toArray, List.set_cons_zero, List.set_cons_succ]
          refine wpC_take (i := 8) (v := ?v8_40) (l' := #[true, true, true, true, false, true, true, true, true, false, false]) [9, 10] rfl (by kernel_rfl) (by kernel_rfl) (by kernel_rfl) (by kernel_rfl) (by kernel_rfl) rfl (fun _ _ _ h => h) (by rfl) (fun wx hS => ?q8_40) (by assumption) ?_
          case q8_40 => ((try dsimp only at hS); obtain ⟨hS1, hS2⟩ := hS; go_simp; try with_reducible rfl)
          try simp only [List.getElem_toArray, List.getElem_cons_succ, List.getElem_cons_zero, Act.put, List.setIfInBounds_toArray, List.set_cons_zero, List.set_cons_succ]
          refine wpC_one (i := 4) (l' := #[true, true, true, true, true, true, true, true, true, false, false]) (by kernel_rfl) rfl rfl (by rfl) (fun Kr hKr => ?_)
          go_simp
          refine hKr _ _ (fun _ => ⟨(bcell1 (below_alloc _ _) hx3).trans hq0, (bcell1 (below_alloc _ _) hx3).trans hq1⟩) ?_
          clear hKr Kr
          try simp only [List.getElem_toArray, List.getElem_cons_succ, List.getElem_cons_zero, Act.put, List.setIfInBounds_toArray, List.set_cons_zero, List.set_cons_succ]
          obtain ⟨wS, hwS⟩ : ∃ wz, wz = (w32.alloc (.cells #[.int .i64 (-1)] 2)).drew := ⟨_, rfl⟩
          rw [← hwS]
          have hbS : Below w32.heap.size w32 wS := by rw [hwS]; exact below_dr (below_alloc _ _)
          have hs4 : wS.cell? ⟨w.heap.size + 1, 0, none⟩ = some (.int .i64 K) ∧ wS.cell? ⟨w.heap.size + 1, 1, none⟩ = some (.slice (some ⟨gl32, 0, none⟩) ((rulesTo R os mode K os.length).length + 1) cl32) := ⟨(bcell1 hbS hx3).trans hq0, (bcell1 hbS hx3).trans hq1⟩
          have sA := set3 wS w.heap.size (.int .i64 K) (.slice (some ⟨w32.heap.size, 0, none⟩) 1 1) (.slice (some ⟨gl32, 0, none⟩) ((rulesTo R os mode K os.length).length + 1) cl32) ((bcell1 hbS hx2).trans rr0) ((bcell1 hbS hx2).trans rr1) ((bcell1 hbS hx2).trans rr2)
          have rs0 : wS.cell? ⟨w.heap.size, 0, none⟩ = some (.int .i64 0) := (bcell1 hbS hx2).trans rr0
          have ry0 : wS.frozen? ⟨w.heap.size, 0, none⟩ = false := (hbS.frozen (p := ⟨w.heap.size, 0, none⟩) hx2).trans rz0
          have rs1 : wS.cell? ⟨w.heap.size, 1, none⟩ = some (.slice none 0 0) := (bcell1 hbS hx2).trans rr1
          have ry1 : wS.frozen? ⟨w.heap.size, 1, none⟩ = false := (hbS.frozen (p := ⟨w.heap.size, 1, none⟩) hx2).trans rz1
          have rs2 : wS.cell? ⟨w.heap.size, 2, none⟩ = some (.slice none 0 0) := (bcell1 hbS hx2).trans rr2
          have ry2 : wS.frozen? ⟨w.heap.size, 2, none⟩ = false := (hbS.frozen (p := ⟨w.heap.size, 2, none⟩) hx2).trans rz2
          have HSYS2 := HSYS.out
          rw [← hwS] at HSYS2
          clear HSYS rr0 rr1 rr2 rz0 rz1 rz2 hwS
          refine wpC_take (i := 9) (v := ?v9_41) (l' := #[true, true, true, true, true, true, true, true, true, true, false]) [10] rfl (by kernel_rfl) (by kernel_rfl) (by kernel_rfl) (by kernel_rfl) (by kernel_rfl) rfl (fun _ _ _ h => h) (by rfl) (fun wx hS => ?q9_41) (by assumption) ?_
          case q9_41 => (go_simp; try with_reducible rfl)
          try simp only [List.getElem_toArray, List.getElem_cons_succ, List.getElem_cons_zero, Act.put, List.setIfInBounds_toArray, List.set_cons_zero, List.set_cons_succ]
          refine wpC_one (i := 10) (l' := #[true, true, true, true, true, true, true, true, true, true, true]) (by kernel_rfl) rfl rfl (by rfl) (fun Kr hKr => ?_)
          go_simp
          refine hKr _ _ (fun h => absurd (by decide) h) ?_
          clear hKr Kr
          try simp only [List.getElem_toArray, List.getElem_cons_succ, List.getElem_cons_zero, Act.put, List.setIfInBounds_toArray, List.set_cons_zero, List.set_cons_succ]
          refine wpC_done (by kernel_rfl) ?_ _
          go_wp2
          refine bodyPost_ret (v := .agg #[.int .i64 K, .slice (some ⟨w32.heap.size, 0, none⟩) 1 1, (.slice (some ⟨gl32, 0, none⟩) ((rulesTo R os mode K os.length).length + 1) cl32)]) (by simp [results, Try.results127, go_sem, sA]) rfl ?_
          obtain ⟨F, ho1, ho2, ho3⟩ := HSYS2
          have hF : w.heap.size ∉ F := fun e => by have := ho3 _ e; omega
          refine ⟨_, F, rfl, ?_, by rw [HRS.out]; exact ((ho1.put1 hF _).put1 hF _).put1 hF _, ho2, fun x hx => by have := ho3 x hx; omega⟩
          exact ((((below_alloc w (.cells #[.int .i64 0, .slice none 0 0, .slice none 0 0] 120)).trans ((HIT32.out.hb.trans (hbS.mono (by omega))).mono (by omega))).setCell (Nat.le_refl _) _).setCell (Nat.le_refl _) _).setCell (Nat.le_refl _) _
      · have hr3 : (mode == 3) = false := by simpa using hm3
        have HRS : Hid (rulesS R os mode = (rulesTo R os mode K os.length)) := Lib.hid (by rw [rulesS, if_neg hm3, ← HKE.out, List.append_nil])
        clear hm3
        have hlr := rulesTo_len R os mode K os.length
        obtain ⟨_, av, cv, rfl⟩ := HIT.out.mr.lst.val
        have hq0 := HIT.out.mr.c0
        have hq1 := HIT.out.mr.c1
        have rr0 : wr.cell? ⟨w.heap.size, 0, none⟩ = some (.int .i64 0) := (bcell1 HIT.out.hb (by omega)).trans (by simp [go_sem])
        have rz0 : wr.frozen? ⟨w.heap.size, 0, none⟩ = false := (HIT.out.hb.frozen (p := ⟨w.heap.size, 0, none⟩) (by simp)).trans (by simp [go_sem])
        have rr1 : wr.cell? ⟨w.heap.size, 1, none⟩ = some (.slice none 0 0) := (bcell1 HIT.out.hb (by omega)).trans (by simp [go_sem])
        have rz1 : wr.frozen? ⟨w.heap.size, 1, none⟩ = false := (HIT.out.hb.frozen (p := ⟨w.heap.size, 1, none⟩) (by simp)).trans (by simp [go_sem])
        have rr2 : wr.cell? ⟨w.heap.size, 2, none⟩ = some (.slice none 0 0) := (bcell1 HIT.out.hb (by omega)).trans (by simp [go_sem])
        have rz2 : wr.frozen? ⟨w.heap.size, 2, none⟩ = false := (HIT.out.hb.frozen (p := ⟨w.heap.size, 2, none⟩) (by simp)).trans (by simp [go_sem])
        have hs0 : wr.drew.cell? ⟨w.heap.size + 1, 0, none⟩ = some (.int .i64 K) ∧ wr.drew.cell? ⟨w.heap.size + 1, 1, none⟩ = some (.slice av (rulesTo R os mode K os.length).length cv) := ⟨hq0, hq1⟩
        have zA : w.heap.size + 1 < wr.heap.size := HIT.out.mr.hg.2
        have HSYS := Lib.hid (RetA.sys (w7 := (wr.alloc (.cells #[.int .i64 (-1)] 2)).drew) (b := wr.heap.size) HIT.out.mr (Nat.le_succ _) (below_dr (below_alloc _ _)) (by unfold maxLen; (try simp); omega) (by simp [go_sem]) (by simp [go_sem]) (Nat.le_refl _))
        have hx0 : ¬ w.heap.size + 1 = wr.heap.size := by omega
        have hx1 : ¬ w.heap.size = wr.heap.size := by omega
        have hx2 : w.heap.size < wr.heap.size := by omega
        have hx3 : w.heap.size + 1 < wr.heap.size := by omega
        go_wp2
        refine wp_region_C (n := 11) (l := #[false, false, false, false, false, false, false, false, false, false, false]) (fun wx => wx.cell? ⟨w.heap.size + 1, 0, none⟩ = some (.int .i64 K) ∧ wx.cell? ⟨w.heap.size + 1, 1, none⟩ = some (.slice av (rulesTo R os mode K os.length).length cv)) [10] (by kernel_rfl) rfl rfl ?_
        refine wpC_take (i := 0) (v := ?v0_42) (l' := #[true, false, false, false, false, false, false, false, false, false, false]) [1, 2, 3, 9, 10] rfl (by kernel_rfl) (by kernel_rfl) (by kernel_rfl) (by kernel_rfl) (by kernel_rfl) rfl (fun _ _ _ h => h) (by rfl) (fun wx hS => ?q0_42) (by assumption) ?_
        case q0_42 => (go_simp; try with_reducible rfl)
        try simp only [List.getElem_toArray, List.getElem_cons_zero, Act.put, List.setIfInBounds_toArray, List.set_cons_zero, List.set_cons_succ]
        refine wpC_take (i := 1) (v := ?v1_43) (l' := #[true, true, false, false, false, false, false, false, false, false, false]) [2, 3, 9, 10] rfl (by kernel_rfl) (by kernel_rfl) (by kernel_rfl) (by kernel_rfl) (by kernel_rfl) rfl (fun _ _ _ h => h) (by rfl) (fun wx hS => ?q1_43) (by assumption) ?_
        case q1_43 => (go_simp; try with_reducible rfl)
        try simp only [List.getElem_toArray, List.getElem_cons_succ, List.getElem_cons_zero, Act.put, List.setIfInBounds_toArray, List.set_cons_zero, List.set_cons_succ]
        refine wpC_take (i := 2) (v := ?v2_44) (l' := #[true, true, true, false, false, false, false, false, false, false, false]) [3, 9, 10] rfl (by kernel_rfl) (by kernel_rfl) (by kernel_rfl) (by kernel_rfl) (by kernel_rfl) rfl (fun _ _ _ h => h) (by rfl) (fun wx hS => ?q2_44) (by assumption) ?_
        case q2_44 => (go_simp; try with_reducible rfl)
        try simp only [List.getElem_toArray, List.getElem_cons_succ, List.getElem_cons_zero, Act.put, List.setIfInBounds_toArray, List.set_cons_zero, List.set_cons_succ]
        refine wpC_take (i := 3) (v := ?v3_45) (l' := #[true, true, true, true, false, false, false, false, false, false, false]) [9, 10] rfl (by kernel_rfl) (by kernel_rfl) (by kernel_rfl) (by kernel_rfl) (by kernel_rfl) rfl (fun _ _ _ h => h) (by rfl) (fun wx hS => ?q3_45) (by assumption) ?_
        case q3_45 => ((try dsimp only at hS); obtain ⟨hS1, hS2⟩ := hS; go_simp; try with_reducible rfl)
        try simp only [List.getElem_toArray, List.getElem_cons_succ, List.getElem_cons_zero, Act.put, List.setIfInBounds_toArray, List.set_cons_zero, List.set_cons_succ]
        refine wpC_take (i := 5) (v := ?v5_46) (l' := #[true, true, true, true, false, true, false, false, false, false, false]) [6, 7, 8, 9, 10] rfl (by kernel_rfl) (by kernel_rfl) (by kernel_rfl) (by kernel_rfl) (by kernel_rfl) rfl (fun _ _ _ h => h) (by rfl) (fun wx hS => ?q5_46) (by assumption) ?_
        case q5_46 => (go_simp; try with_reducible rfl)
        try simp only [List.getElem_toArray, List.getElem_cons_succ, List.getElem_cons_zero, Act.put, List.setIfInBounds_toArray, List.set_cons_zero, List.set_cons_succ]
        refine wpC_take (i := 6) (v := ?v6_47) (l' := #[true, true, true, true, false, true, true, false, false, false, false]) [7, 8, 9, 10] rfl (by kernel_rfl) (by kernel_rfl) (by kernel_rfl) (by kernel_rfl) (by kernel_rfl) rfl (fun _ _ _ h => h) (by rfl) (fun wx hS => ?q6_47) (by assumption) ?_
        case q6_47 => (go_simp; try with_reducible rfl)
        try simp only [List.getElem_toArray, List.getElem_cons_succ, List.getElem_cons_zero, Act.put, List.setIfInBounds_toArray, List.set_cons_zero, List.set_cons_succ]
        refine wpC_take (i := 7) (v := ?v7_48) (l' := #[true, true, true, true, false, true, true, true, false, false, false]) [8, 9, 10] rfl (by kernel_rfl) (by kernel_rfl) (by kernel_rfl) (by kernel_rfl) (by kernel_rfl) rfl (fun _ _ _ h => h) (by rfl) (fun wx hS => ?q7_48) (by assumption) ?_
        case q7_48 => (go_simp; try with_reducible rfl)
        try simp only [List.getElem_toArray, List.getElem_cons_succ, List.getElem_cons_zero, Act.put, List.setIfInBounds_toArray, List.set_cons_zero, List.set_cons_succ]
        refine wpC_take (i := 8) (v := ?v8_49) (l' := #[true, true, true, true, false, true, true, true, true, false, false]) [9, 10] rfl (by kernel_rfl) (by kernel_rfl) (by kernel_rfl) (by kernel_rfl) (by kernel_rfl) rfl (fun _ _ _ h => h) (by rfl) (fun wx hS => ?q8_49) (by assumption) ?_
        case q8_49 => ((try dsimp only at hS); obtain ⟨hS1, hS2⟩ := hS; go_simp; try with_reducible rfl)
        try simp only [List.getElem_toArray, List.getElem_cons_succ, List.getElem_cons_zero, Act.put, List.setIfInBounds_toArray, List.set_cons_zero, List.set_cons_succ]
        refine wpC_one (i := 4) (l' := #[true, true, true, true, true, true, true, true, true, false, false]) (by kernel_rfl) rfl rfl (by rfl) (fun Kr hKr => ?_)
        go_simp
        refine hKr _ _ (fun _ => ⟨(bcell1 (below_alloc _ _) hx3).trans hq0, (bcell1 (below_alloc _ _) hx3).trans hq1⟩) ?_
        clear hKr Kr
        try simp only [List.getElem_toArray, List.getElem_cons_succ, List.getElem_cons_zero, Act.put, List.setIfInBounds_toArray, List.set_cons_zero, List.set_cons_succ]
        obtain ⟨wS, hwS⟩ : ∃ wz, wz = (wr.alloc (.cells #[.int .i64 (-1)] 2)).drew := ⟨_, rfl⟩
        rw [← hwS]
        have hbS : Below wr.heap.size wr wS := by rw [hwS]; exact below_dr (below_alloc _ _)
        have hs4 : wS.cell? ⟨w.heap.size + 1, 0, none⟩ = some (.int .i64 K) ∧ wS.cell? ⟨w.heap.size + 1, 1, none⟩ = some (.slice av (rulesTo R os mode K os.length).length cv) := ⟨(bcell1 hbS hx3).trans hq0, (bcell1 hbS hx3).trans hq1⟩
        have sA := set3 wS w.heap.size (.int .i64 K) (.slice (some ⟨wr.heap.size, 0, none⟩) 1 1) (.slice av (rulesTo R os mode K os.length).length cv) ((bcell1 hbS hx2).trans rr0) ((bcell1 hbS hx2).trans rr1) ((bcell1 hbS hx2).trans rr2)
        have rs0 : wS.cell? ⟨w.heap.size, 0, none⟩ = some (.int .i64 0) := (bcell1 hbS hx2).trans rr0
        have ry0 : wS.frozen? ⟨w.heap.size, 0, none⟩ = false := (hbS.frozen (p := ⟨w.heap.size, 0, none⟩) hx2).trans rz0
        have rs1 : wS.cell? ⟨w.heap.size, 1, none⟩ = some (.slice none 0 0) := (bcell1 hbS hx2).trans rr1
        have ry1 : wS.frozen? ⟨w.heap.size, 1, none⟩ = false := (hbS.frozen (p := ⟨w.heap.size, 1, none⟩) hx2).trans rz1
        have rs2 : wS.cell? ⟨w.heap.size, 2, none⟩ = some (.slice none 0 0) := (bcell1 hbS hx2).trans rr2
        have ry2 : wS.frozen? ⟨w.heap.size, 2, none⟩ = false := (hbS.frozen (p := ⟨w.heap.size, 2, none⟩) hx2).trans rz2
        have HSYS2 := HSYS.out
        rw [← hwS] at HSYS2
        clear HSYS rr0 rr1 rr2 rz0 rz1 rz2 hwS
        refine wpC_take (i := 9) (v := ?v9_50) (l' := #[true, true, true, true, true, true, true, true, true, true, false]) [10] rfl (by kernel_rfl) (by kernel_rfl) (by kernel_rfl) (by kernel_rfl) (by kernel_rfl) rfl (fun _ _ _ h => h) (by rfl) (fun wx hS => ?q9_50) (by assumption) ?_
        case q9_50 => (go_simp; try with_reducible rfl)
        try simp only [List.getElem_toArray, List.getElem_cons_succ, List.getElem_cons_zero, Act.put, List.setIfInBounds_toArray, List.set_cons_zero, List.set_cons_succ]
        refine wpC_one (i := 10) (l' := #[true, true, true, true, true, true, true, true, true, true, true]) (by kernel_rfl) rfl rfl (by rfl) (fun Kr hKr => ?_)
        go_simp
        refine hKr _ _ (fun h => absurd (by decide) h) ?_
        clear hKr Kr
        try simp only [List.getElem_toArray, List.getElem_cons_succ, List.getElem_cons_zero, Act.put, List.setIfInBounds_toArray, List.set_cons_zero, List.set_cons_succ]
        refine wpC_done (by kernel_rfl) ?_ _
        go_wp2
        refine bodyPost_ret (v := .agg #[.int .i64 K, .slice (some ⟨wr.heap.size, 0, none⟩) 1 1, (.slice av (rulesTo R os mode K os.length).length cv)]) (by simp [results, Try.results127, go_sem, sA]) rfl ?_
        obtain ⟨F, ho1, ho2, ho3⟩ := HSYS2
        have hF : w.heap.size ∉ F := fun e => by have := ho3 _ e; omega
        refine ⟨_, F, rfl, ?_, by rw [HRS.out]; exact ((ho1.put1 hF _).put1 hF _).put1 hF _, ho2, fun x hx => by have := ho3 x hx; omega⟩
        exact ((((below_alloc w (.cells #[.int .i64 0, .slice none 0 0, .slice none 0 0] 120)).trans ((HIT.out.hb.trans (hbS.mono (by omega))).mono (by omega))).setCell (Nat.le_refl _) _).setCell (Nat.le_refl _) _).setCell (Nat.le_refl _) _
end Go.Proofs.Ytncndnholheemaa
