/- Choices of passing systems: the program's functions. Written by mkch.py. -/
import Derived.Test.YtkoojiplfbcalaaSH
import Derived.Test.YtkoojiplfbcalaaCB
namespace Go.Proofs.Ytkoojiplfbcalaa
open Go.RowKit

/-- Which cells are busy by the first k rules. -/
def bsyL (x3 : List PR) (cs : List Int) (mode : Int) (n k : Nat) : List Bool := (List.range n).map fun (c : Nat) => busyTo x3 cs mode (c : Int) k
theorem bsyL_zero (x3 : List PR) (cs : List Int) (mode : Int) (n : Nat) : (bsyL x3 cs mode n 0).map Value.bool = List.replicate n (.bool false) := by
  simp [bsyL, busyTo, List.map_const']
theorem bsyL_at {x3 : List PR} {cs : List Int} {mode : Int} {n k c : Nat} (h : c < n) : ((bsyL x3 cs mode n k).map Value.bool)[c]? = some (.bool (busyTo x3 cs mode (c : Int) k)) := by
  simp [bsyL, h]
theorem bsyL_set {x3 : List PR} {cs : List Int} {mode : Int} {n k c : Nat} {b : Bool} (hc : (nthPR x3 k).cell = c) (hb : b = busyTo x3 cs mode (c : Int) (k + 1)) : ((bsyL x3 cs mode n k).map Value.bool).set c (.bool b) = (bsyL x3 cs mode n (k + 1)).map Value.bool := by
  apply List.ext_getElem?
  intro j
  rw [List.getElem?_set]
  by_cases e : c = j
  · subst e
    by_cases hn : c < n
    · simp [bsyL, hn, hb]
    · simp [bsyL, hn]
  · rw [if_neg e]
    have e2 : ¬ (c : Int) = j := by omega
    by_cases hn : j < n
    · simp [bsyL, hn, busyTo, hc, e2]
    · simp [bsyL, hn]

set_option maxHeartbeats 2000000 in
set_option maxRecDepth 100000 in
theorem canAdd_c (x0 : Int) (x1 : List Int) (x2 : List Bool) (x3 : List PR) (y0 : List (List Int)) (y1 : List Int) (a1 a2 a3 b0 b1 : Option Addr) (c1 c2 c3 d0 d1 : Nat) (w : World) (h1 : SlI Any w a1 x1) (h2 : SlB Any w a2 x2) (h3 : Rd Any w (dPR x3) (.slice a3 x3.length c3)) (k0 : SlII Any w b0 y0) (k1 : SlI Any w b1 y1) (cs : List Int) (bc : Option Addr) (cc : Nat) (kc : SlI Any w bc cs) (K0 : Nat) (hps : PsOk K0 x1 x2 x3) (hst : StOk K0 x1.length y0 y1) (hcl : cs.length = x3.length) (hcb : ∀ j, 0 ≤ nth cs j ∧ nth cs j ≤ 1000) (k : Nat) (hk : k < x3.length) :
    Calls Try.prog 145 #[.agg #[.int .i64 x0, .slice a1 x1.length c1, .slice a2 x2.length c2, .slice a3 x3.length c3], .agg #[.slice b0 y0.length d0, .slice b1 y1.length d1], .slice bc cs.length cc, .int .i64 k] w (RetV w (.bool (roomS x1 x2 x3 (bagsS y0 y1) cs k))) := by
  have hb0 : Below w.heap.size w ((w.alloc (.cells #[.int .i64 x0, .slice a1 x1.length c1, .slice a2 x2.length c2, .slice a3 x3.length c3] 36)).alloc (.cells #[.slice b0 y0.length d0, .slice b1 y1.length d1] 38)) := ((Below.refl _ _).alloc (Nat.le_refl _) _).alloc (by simp) _
  obtain ⟨_, g0, o0, rfl⟩ := kc.ptr (by omega)
  have lc := kc.len
  unfold maxLen at lc
  have h8 := hps.r8
  have HF := Lib.hid (fun (wx : World) (hb : Below w.heap.size w wx) (bx : Option Addr) (cx : Nat) (kx : SlI Any wx bx (cs.set k (nth cs k + 1))) => fits_c x0 x1 x2 x3 y0 y1 a1 a2 a3 b0 b1 c1 c2 c3 d0 d1 wx (h1.below hb) (h2.below hb) (h3.below hb) (k0.below hb) (k1.below hb) (cs.set k (nth cs k + 1)) bx cx kx K0 hps hst (by simpa using hcl) (fun j => by
    rw [nth_set (by omega)]
    have := hcb j
    have := hcb k
    split <;> omega))
  have HC := Lib.hid (cloneB_c Any ⟨g0, o0, none⟩ cc cs ((w.alloc (.cells #[.int .i64 x0, .slice a1 x1.length c1, .slice a2 x2.length c2, .slice a3 x3.length c3] 36)).alloc (.cells #[.slice b0 y0.length d0, .slice b1 y1.length d1] 38)) (kc.below hb0) (by omega))
  have HB0 := Lib.hid hb0
  have hkb := hcb k
  have hkc : k < cs.length := by omega
  have lc8 : cs.length ≤ 8 := by omega
  have HCLN := Lib.hid hcl
  clear hb0 h1 h2 h3 k0 k1 kc hps hst hcb hcl
  go_enter Try.func145, Try.ntmps145
  go_wp2_with fail
  refine HC.out.mono ?_
  rintro e w1 ⟨v, rfl, hb1, hbl⟩
  obtain ⟨g, c, rfl⟩ := hbl.ptr (by simp; omega)
  simp only [List.length_map] at hbl ⊢
  have g1 := hbl.at_nth (i := k) (by omega)
  have z1 := hbl.free k
  have i1 := ix_of (P := Try.prog) tabI.under tabI.size (a := some ⟨g, 0, none⟩) (n := cs.length) (fun _ => ⟨g, 0, rfl⟩) c
  have hkl : (k : Int) < cs.length := by omega
  have ea : adr (some ⟨g, 0, none⟩) k = ⟨g, k, none⟩ := by simp [adr, blk, ofs]
  rw [← ea] at g1 z1
  have hbase := hbl.base
  have bp : ∀ j, j < 4 → w1.cell? ⟨w.heap.size, j, none⟩ = ((w.alloc (.cells #[.int .i64 x0, .slice a1 x1.length c1, .slice a2 x2.length c2, .slice a3 x3.length c3] 36)).alloc (.cells #[.slice b0 y0.length d0, .slice b1 y1.length d1] 38)).cell? ⟨w.heap.size, j, none⟩ := fun j _ => bcell1 hb1 (by simp <;> omega)
  have bs : ∀ j, j < 2 → w1.cell? ⟨w.heap.size + 1, j, none⟩ = ((w.alloc (.cells #[.int .i64 x0, .slice a1 x1.length c1, .slice a2 x2.length c2, .slice a3 x3.length c3] 36)).alloc (.cells #[.slice b0 y0.length d0, .slice b1 y1.length d1] 38)).cell? ⟨w.heap.size + 1, j, none⟩ := fun j _ => bcell1 hb1 (by simp <;> omega)
  have p0 := (bp 0 (by omega)).trans (show _ = some (.int .i64 x0) by simp [go_sem])
  have p1 := (bp 1 (by omega)).trans (show _ = some (.slice a1 x1.length c1) by simp [go_sem])
  have p2 := (bp 2 (by omega)).trans (show _ = some (.slice a2 x2.length c2) by simp [go_sem])
  have p3 := (bp 3 (by omega)).trans (show _ = some (.slice a3 x3.length c3) by simp [go_sem])
  have q0 := (bs 0 (by omega)).trans (show _ = some (.slice b0 y0.length d0) by simp [go_sem])
  have q1 := (bs 1 (by omega)).trans (show _ = some (.slice b1 y1.length d1) by simp [go_sem])
  have hgs : w.heap.size + 2 ≤ g := by have := hbase.1; simp at this; omega
  obtain ⟨w2, hw2⟩ : ∃ wz, wz = w1.setCell (adr (some ⟨g, 0, none⟩) k) (.int .i64 (nth cs k + 1)) := ⟨_, rfl⟩
  have hb2 : Below g w1 w2 := by rw [hw2, ea]; exact (Below.refl _ _).setCell (by exact Nat.le_refl _) _
  have HB2 : Hid (Below w.heap.size w w2) := Lib.hid (HB0.out.trans ((hb1.mono (by simp; omega)).trans (hb2.mono (by omega))))
  have hbl2 := hbl.set_nth k (nth cs k + 1)
  rw [← ea, ← hw2] at hbl2
  have kx := SlI.ofBld hbl2 (by unfold maxLen; simp; omega)
  have KX : Hid (SlI Any w2 (some ⟨g, 0, none⟩) (cs.set k (nth cs k + 1))) := Lib.hid ⟨kx.len, fun h0 => ⟨trivial, (kx.ptr h0).2⟩, kx.cell⟩
  have HFF := HF.out w2 HB2.out (some ⟨g, 0, none⟩) c KX.out
  rw [List.length_set] at HFF
  have HFH := Lib.hid HFF
  have r0 := (bcell1 hb2 (by omega)).trans p0
  have r1 := (bcell1 hb2 (by omega)).trans p1
  have r2 := (bcell1 hb2 (by omega)).trans p2
  have r3 := (bcell1 hb2 (by omega)).trans p3
  have s0 := (bcell1 hb2 (by omega)).trans q0
  have s1 := (bcell1 hb2 (by omega)).trans q1
  clear hb2 hbl2 HFF hbl hb1 bp bs HF HC hbase kx KX ea
  subst hw2
  go_wp2_with fail
  refine HFH.out.mono ?_
  rintro e w9 ⟨rfl, hb9⟩
  have HB9 := Lib.hid (bnext HB2.out hb9 (Nat.le_refl _))
  clear hb9 HFH
  go_wp2
  go_ret
  exact ⟨rfl, HB9.out⟩
set_option maxHeartbeats 4000000 in
set_option maxRecDepth 100000 in
theorem isChoice_c (x0 : Int) (x1 : List Int) (x2 : List Bool) (x3 : List PR) (y0 : List (List Int)) (y1 : List Int) (a1 a2 a3 b0 b1 : Option Addr) (c1 c2 c3 d0 d1 : Nat) (w : World) (h1 : SlI Any w a1 x1) (h2 : SlB Any w a2 x2) (h3 : Rd Any w (dPR x3) (.slice a3 x3.length c3)) (k0 : SlII Any w b0 y0) (k1 : SlI Any w b1 y1) (cs : List Int) (bc : Option Addr) (cc : Nat) (kc : SlI Any w bc cs) (K0 : Nat) (hps : PsOk K0 x1 x2 x3) (hst : StOk K0 x1.length y0 y1) (hcl : cs.length = x3.length) (hcb : ∀ j, 0 ≤ nth cs j ∧ nth cs j ≤ 1000) (mode : Int) :
    Calls Try.prog 72 #[.agg #[.int .i64 x0, .slice a1 x1.length c1, .slice a2 x2.length c2, .slice a3 x3.length c3], .agg #[.slice b0 y0.length d0, .slice b1 y1.length d1], .slice bc cs.length cc, .int .i64 mode] w (RetV w (.bool (chosenS x1 x2 x3 (bagsS y0 y1) cs mode))) := by
  have hb0 : Below w.heap.size w ((w.alloc (.cells #[.int .i64 x0, .slice a1 x1.length c1, .slice a2 x2.length c2, .slice a3 x3.length c3] 36)).alloc (.cells #[.slice b0 y0.length d0, .slice b1 y1.length d1] 38)) := ((Below.refl _ _).alloc (Nat.le_refl _) _).alloc (by simp) _
  have HC := bagSize_c Any bc cc cs ((w.alloc (.cells #[.int .i64 x0, .slice a1 x1.length c1, .slice a2 x2.length c2, .slice a3 x3.length c3] 36)).alloc (.cells #[.slice b0 y0.length d0, .slice b1 y1.length d1] 38)) (kc.below hb0)
  have HCA := Lib.hid (fun (wx : World) (hb : Below w.heap.size w wx) (k : Nat) (hk : k < x3.length) => canAdd_c x0 x1 x2 x3 y0 y1 a1 a2 a3 b0 b1 c1 c2 c3 d0 d1 wx (h1.below hb) (h2.below hb) (h3.below hb) (k0.below hb) (k1.below hb) cs bc cc (kc.below hb) K0 hps hst hcl hcb k hk)
  obtain ⟨_, _, ex, hxs⟩ := Rd_PR h3
  cases ex
  have i4 := ix_of (P := Try.prog) tabPassRuleSM.under tabPassRuleSM.size hxs.ptr c3
  have ic := kc.ix tabI.under tabI.size cc
  have h8 := hps.r8
  have hp4 := hps.p4
  have hp1 := hps.p1
  have HCELL := Lib.hid hps.cell
  have lc8 : cs.length ≤ 8 := by omega
  obtain ⟨s, hs⟩ : ∃ s, s = sumS cs := ⟨_, rfl⟩
  rw [← hs] at HC
  replace HC := Lib.hid HC
  have hch : chosenS x1 x2 x3 (bagsS y0 y1) cs mode = if (s == 0 || mode == 3) = true then s == 1 else chosenTo x1 x2 x3 (bagsS y0 y1) cs mode x3.length := by rw [hs]; rfl
  rw [hch]
  have HX := Lib.hid hxs
  have HK := Lib.hid kc
  have HCLN := Lib.hid hcl
  have HB0 := Lib.hid hb0
  clear hch hs hxs h1 h2 h3 k0 k1 kc hps hst hcl hcb hb0
  by_cases g1 : s = 0
  · subst g1
    rw [if_pos (by simp)]
    go_enter Try.func72, Try.ntmps72
    go_wp2_with fail
    refine HC.out.mono ?_
    rintro e w9 ⟨rfl, rfl⟩
    go_wp2
    go_ret
    exact ⟨rfl, HB0.out⟩
  by_cases g2 : mode = 3
  · subst g2
    rw [if_pos (by simp)]
    have g1' : (s == 0) = false := by simpa using g1
    clear g1
    go_enter Try.func72, Try.ntmps72
    go_wp2_with fail
    refine HC.out.mono ?_
    rintro e w9 ⟨rfl, rfl⟩
    go_wp2
    go_ret
    exact ⟨rfl, HB0.out⟩
  rw [if_neg (by simp [g1, g2])]
  have g1' : (s == 0) = false := by simpa using g1
  have g2' : (mode == 3) = false := by simpa using g2
  clear g1 g2
  go_enter Try.func72, Try.ntmps72
  go_wp2_with fail
  refine HC.out.mono ?_
  rintro e w9 ⟨rfl, rfl⟩
  clear HC
  obtain ⟨wA, hwA⟩ : ∃ wz, wz = ((w.alloc (.cells #[.int .i64 x0, .slice a1 x1.length c1, .slice a2 x2.length c2, .slice a3 x3.length c3] 36)).alloc (.cells #[.slice b0 y0.length d0, .slice b1 y1.length d1] 38)) := ⟨_, rfl⟩
  have hzA : wA.heap.size = w.heap.size + 2 := by rw [hwA]; simp
  have HBA : Hid (Below w.heap.size w wA) := Lib.hid (by rw [hwA]; exact HB0.out)
  have p0 : wA.cell? ⟨w.heap.size, 0, none⟩ = some (.int .i64 x0) := by rw [hwA]; simp [go_sem]
  have p1 : wA.cell? ⟨w.heap.size, 1, none⟩ = some (.slice a1 x1.length c1) := by rw [hwA]; simp [go_sem]
  have p2 : wA.cell? ⟨w.heap.size, 2, none⟩ = some (.slice a2 x2.length c2) := by rw [hwA]; simp [go_sem]
  have p3 : wA.cell? ⟨w.heap.size, 3, none⟩ = some (.slice a3 x3.length c3) := by rw [hwA]; simp [go_sem]
  have q0 : wA.cell? ⟨w.heap.size + 1, 0, none⟩ = some (.slice b0 y0.length d0) := by rw [hwA]; simp [go_sem]
  have q1 : wA.cell? ⟨w.heap.size + 1, 1, none⟩ = some (.slice b1 y1.length d1) := by rw [hwA]; simp [go_sem]
  rw [← hwA]
  clear hwA HB0
  go_wp2_with (at_make; refine make_one rfl _ _ 23 rfl tabB rfl (by decide) x1.length _ _ rfl rfl rfl rfl (by omega) wA.heap.size (Nat.le_refl _) ?_)
  intro w1 hbl1 hb1 hz1
  try simp only [hzA] at hbl1 hb1 hz1 ⊢
  obtain ⟨G, hG⟩ : ∃ G, G = w.heap.size + 2 := ⟨_, rfl⟩
  rw [← hG] at hbl1 hb1 hz1 ⊢
  have hGl : w.heap.size + 2 ≤ G := by omega
  clear hzA hG
  have i2 := ix_of (P := Try.prog) tabB.under tabB.size (a := some ⟨G, 0, none⟩) (n := x1.length) (fun _ => ⟨G, 0, rfl⟩) x1.length
  simp only [Nat.mul_one, adr, blk, ofs, Nat.zero_add] at i2
  have HL1 : Hid (Bld 4 w1 G (.slice (some ⟨G, 0, none⟩) x1.length x1.length) ((bsyL x3 cs mode x1.length 0).map Value.bool)) := Lib.hid (by rw [bsyL_zero]; exact hbl1)
  have HB1 := Lib.hid hb1
  clear hbl1 hb1
  go_wp2
  go_loopw [11, 12, 31] (fun _ _ i wr => ∃ k : Nat, k ≤ cs.length ∧ i = .int .i64 k ∧ Hid (Below G wA wr) ∧ Hid (Bld 4 wr G (.slice (some ⟨G, 0, none⟩) x1.length x1.length) ((bsyL x3 cs mode x1.length k).map Value.bool))) (fun _ _ i _ => cs.length - (intOf i).toNat)
  case atStart => exact ⟨0, Nat.zero_le _, rfl, HB1, HL1⟩
  case round =>
    obtain ⟨k, hk, rfl, HB, HL⟩ := hrel
    have HBW : Hid (Below w.heap.size w wr) := Lib.hid (HBA.out.trans (HB.out.mono (by omega)))
    have r0 := (bcell1 HB.out (by omega)).trans p0
    have r1 := (bcell1 HB.out (by omega)).trans p1
    have r2 := (bcell1 HB.out (by omega)).trans p2
    have r3 := (bcell1 HB.out (by omega)).trans p3
    have s0 := (bcell1 HB.out (by omega)).trans q0
    have s1 := (bcell1 HB.out (by omega)).trans q1
    by_cases hlt : k < cs.length
    · have hk3 : k < x3.length := by rw [← HCLN.out]; exact hlt
      have gc := (HK.out.below HBW.out).cell k hlt
      have gr := (HBW.out.cell (World.block_lt_of_cell? w _ (HX.out.c0 k hk3))).trans (HX.out.c0 k hk3)
      obtain ⟨hc1, hc2⟩ := HCELL.out k hk3
      obtain ⟨c, hc⟩ : ∃ c : Nat, (nthPR x3 k).cell = c := ⟨(nthPR x3 k).cell.toNat, by omega⟩
      rw [hc] at gr hc2
      have HCC := Lib.hid hc
      clear hc hc1
      have hcn : c < x1.length := by omega
      have gB := HL.out.cell (bsyL_at (x3 := x3) (cs := cs) (mode := mode) (k := k) hcn)
      have zB := HL.out.free c
      have HNX : Hid (∀ b, b = busyTo x3 cs mode (c : Int) (k + 1) → Bld 4 ((wr.setCell ⟨G, c, none⟩ (.bool b)).drew) G (.slice (some ⟨G, 0, none⟩) x1.length x1.length) ((bsyL x3 cs mode x1.length (k + 1)).map Value.bool)) := Lib.hid (fun b hb => by
        rw [← bsyL_set HCC.out hb]
        exact (HL.out.set c (.bool b)).below (Below.refl _ _).drew)
      have HBX : Hid (∀ b, Below G wA ((wr.setCell ⟨G, c, none⟩ (.bool b)).drew)) := Lib.hid (fun b => (HB.out.setCell (by exact Nat.le_refl _) _).drew)
      have HBT : Hid (busyTo x3 cs mode (c : Int) (k + 1) = (busyTo x3 cs mode (c : Int) k || (decide (0 < nth cs k) && mode == 2))) := Lib.hid (by rw [busyTo, HCC.out]; simp)
      cases hb : busyTo x3 cs mode (c : Int) k
      · rw [hb] at gB
        obtain ⟨n, hn⟩ : ∃ n, n = nth cs k := ⟨_, rfl⟩
        rw [← hn] at gc HBT
        clear hn
        cases hd : decide (0 < n)
        · have HV : Hid (false = busyTo x3 cs mode (c : Int) (k + 1)) := Lib.hid (by rw [HBT.out, hb, hd]; rfl)
          clear hb
          go_wp2
          go_region
          all_goals
            clear gB zB r0 r1 r2 r3 s0 s1 gc gr
            go_wp2
            refine ⟨⟨k + 1, by omega, by go_num, Lib.hid (HBX.out _), Lib.hid (HNX.out _ HV.out)⟩, ?_⟩
            simp [intOf]; omega
        · have HV : Hid ((mode == 2) = busyTo x3 cs mode (c : Int) (k + 1)) := Lib.hid (by rw [HBT.out, hb, hd]; simp)
          clear hb
          go_wp2
          go_region
          all_goals
            clear gB zB r0 r1 r2 r3 s0 s1 gc gr
            go_wp2
            refine ⟨⟨k + 1, by omega, by go_num, Lib.hid (HBX.out _), Lib.hid (HNX.out _ HV.out)⟩, ?_⟩
            simp [intOf]; omega
      · rw [hb] at gB
        have HV : Hid (true = busyTo x3 cs mode (c : Int) (k + 1)) := Lib.hid (by rw [HBT.out, hb]; simp)
        clear hb
        go_wp2
        go_region
        all_goals
          clear gB zB r0 r1 r2 r3 s0 s1 gc gr
          go_wp2
          refine ⟨⟨k + 1, by omega, by go_num, Lib.hid (HBX.out _), Lib.hid (HNX.out _ HV.out)⟩, ?_⟩
          simp [intOf]; omega
    · obtain rfl : k = cs.length := by omega
      obtain ⟨w5, e5⟩ : ∃ z, z = wr := ⟨_, rfl⟩
      subst e5
      have hg5 : G < w5.heap.size := HL.out.base.2
      have HGB : Hid (∀ wx, Below w5.heap.size w5 wx → ∀ c : Nat, c < x1.length → wx.cell? ⟨G, c, none⟩ = some (.bool (busyTo x3 cs mode (c : Int) cs.length))) := Lib.hid (fun wx h c hc => (bcell1 h hg5).trans (HL.out.cell (bsyL_at hc)))
      have HP : Hid (∀ wx, Below w5.heap.size w5 wx → Below w.heap.size w wx) := Lib.hid (fun wx h => bnext HBW.out h (Nat.le_refl _))
      have hz5 := HB.out.size
      clear p0 p1 p2 p3 q0 q1
      go_wp2
      go_loopw [13, 14, 65] (fun _ _ i w2 => ∃ q : Nat, q ≤ x3.length ∧ i = .int .i64 q ∧ Hid (chosenTo x1 x2 x3 (bagsS y0 y1) cs mode q = true) ∧ Hid (Below w5.heap.size w5 w2)) (fun _ _ i _ => x3.length - (intOf i).toNat)
      case atStart => exact ⟨0, Nat.zero_le _, rfl, Lib.hid rfl, Lib.hid (Below.refl _ _)⟩
      case round =>
        obtain ⟨q, hq, rfl, HT, HB2⟩ := hrel
        by_cases hlq : q < x3.length
        · have HX5 : Hid (∀ X, Below w5.heap.size w5 (wr.alloc X)) := Lib.hid (fun X => HB2.out.alloc HB2.out.size X)
          have t0 := fun X => (bcell1 (HX5.out X) (by omega)).trans r0
          have t1 := fun X => (bcell1 (HX5.out X) (by omega)).trans r1
          have t2 := fun X => (bcell1 (HX5.out X) (by omega)).trans r2
          have t3 := fun X => (bcell1 (HX5.out X) (by omega)).trans r3
          have v0 := fun X => (bcell1 (HX5.out X) (by omega)).trans s0
          have v1 := fun X => (bcell1 (HX5.out X) (by omega)).trans s1
          have HW := HP.out wr HB2.out
          have gr := (HW.cell (World.block_lt_of_cell? w _ (HX.out.c0 q hlq))).trans (HX.out.c0 q hlq)
          obtain ⟨u1, f1, k1, _⟩ := HX.out.c1 q hlq
          obtain ⟨u2, f2, k2, _⟩ := HX.out.c2 q hlq
          have gr1 := (HW.cell (World.block_lt_of_cell? w _ k1)).trans k1
          have gr2 := (HW.cell (World.block_lt_of_cell? w _ k2)).trans k2
          obtain ⟨hc1, hc2⟩ := HCELL.out q hlq
          obtain ⟨c, hc⟩ : ∃ c : Nat, (nthPR x3 q).cell = c := ⟨(nthPR x3 q).cell.toNat, by omega⟩
          rw [hc] at gr hc2
          have HCC := Lib.hid hc
          have hcn : c < x1.length := by omega
          have gB := fun X => HGB.out (wr.alloc X) (HX5.out X) c hcn
          have HCQ := Lib.hid (fun X => HCA.out (wr.alloc X) (HP.out _ (HX5.out X)) q hlq)
          clear hc hc1 k1 k2 HW
          cases hb : busyTo x3 cs mode (c : Int) cs.length
          · rw [hb] at gB
            have HBF : Hid (busyTo x3 cs mode (nthPR x3 q).cell cs.length = false) := Lib.hid (by rw [HCC.out]; exact hb)
            clear hb
            go_wp2_with fail
            refine (HCQ.out _).mono ?_
            rintro e w7 ⟨rfl, hb7⟩
            have HB7 : Hid (Below w5.heap.size w5 w7) := Lib.hid (bnext (HX5.out _) hb7 (Nat.le_refl _))
            clear hb7
            cases hr : roomS x1 x2 x3 (bagsS y0 y1) cs q
            · have HT2 : Hid (chosenTo x1 x2 x3 (bagsS y0 y1) cs mode (q + 1) = true) := Lib.hid (by rw [chosenTo, HT.out, hr]; simp)
              go_wp2
              first
                | (go_roundw
                   case rel => exact ⟨q + 1, by omega, by go_num, HT2, HB7⟩
                   case measure => simp [intOf]; omega)
                | (refine ⟨⟨q + 1, by omega, by go_num, HT2, HB7⟩, ?_⟩
                   simp [intOf]; omega)
            · have HST : Hid (chosenTo x1 x2 x3 (bagsS y0 y1) cs mode x3.length = false) := Lib.hid (chosen_stop HBF.out hr x3.length hlq)
              go_wp2
              go_ret
              exact ⟨ret_bool HST.out.symm, HP.out _ HB7.out⟩
          · rw [hb] at gB
            have HT2 : Hid (chosenTo x1 x2 x3 (bagsS y0 y1) cs mode (q + 1) = true) := Lib.hid (by rw [chosenTo, HT.out, HCC.out, hb]; simp)
            clear hb
            go_wp2
            first
              | (go_roundw
                 case rel => exact ⟨q + 1, by omega, by go_num, HT2, Lib.hid (HX5.out _)⟩
                 case measure => simp [intOf]; omega)
              | (refine ⟨⟨q + 1, by omega, by go_num, HT2, Lib.hid (HX5.out _)⟩, ?_⟩
                 simp [intOf]; omega)
        · obtain rfl : q = x3.length := by omega
          go_wp2
          go_ret
          exact ⟨ret_bool HT.out.symm, HP.out _ HB2.out⟩
end Go.Proofs.Ytkoojiplfbcalaa
