/- The laws' functions on passing systems and stocks: by shape. Written by tygen.py. -/
import Derived.Test.YtkbhdpkheincoaaDoorYA
namespace Go.Proofs.YtkbhdpkheincoaaDoor
open Go.RowKit

set_option maxHeartbeats 2000000 in
theorem szPassRule_d (S : Nat → Prop) (x0 : Int) (d1 : D) (v1 : Value) (d2 : D) (v2 : Value) (left : Int) (w : World) (h1 : Rd S w d1 v1) (h2 : Rd S w d2 v2) (f1 : Fit (.l [.i]) d1) (f2 : Fit (.l [.i]) d2) (bl0 : 0 ≤ left) (bl1 : left ≤ 1048576) :
    Calls Tryd.prog 23 #[.agg #[.int .i64 x0, v1, v2], .int .i64 left] w (RetSv w left (vol d1 + vol d2)) := by
  obtain ⟨va1, vn1, vc1, rfl⟩ := f1.sliceR h1
  obtain ⟨va2, vn2, vc2, rfl⟩ := f2.sliceR h2
  have hb0 : Below w.heap.size w (w.alloc (.cells #[.int .i64 x0, .slice va1 vn1 vc1, .slice va2 vn2 vc2] 54)) := below_alloc _ _
  have H_1 := Lib.hid (fun (l : Int) (wx : World) (hb : Below w.heap.size w wx) => szInt64S_d S d1 _ l wx (h1.below hb) f1)
  have H_2 := Lib.hid (fun (l : Int) (wx : World) (hb : Below w.heap.size w wx) => szInt64S_d S d2 _ l wx (h2.below hb) f2)
  have HB0 := Lib.hid hb0
  clear hb0 h1 f1 h2 f2
  go_enter Tryd.func23, Tryd.ntmps23
  go_wp2_with fail
  refine (H_1.out left _ HB0.out (by omega) (by omega)).mono ?_
  rintro e w1 ⟨L1, rfl, hb1, y1, z1, p1⟩
  have g1_2 : w1.cell? ⟨w.heap.size, 2, none⟩ = some (.slice va2 vn2 vc2) := by rw [bcell1 hb1 (by first | omega | (simp; done) | (simp; omega))]; simp [go_sem]
  have HB1 := Lib.hid (bnext HB0.out hb1 (by first | omega | (simp; done) | (simp; omega)))
  have hz1 : w.heap.size < w1.heap.size := by have := hb1.size; (try simp at this); omega
  have P1 := Lib.hid p1
  clear hb1 p1
  by_cases n1 : L1 < 0
  · go_wp2
    go_ret
    exact ⟨-1, rfl, HB1.out, by omega, by omega, fun h => absurd h (by omega)⟩
  · have m1 : 0 ≤ L1 := by omega
    go_wp2_with fail
    refine (H_2.out L1 _ HB1.out (by omega) (by omega)).mono ?_
    rintro e w2 ⟨L2, rfl, hb2, y2, z2, p2⟩
    have HB2 := Lib.hid (bnext HB1.out hb2 (by first | omega | (simp; done) | (simp; omega)))
    have hz2 : w.heap.size < w2.heap.size := by have := hb2.size; (try simp at this); omega
    have P2 := Lib.hid p2
    clear hb2 p2 g1_2
    by_cases n2 : L2 < 0
    · go_wp2
      go_ret
      exact ⟨-1, rfl, HB2.out, by omega, by omega, fun h => absurd h (by omega)⟩
    · have m2 : 0 ≤ L2 := by omega
      go_wp2
      go_ret
      exact ⟨L2, rfl, HB2.out, by omega, by omega, fun _ => by have t1 := P1.out m1; have t2 := P2.out m2; omega⟩
set_option maxHeartbeats 4000000 in
theorem toPassRule_d (S : Nat → Prop) (x0 : Int) (d1 : D) (v1 : Value) (d2 : D) (v2 : Value) (w : World) (h1 : Rd S w d1 v1) (h2 : Rd S w d2 v2) (f1 : Fit (.l [.i]) d1) (f2 : Fit (.l [.i]) d2) (l1 : vol d1 ≤ 16777216) (l2 : vol d2 ≤ 16777216) :
    Calls Tryd.prog 28 #[.agg #[.int .i64 x0, v1, v2]] w (RetA w [.i x0, d1, d2]) := by
  obtain ⟨va1, vn1, vc1, rfl⟩ := f1.sliceR h1
  obtain ⟨va2, vn2, vc2, rfl⟩ := f2.sliceR h2
  have H_1 := Lib.hid (fun (wx : World) (hb : Below w.heap.size w wx) => toInt64S_d S d1 _ wx (h1.below hb) f1 l1)
  have H_2 := Lib.hid (fun (wx : World) (hb : Below w.heap.size w wx) => toInt64S_d S d2 _ wx (h2.below hb) f2 l2)
  clear h1 l1 h2 l2
  go_enter Tryd.func28, Tryd.ntmps28
  go_wp2_with fail
  refine (H_1.out _ (by repeat (first | exact Below.refl _ _ | assumption | refine Below.alloc ?_ (by simp; try omega) _ | refine Below.setCell ?_ (by simp; try omega) _))).mono ?_
  rintro e w1 ⟨u1, F1, rfl, hb1, ho1_1, hn1, hl1⟩
  obtain ⟨ua1, un1, uc1, rfl⟩ := f1.sliceO ho1_1
  have hB1 : Below w.heap.size w w1 := bnext (by repeat (first | exact Below.refl _ _ | assumption | refine Below.alloc ?_ (by simp; try omega) _ | refine Below.setCell ?_ (by simp; try omega) _)) hb1 (by simp; try omega)
  obtain ⟨hc1, hf1⟩ := bcell hb1
  have hz1 : w.heap.size + 2 < w1.heap.size := by have := hb1.size; simp at this; omega
  have hv1 : w.heap.size + 1 < w1.heap.size := by omega
  have hu1 : w.heap.size < w1.heap.size := by omega
  have fr1 : ∀ g, g ∈ F1 → w.heap.size + 2 < g := fun g hg => by have := hl1 g hg; simp at this; omega
  have HO1_1 := Lib.hid ho1_1
  have HR1 := Lib.hid fr1
  have HN1 := Lib.hid hn1
  have HB1 := Lib.hid hB1
  clear hb1 hl1 fr1 hn1 hB1  ho1_1
  go_wp2_with fail
  refine (H_2.out _ (by repeat (first | exact Below.refl _ _ | assumption | refine Below.alloc ?_ (by simp; try omega) _ | refine Below.setCell ?_ (by simp; try omega) _))).mono ?_
  rintro e w2 ⟨u2, F2, rfl, hb2, ho2_2, hn2, hl2⟩
  obtain ⟨ua2, un2, uc2, rfl⟩ := f2.sliceO ho2_2
  have hB2 : Below w.heap.size w w2 := bnext (by repeat (first | exact Below.refl _ _ | assumption | refine Below.alloc ?_ (by simp; try omega) _ | refine Below.setCell ?_ (by simp; try omega) _)) hb2 (by simp; try omega)
  obtain ⟨hc2, hf2⟩ := bcell hb2
  have hz2 : w.heap.size + 2 < w2.heap.size := by have := hb2.size; simp at this; omega
  have hv2 : w.heap.size + 1 < w2.heap.size := by omega
  have hu2 : w.heap.size < w2.heap.size := by omega
  have hy2 : w1.heap.size ≤ w2.heap.size := by have := hb2.size; simpa using this
  have fr2 : ∀ g, g ∈ F2 → w.heap.size + 2 < g := fun g hg => by have := hl2 g hg; simp at this; omega
  have fs2 : ∀ g, g ∈ F2 → w1.heap.size ≤ g := fun g hg => by have := hl2 g hg; simp at this; omega
  have ho1_2 := (show Ow _ d1 (.slice ua1 un1 uc1) F1 from by repeat (first | exact HO1_1.out | refine Ow.box ?_ HR1.out _ _)).below hb2
  have HO1_2 := Lib.hid ho1_2
  have HO2_2 := Lib.hid ho2_2
  have HR2 := Lib.hid fr2
  have HN2 := Lib.hid hn2
  have HB2 := Lib.hid hB2
  have HS2 := Lib.hid fs2
  clear hb2 hl2 fr2 hn2 hB2 fs2 ho1_2 ho2_2
  go_wp2
  refine bodyPost_end (v := .agg #[.int .i64 x0, .slice ua1 un1 uc1, .slice ua2 un2 uc2]) (by simp [results, Tryd.results28, go_sem, hc1, hv1, hc2]) rfl ?_
  have hR1 := HR1.out
  have hT1 : ∀ g, g ∈ F1 → g < w1.heap.size := Ow.lt _ _ _ HO1_1.out
  have hR2 := HR2.out
  have hS2 := HS2.out
  have hT2 : ∀ g, g ∈ F2 → g < w2.heap.size := Ow.lt _ _ _ HO2_2.out
  refine ⟨[.int .i64 x0, .slice ua1 un1 uc1, .slice ua2 un2 uc2], ([] ++ (F1 ++ (F2 ++ []))), rfl, ?be, ⟨[], _, ⟨rfl, rfl⟩, ⟨F1, _, ?o1, ⟨F2, _, ?o2, rfl, rfl⟩, rfl⟩, rfl⟩, ?nd, ?fr⟩
  case be => repeat (first | with_reducible exact HB2.out | refine Below.setCell ?_ (by simp; try omega) _ | refine Below.alloc ?_ (by simp; try omega) _)
  case o1 => repeat (first | with_reducible exact HO1_2.out | refine Ow.setCell ?_ (by intro hg; have := hR1 _ hg; simp at this; try omega) _)
  case o2 => repeat (first | with_reducible exact HO2_2.out | refine Ow.setCell ?_ (by intro hg; have := hR2 _ hg; simp at this; try omega) _)
  case nd =>
    simp only [List.nil_append, List.append_nil]
    exact nodup_next w1.heap.size HN1.out (HN2.out) hT1 (fun g hg => hS2 g hg)
  case fr =>
    intro g hg
    simp only [List.nil_append, List.append_nil, List.mem_append] at hg
    rcases hg with hg | hg
    · have := hR1 g hg; omega
    · have := hR2 g hg; omega
set_option maxHeartbeats 2000000 in
theorem eqPassRule_d (x0 : Int) (d1 : D) (v1 : Value) (d2 : D) (v2 : Value) (v1p : Value) (v2p : Value) (w : World) (h1 : Rd Any w d1 v1) (h2 : Rd Any w d2 v2) (h1p : Rd Any w d1 v1p) (h2p : Rd Any w d2 v2p) (f1 : Fit (.l [.i]) d1) (f2 : Fit (.l [.i]) d2) :
    Calls Tryd.prog 39 #[.agg #[.int .i64 x0, v1, v2], .agg #[.int .i64 x0, v1p, v2p]] w (RetV w (.bool true)) := by
  obtain ⟨va1, vn1, vc1, rfl⟩ := f1.sliceR h1
  obtain ⟨va2, vn2, vc2, rfl⟩ := f2.sliceR h2
  obtain ⟨va1p, vn1p, vc1p, rfl⟩ := f1.sliceR h1p
  obtain ⟨va2p, vn2p, vc2p, rfl⟩ := f2.sliceR h2p
  have hb : Below w.heap.size w ((w.alloc (.cells #[.int .i64 x0, .slice va1 vn1 vc1, .slice va2 vn2 vc2] 48)).alloc (.cells #[.int .i64 x0, .slice va1p vn1p vc1p, .slice va2p vn2p vc2p] 48)) := ((Below.refl _ _).alloc (Nat.le_refl _) _).alloc (by simp) _
  have H_1 := Lib.hid (fun (wx : World) (hb : Below w.heap.size w wx) => eqInt64S_d d1 _ _ wx (h1.below hb) (h1p.below hb) f1)
  have H_2 := Lib.hid (fun (wx : World) (hb : Below w.heap.size w wx) => eqInt64S_d d2 _ _ wx (h2.below hb) (h2p.below hb) f2)
  have HB0 := Lib.hid hb
  clear hb h1 h1p h2 h2p
  go_enter Tryd.func39, Tryd.ntmps39
  go_wp2_with fail
  refine (H_1.out _ HB0.out).mono ?_
  rintro e w1 ⟨rfl, hb1⟩
  have g1_2 : w1.cell? ⟨w.heap.size, 2, none⟩ = some (.slice va2 vn2 vc2) := by rw [bcell1 hb1 (by first | omega | (simp; done) | (simp; omega))]; simp [go_sem]
  have g1_2p : w1.cell? ⟨w.heap.size + 1, 2, none⟩ = some (.slice va2p vn2p vc2p) := by rw [bcell1 hb1 (by first | omega | (simp; done) | (simp; omega))]; simp [go_sem]
  have HB1 := Lib.hid (bnext HB0.out hb1 (by first | omega | (simp; done) | (simp; omega)))
  have hz1 : w.heap.size + 1 < w1.heap.size := by have := hb1.size; (try simp at this); omega
  clear hb1 
  go_wp2_with fail
  refine (H_2.out _ HB1.out).mono ?_
  rintro e w2 ⟨rfl, hb2⟩
  have HB2 := Lib.hid (bnext HB1.out hb2 (by first | omega | (simp; done) | (simp; omega)))
  have hz2 : w.heap.size + 1 < w2.heap.size := by have := hb2.size; (try simp at this); omega
  clear hb2 g1_2 g1_2p
  go_wp2
  go_ret
  exact ⟨rfl, HB2.out⟩
theorem tabPassRuleSL : Tab Tryd.prog 24 54 (.agg #[.int .i64 0, .slice none 0 0, .slice none 0 0]) 3 56 := ⟨by kernel_rfl, by kernel_rfl⟩
theorem tabPassRuleSM : Tab Tryd.prog 29 48 (.agg #[.int .i64 0, .slice none 0 0, .slice none 0 0]) 3 56 := ⟨by kernel_rfl, by kernel_rfl⟩
set_option maxHeartbeats 2000000 in
theorem szPassRuleS_d (S : Nat → Prop) (d : D) (v : Value) (left : Int) (w : World) (h : Rd S w d v) (hf : Fit (.l [.i, .l [.i], .l [.i]]) d) (h0 : 0 ≤ left) (h1 : left ≤ 1048576) :
    Calls Tryd.prog 11 #[v, .int .i64 left] w (RetSv w left (vol d)) := by
  obtain ⟨ds, rfl, n, hn, HR⟩ := Fit.rows (k := 3) rfl hf
  obtain ⟨a, c, rfl, hm, hp, HG⟩ := h.row hn (by omega)
  unfold maxLen at hm
  have hsv := volL_svol ds
  have HS := Lib.hid hsv
  have HN := Lib.hid hn
  clear hsv hn
  have i1 := ix_of (P := Tryd.prog) tabPassRuleSL.under tabPassRuleSL.size (a := a) (n := n) hp c
  by_cases hq : left < n
  · go_enter Tryd.func11, Tryd.ntmps11
    go_wp2
    go_ret
    exact ⟨-1, rfl, Below.refl _ _, by omega, by omega, fun h => absurd h (by omega)⟩
  · go_enter Tryd.func11, Tryd.ntmps11
    go_wp2
    go_loopw [1, 5] (fun q i0 wr => ∃ (i : Nat) (l : Int), i ≤ n ∧ i0 = .int .i64 i ∧ q = .int .i64 l ∧ 0 ≤ l ∧ l ≤ left ∧ Below w.heap.size w wr ∧ (svol (ds.take (i * 3)) : Int) + 16 * l ≤ 16 * (left - n)) (fun _ i _ => n - (intOf i).toNat)
    case atStart => exact ⟨0, left - n, Nat.zero_le _, rfl, by simp, by omega, by omega, Below.refl _ _, by simp [svol, volL]⟩
    case round =>
      obtain ⟨i, l, hi, rfl, rfl, b0, b1, hb, hv⟩ := hrel
      by_cases hlt : i < n
      · have HB := Lib.hid hb
        have HV := Lib.hid hv
        clear hb hv
        obtain ⟨x0, q0, f0⟩ := HR.out i hlt 0 _ rfl
        rw [Nat.add_zero] at q0
        obtain ⟨x1, q1, f1⟩ := HR.out i hlt 1 _ rfl
        obtain ⟨x2, q2, f2⟩ := HR.out i hlt 2 _ rfl
        have t0 := svol_take q0
        have t1 := svol_take q1
        simp only [Nat.add_assoc, Nat.reduceAdd] at t1
        have t2 := svol_take q2
        simp only [Nat.add_assoc, Nat.reduceAdd] at t2
        have HT := Lib.hid (show svol (ds.take ((i + 1) * 3)) = svol (ds.take (i * 3)) + (vol x0 + vol x1 + vol x2) from by rw [show (i + 1) * 3 = i * 3 + 3 from by omega]; omega)
        obtain ⟨u0, g0, r0⟩ := HG.out wr HB.out _ _ q0
        obtain ⟨y0, rfl⟩ := f0
        obtain rfl : u0 = .int .i64 y0 := r0
        obtain ⟨u1, g1, r1⟩ := HG.out wr HB.out _ _ q1
        obtain ⟨ua1, un1, uc1, rfl⟩ := f1.sliceR r1
        obtain ⟨u2, g2, r2⟩ := HG.out wr HB.out _ _ q2
        obtain ⟨ua2, un2, uc2, rfl⟩ := f2.sliceR r2
        clear t0 q0 t1 q1 t2 q2
        go_wp2_with fail
        refine (szPassRule_d S y0 x1 _ x2 _ l wr r1 r2 f1 f2 b0 (by omega)).mono ?_
        rintro e w' ⟨L, rfl, hb', c0, c1, c2⟩
        have hbb := bnext HB.out hb' (Nat.le_refl _)
        have H2 := Lib.hid c2
        clear hb' c2 g0 g1 g2
        by_cases hL : L < 0
        · go_wp2
          go_ret
          exact ⟨-1, rfl, hbb, by omega, by omega, fun h => absurd h (by omega)⟩
        · go_wp2
          go_roundw
          case rel => exact ⟨i + 1, L, by omega, by go_num, rfl, by omega, by omega, hbb, by have a1 := HT.out; have a2 := HV.out; have a3 := H2.out (by omega); (try simp only [vol] at a1); omega⟩
          case measure => simp [intOf]; omega
      · have HB := Lib.hid hb
        have HV := Lib.hid hv
        clear hb hv
        go_wp2
        go_ret
        have e : i = n := by omega
        exact ⟨l, rfl, HB.out, by omega, by omega, fun _ => by have a1 := HS.out; have a2 := HV.out; have a3 := HN.out; rw [e, take_full a3] at a2; simp only [vol]; omega⟩
set_option maxHeartbeats 4000000 in
theorem toPassRuleS_d (S : Nat → Prop) (d : D) (v : Value) (w : World) (h : Rd S w d v) (hf : Fit (.l [.i, .l [.i], .l [.i]]) d) (hv : vol d ≤ 16777216) :
    Calls Tryd.prog 16 #[v] w (RetD w d) := by
  obtain ⟨ds, rfl, n, hn, HR⟩ := Fit.rows (k := 3) rfl hf
  obtain ⟨a, c, rfl, hm, hp, HG⟩ := h.row hn (by omega)
  have hl := volL_len ds
  simp only [vol] at hv
  have l1 : n ≤ 16777216 := by omega
  have HN := Lib.hid hn
  have HV := Lib.hid hv
  have HM := Lib.hid hm
  clear hn hv hl hm
  have i1 := ix_of (P := Tryd.prog) tabPassRuleSL.under tabPassRuleSL.size (a := a) (n := n) hp c
  obtain ⟨i0, hi, hz0, hz1, hz2⟩ := info_parts tabPassRuleSM.info
  go_enter Tryd.func16, Tryd.ntmps16
  go_wp2_with (at_make; refine wpList_make_full w rfl _ _ 29 rfl w.heap.size 48 i0 _ 3 tabPassRuleSM.under hi hz0 hz1 _ _ _ _ n rfl rfl rfl rfl ?b2 ?b3 (Nat.le_refl _) ?_)
  case b2 => rw [hz2]; omega
  case b3 => unfold maxLen; omega
  intro w0 hown hgr
  have hfil := Fil.startRow hown ⟨hgr.os, hgr.tape, hgr.output, hgr.size, fun k hk => hgr.block k hk (by simp)⟩
  clear hown hgr hi hz0 hz1 hz2
  go_wp2
  go_loopw [4] (fun i0 wr => ∃ (i : Nat) (F : List Nat), i ≤ n ∧ i0 = .int .i64 i ∧ Fil w wr w.heap.size (n * 3) (ds.take (i * 3)) F) (fun i _ => n - (intOf i).toNat)
  case atStart => exact ⟨0, [], Nat.zero_le _, rfl, by simpa using hfil⟩
  case round =>
      obtain ⟨i, F, hi, rfl, hfi⟩ := hrel
      clear hfil
      by_cases hlt : i < n
      · have HF := Lib.hid hfi
        clear hfi
        obtain ⟨x0, q0, f0⟩ := HR.out i hlt 0 _ rfl
        rw [Nat.add_zero] at q0
        obtain ⟨x1, q1, f1⟩ := HR.out i hlt 1 _ rfl
        obtain ⟨x2, q2, f2⟩ := HR.out i hlt 2 _ rfl
        have hlen : (ds.take (i * 3)).length = i * 3 := by have := HN.out; rw [List.length_take]; omega
        have t0 := take_succ_get q0
        have t1 := take_succ_get q1
        have t2 := take_succ_get q2
        have HT := Lib.hid (show ds.take ((i + 1) * 3) = ds.take (i * 3) ++ [x0, x1, x2] from by rw [show (i + 1) * 3 = i * 3 + 3 from by omega]; rw [t2, t1, t0]; simp)
        have s1 : vol x1 ≤ 16777216 := by have := volL_at ds _ x1 q1; have := HV.out; omega
        have s2 : vol x2 ≤ 16777216 := by have := volL_at ds _ x2 q2; have := HV.out; omega
        obtain ⟨u0, g0, r0⟩ := HG.out wr HF.out.below _ _ q0
        obtain ⟨y0, rfl⟩ := f0
        obtain rfl : u0 = .int .i64 y0 := r0
        obtain ⟨u1, g1, r1⟩ := HG.out wr HF.out.below _ _ q1
        obtain ⟨ua1, un1, uc1, rfl⟩ := f1.sliceR r1
        obtain ⟨u2, g2, r2⟩ := HG.out wr HF.out.below _ _ q2
        obtain ⟨ua2, un2, uc2, rfl⟩ := f2.sliceR r2
        have HL := Lib.hid hlen
        clear hlen t0 q0 t1 q1 t2 q2
        go_wp2_with fail
        refine (toPassRule_d S y0 x1 _ x2 _ wr r1 r2 f1 f2 s1 s2).mono ?_
        rintro e w' ⟨vs, F', rfl, hb, ho, hn', hl⟩
        have HNX := HF.out.row hb ho hn' hl (by rw [HL.out]; simp only [List.length_cons, List.length_nil]; have := Nat.mul_le_mul_right 3 (show i + 1 ≤ n from hlt); omega)
        rw [HL.out, ← HT.out] at HNX
        obtain ⟨z0, z1, z2, rfl⟩ : ∃ z0 z1 z2, vs = [z0, z1, z2] := by
          have hvl := owA_len _ _ _ ho
          match vs, hvl with
          | [z0, z1, z2], _ => exact ⟨z0, z1, z2, rfl⟩
        skip
        obtain ⟨_, _, ⟨ev0, _⟩, ho0, _⟩ := ho
        subst ev0
        obtain ⟨_, _, hv1, ho1, _⟩ := ho0
        obtain ⟨za1, zn1, zc1, rfl⟩ := f1.sliceO hv1
        obtain ⟨_, _, hv2, ho2, _⟩ := ho1
        obtain ⟨za2, zn2, zc2, rfl⟩ := f2.sliceO hv2
        have hN := Lib.hid HNX
        simp only [setRow, Nat.add_assoc] at hN
        obtain ⟨o0, e0⟩ := (HF.out.carry hb).has (i * 3) (by omega)
        have z0_ := (HF.out.carry hb).free (i * 3)
        obtain ⟨o1, e1⟩ := (HF.out.carry hb).has (i * 3 + 1) (by omega)
        have z1_ := (HF.out.carry hb).free (i * 3 + 1)
        obtain ⟨o2, e2⟩ := (HF.out.carry hb).has (i * 3 + 2) (by omega)
        have z2_ := (HF.out.carry hb).free (i * 3 + 2)
        clear HNX hb hl hn' g0 g1 g2
        go_wp2
        go_roundw
        case rel => exact ⟨i + 1, _, by omega, by go_num, hN.out⟩
        case measure => simp [intOf]; omega
      · have HF := Lib.hid hfi
        clear hfi
        go_wp2
        go_ret
        obtain rfl : i = n := by omega
        have h2 := HF.out
        rw [take_full HN.out] at h2
        exact h2.retRow HN.out HM.out
set_option maxHeartbeats 2000000 in
theorem eqPassRuleS_d (d : D) (v v' : Value) (w : World) (h : Rd Any w d v) (h' : Rd Any w d v') (hf : Fit (.l [.i, .l [.i], .l [.i]]) d) :
    Calls Tryd.prog 22 #[v, v'] w (RetV w (.bool true)) := by
  obtain ⟨ds, rfl, n, hn, HR⟩ := Fit.rows (k := 3) rfl hf
  obtain ⟨a, c, rfl, hm, hp, HG⟩ := h.row hn (by omega)
  obtain ⟨ap, cp, rfl, hmp, hpp, HGp⟩ := h'.row hn (by omega)
  unfold maxLen at hm
  have i1 := ix_of (P := Tryd.prog) tabPassRuleSM.under tabPassRuleSM.size (a := a) (n := n) hp c
  have i2 := ix_of (P := Tryd.prog) tabPassRuleSM.under tabPassRuleSM.size (a := ap) (n := n) hpp cp
  clear hn hmp
  go_enter Tryd.func22, Tryd.ntmps22
  go_wp2
  go_loopw [5] (fun i0 wr => ∃ i : Nat, i ≤ n ∧ i0 = .int .i64 i ∧ Below w.heap.size w wr) (fun i _ => n - (intOf i).toNat)
  case atStart => exact ⟨0, Nat.zero_le _, rfl, Below.refl _ _⟩
  case round =>
      obtain ⟨i, hi, rfl, hb⟩ := hrel
      have HB := Lib.hid hb
      clear hb
      by_cases hlt : i < n
      · skip
        obtain ⟨x0, q0, f0⟩ := HR.out i hlt 0 _ rfl
        rw [Nat.add_zero] at q0
        obtain ⟨x1, q1, f1⟩ := HR.out i hlt 1 _ rfl
        obtain ⟨x2, q2, f2⟩ := HR.out i hlt 2 _ rfl
        obtain ⟨u0, g0, r0⟩ := HG.out wr HB.out _ _ q0
        obtain ⟨y0, rfl⟩ := f0
        obtain rfl : u0 = .int .i64 y0 := r0
        obtain ⟨u1, g1, r1⟩ := HG.out wr HB.out _ _ q1
        obtain ⟨ua1, un1, uc1, rfl⟩ := f1.sliceR r1
        obtain ⟨u2, g2, r2⟩ := HG.out wr HB.out _ _ q2
        obtain ⟨ua2, un2, uc2, rfl⟩ := f2.sliceR r2
        obtain ⟨u0p, g0p, r0p⟩ := HGp.out wr HB.out _ _ q0
        obtain rfl : u0p = .int .i64 y0 := r0p
        obtain ⟨u1p, g1p, r1p⟩ := HGp.out wr HB.out _ _ q1
        obtain ⟨ua1p, un1p, uc1p, rfl⟩ := f1.sliceR r1p
        obtain ⟨u2p, g2p, r2p⟩ := HGp.out wr HB.out _ _ q2
        obtain ⟨ua2p, un2p, uc2p, rfl⟩ := f2.sliceR r2p
        clear q0 q1 q2
        go_wp2_with fail
        go_region_with (go_at_call 39; refine (eqPassRule_d y0 x1 _ x2 _ _ _ _ (r1.below (below_drewN _ _ 1)) (r2.below (below_drewN _ _ 1)) (r1p.below (below_drewN _ _ 1)) (r2p.below (below_drewN _ _ 1)) f1 f2).mono ?_; rintro e w' ⟨rfl, hb'⟩)
        all_goals
          have hbb := bnext HB.out.drew hb' (Nat.le_refl _)
          clear hb' g0 g0p g1 g1p g2 g2p
          go_wp2
          go_roundw
          case rel => exact ⟨i + 1, by omega, by go_num, hbb⟩
          case measure => simp [intOf]; omega
      · go_wp2
        go_ret
        exact ⟨rfl, HB.out⟩
set_option maxHeartbeats 2000000 in
theorem szPassing_d (S : Nat → Prop) (x0 : Int) (d1 : D) (v1 : Value) (d2 : D) (v2 : Value) (d3 : D) (v3 : Value) (left : Int) (w : World) (h1 : Rd S w d1 v1) (h2 : Rd S w d2 v2) (h3 : Rd S w d3 v3) (f1 : Fit (.l [.i]) d1) (f2 : Fit (.l [.b]) d2) (f3 : Fit (.l [.i, .l [.i], .l [.i]]) d3) (bl0 : 0 ≤ left) (bl1 : left ≤ 1048576) :
    Calls Tryd.prog 4 #[.agg #[.int .i64 x0, v1, v2, v3], .int .i64 left] w (RetSv w left (vol d1 + vol d2 + vol d3)) := by
  obtain ⟨va1, vn1, vc1, rfl⟩ := f1.sliceR h1
  obtain ⟨va2, vn2, vc2, rfl⟩ := f2.sliceR h2
  obtain ⟨va3, vn3, vc3, rfl⟩ := f3.sliceR h3
  have hb0 : Below w.heap.size w (w.alloc (.cells #[.int .i64 x0, .slice va1 vn1 vc1, .slice va2 vn2 vc2, .slice va3 vn3 vc3] 26)) := below_alloc _ _
  have H_1 := Lib.hid (fun (l : Int) (wx : World) (hb : Below w.heap.size w wx) => szInt64S_d S d1 _ l wx (h1.below hb) f1)
  have H_2 := Lib.hid (fun (l : Int) (wx : World) (hb : Below w.heap.size w wx) => szBoolS_d S d2 _ l wx (h2.below hb) f2)
  have H_3 := Lib.hid (fun (l : Int) (wx : World) (hb : Below w.heap.size w wx) => szPassRuleS_d S d3 _ l wx (h3.below hb) f3)
  have HB0 := Lib.hid hb0
  clear hb0 h1 f1 h2 f2 h3 f3
  go_enter Tryd.func4, Tryd.ntmps4
  go_wp2_with fail
  refine (H_1.out left _ HB0.out (by omega) (by omega)).mono ?_
  rintro e w1 ⟨L1, rfl, hb1, y1, z1, p1⟩
  have g1_2 : w1.cell? ⟨w.heap.size, 2, none⟩ = some (.slice va2 vn2 vc2) := by rw [bcell1 hb1 (by first | omega | (simp; done) | (simp; omega))]; simp [go_sem]
  have g1_3 : w1.cell? ⟨w.heap.size, 3, none⟩ = some (.slice va3 vn3 vc3) := by rw [bcell1 hb1 (by first | omega | (simp; done) | (simp; omega))]; simp [go_sem]
  have HB1 := Lib.hid (bnext HB0.out hb1 (by first | omega | (simp; done) | (simp; omega)))
  have hz1 : w.heap.size < w1.heap.size := by have := hb1.size; (try simp at this); omega
  have P1 := Lib.hid p1
  clear hb1 p1
  by_cases n1 : L1 < 0
  · go_wp2
    go_ret
    exact ⟨-1, rfl, HB1.out, by omega, by omega, fun h => absurd h (by omega)⟩
  · have m1 : 0 ≤ L1 := by omega
    go_wp2_with fail
    refine (H_2.out L1 _ HB1.out (by omega) (by omega)).mono ?_
    rintro e w2 ⟨L2, rfl, hb2, y2, z2, p2⟩
    have g2_3 : w2.cell? ⟨w.heap.size, 3, none⟩ = some (.slice va3 vn3 vc3) := by rw [bcell1 hb2 (by first | omega | (simp; done) | (simp; omega))]; exact g1_3
    have HB2 := Lib.hid (bnext HB1.out hb2 (by first | omega | (simp; done) | (simp; omega)))
    have hz2 : w.heap.size < w2.heap.size := by have := hb2.size; (try simp at this); omega
    have P2 := Lib.hid p2
    clear hb2 p2 g1_2 g1_3
    by_cases n2 : L2 < 0
    · go_wp2
      go_ret
      exact ⟨-1, rfl, HB2.out, by omega, by omega, fun h => absurd h (by omega)⟩
    · have m2 : 0 ≤ L2 := by omega
      go_wp2_with fail
      refine (H_3.out L2 _ HB2.out (by omega) (by omega)).mono ?_
      rintro e w3 ⟨L3, rfl, hb3, y3, z3, p3⟩
      have HB3 := Lib.hid (bnext HB2.out hb3 (by first | omega | (simp; done) | (simp; omega)))
      have hz3 : w.heap.size < w3.heap.size := by have := hb3.size; (try simp at this); omega
      have P3 := Lib.hid p3
      clear hb3 p3 g2_3
      by_cases n3 : L3 < 0
      · go_wp2
        go_ret
        exact ⟨-1, rfl, HB3.out, by omega, by omega, fun h => absurd h (by omega)⟩
      · have m3 : 0 ≤ L3 := by omega
        go_wp2
        go_ret
        exact ⟨L3, rfl, HB3.out, by omega, by omega, fun _ => by have t1 := P1.out m1; have t2 := P2.out m2; have t3 := P3.out m3; omega⟩
set_option maxHeartbeats 4000000 in
theorem toPassing_d (S : Nat → Prop) (x0 : Int) (d1 : D) (v1 : Value) (d2 : D) (v2 : Value) (d3 : D) (v3 : Value) (w : World) (h1 : Rd S w d1 v1) (h2 : Rd S w d2 v2) (h3 : Rd S w d3 v3) (f1 : Fit (.l [.i]) d1) (f2 : Fit (.l [.b]) d2) (f3 : Fit (.l [.i, .l [.i], .l [.i]]) d3) (l1 : vol d1 ≤ 16777216) (l2 : vol d2 ≤ 16777216) (l3 : vol d3 ≤ 16777216) :
    Calls Tryd.prog 6 #[.agg #[.int .i64 x0, v1, v2, v3]] w (RetA w [.i x0, d1, d2, d3]) := by
  obtain ⟨va1, vn1, vc1, rfl⟩ := f1.sliceR h1
  obtain ⟨va2, vn2, vc2, rfl⟩ := f2.sliceR h2
  obtain ⟨va3, vn3, vc3, rfl⟩ := f3.sliceR h3
  have H_1 := Lib.hid (fun (wx : World) (hb : Below w.heap.size w wx) => toInt64S_d S d1 _ wx (h1.below hb) f1 l1)
  have H_2 := Lib.hid (fun (wx : World) (hb : Below w.heap.size w wx) => toBoolS_d S d2 _ wx (h2.below hb) f2 l2)
  have H_3 := Lib.hid (fun (wx : World) (hb : Below w.heap.size w wx) => toPassRuleS_d S d3 _ wx (h3.below hb) f3 l3)
  clear h1 l1 h2 l2 h3 l3
  go_enter Tryd.func6, Tryd.ntmps6
  go_wp2_with fail
  refine (H_1.out _ (by repeat (first | exact Below.refl _ _ | assumption | refine Below.alloc ?_ (by simp; try omega) _ | refine Below.setCell ?_ (by simp; try omega) _))).mono ?_
  rintro e w1 ⟨u1, F1, rfl, hb1, ho1_1, hn1, hl1⟩
  obtain ⟨ua1, un1, uc1, rfl⟩ := f1.sliceO ho1_1
  have hB1 : Below w.heap.size w w1 := bnext (by repeat (first | exact Below.refl _ _ | assumption | refine Below.alloc ?_ (by simp; try omega) _ | refine Below.setCell ?_ (by simp; try omega) _)) hb1 (by simp; try omega)
  obtain ⟨hc1, hf1⟩ := bcell hb1
  have hz1 : w.heap.size + 2 < w1.heap.size := by have := hb1.size; simp at this; omega
  have hv1 : w.heap.size + 1 < w1.heap.size := by omega
  have hu1 : w.heap.size < w1.heap.size := by omega
  have fr1 : ∀ g, g ∈ F1 → w.heap.size + 2 < g := fun g hg => by have := hl1 g hg; simp at this; omega
  have HO1_1 := Lib.hid ho1_1
  have HR1 := Lib.hid fr1
  have HN1 := Lib.hid hn1
  have HB1 := Lib.hid hB1
  clear hb1 hl1 fr1 hn1 hB1  ho1_1
  go_wp2_with fail
  refine (H_2.out _ (by repeat (first | exact Below.refl _ _ | assumption | refine Below.alloc ?_ (by simp; try omega) _ | refine Below.setCell ?_ (by simp; try omega) _))).mono ?_
  rintro e w2 ⟨u2, F2, rfl, hb2, ho2_2, hn2, hl2⟩
  obtain ⟨ua2, un2, uc2, rfl⟩ := f2.sliceO ho2_2
  have hB2 : Below w.heap.size w w2 := bnext (by repeat (first | exact Below.refl _ _ | assumption | refine Below.alloc ?_ (by simp; try omega) _ | refine Below.setCell ?_ (by simp; try omega) _)) hb2 (by simp; try omega)
  obtain ⟨hc2, hf2⟩ := bcell hb2
  have hz2 : w.heap.size + 2 < w2.heap.size := by have := hb2.size; simp at this; omega
  have hv2 : w.heap.size + 1 < w2.heap.size := by omega
  have hu2 : w.heap.size < w2.heap.size := by omega
  have hy2 : w1.heap.size ≤ w2.heap.size := by have := hb2.size; simpa using this
  have fr2 : ∀ g, g ∈ F2 → w.heap.size + 2 < g := fun g hg => by have := hl2 g hg; simp at this; omega
  have fs2 : ∀ g, g ∈ F2 → w1.heap.size ≤ g := fun g hg => by have := hl2 g hg; simp at this; omega
  have ho1_2 := (show Ow _ d1 (.slice ua1 un1 uc1) F1 from by repeat (first | exact HO1_1.out | refine Ow.box ?_ HR1.out _ _)).below hb2
  have HO1_2 := Lib.hid ho1_2
  have HO2_2 := Lib.hid ho2_2
  have HR2 := Lib.hid fr2
  have HN2 := Lib.hid hn2
  have HB2 := Lib.hid hB2
  have HS2 := Lib.hid fs2
  clear hb2 hl2 fr2 hn2 hB2 fs2 ho1_2 ho2_2
  go_wp2_with fail
  refine (H_3.out _ (by repeat (first | exact Below.refl _ _ | assumption | refine Below.alloc ?_ (by simp; try omega) _ | refine Below.setCell ?_ (by simp; try omega) _))).mono ?_
  rintro e w3 ⟨u3, F3, rfl, hb3, ho3_3, hn3, hl3⟩
  obtain ⟨ua3, un3, uc3, rfl⟩ := f3.sliceO ho3_3
  have hB3 : Below w.heap.size w w3 := bnext (by repeat (first | exact Below.refl _ _ | assumption | refine Below.alloc ?_ (by simp; try omega) _ | refine Below.setCell ?_ (by simp; try omega) _)) hb3 (by simp; try omega)
  obtain ⟨hc3, hf3⟩ := bcell hb3
  have hz3 : w.heap.size + 2 < w3.heap.size := by have := hb3.size; simp at this; omega
  have hv3 : w.heap.size + 1 < w3.heap.size := by omega
  have hu3 : w.heap.size < w3.heap.size := by omega
  have hy3 : w2.heap.size ≤ w3.heap.size := by have := hb3.size; simpa using this
  have fr3 : ∀ g, g ∈ F3 → w.heap.size + 2 < g := fun g hg => by have := hl3 g hg; simp at this; omega
  have fs3 : ∀ g, g ∈ F3 → w2.heap.size ≤ g := fun g hg => by have := hl3 g hg; simp at this; omega
  have ho1_3 := (show Ow _ d1 (.slice ua1 un1 uc1) F1 from by repeat (first | exact HO1_2.out | refine Ow.box ?_ HR1.out _ _)).below hb3
  have ho2_3 := (show Ow _ d2 (.slice ua2 un2 uc2) F2 from by repeat (first | exact HO2_2.out | refine Ow.box ?_ HR2.out _ _)).below hb3
  have HO1_3 := Lib.hid ho1_3
  have HO2_3 := Lib.hid ho2_3
  have HO3_3 := Lib.hid ho3_3
  have HR3 := Lib.hid fr3
  have HN3 := Lib.hid hn3
  have HB3 := Lib.hid hB3
  have HS3 := Lib.hid fs3
  clear hb3 hl3 fr3 hn3 hB3 fs3 ho1_3 ho2_3 ho3_3
  go_wp2
  refine bodyPost_end (v := .agg #[.int .i64 x0, .slice ua1 un1 uc1, .slice ua2 un2 uc2, .slice ua3 un3 uc3]) (by simp [results, Tryd.results6, go_sem, hc1, hv1, hc2, hv2, hc3]) rfl ?_
  have hR1 := HR1.out
  have hT1 : ∀ g, g ∈ F1 → g < w1.heap.size := Ow.lt _ _ _ HO1_1.out
  have hR2 := HR2.out
  have hS2 := HS2.out
  have hT2 : ∀ g, g ∈ F2 → g < w2.heap.size := Ow.lt _ _ _ HO2_2.out
  have hR3 := HR3.out
  have hS3 := HS3.out
  have hT3 : ∀ g, g ∈ F3 → g < w3.heap.size := Ow.lt _ _ _ HO3_3.out
  refine ⟨[.int .i64 x0, .slice ua1 un1 uc1, .slice ua2 un2 uc2, .slice ua3 un3 uc3], ([] ++ (F1 ++ (F2 ++ (F3 ++ [])))), rfl, ?be, ⟨[], _, ⟨rfl, rfl⟩, ⟨F1, _, ?o1, ⟨F2, _, ?o2, ⟨F3, _, ?o3, rfl, rfl⟩, rfl⟩, rfl⟩, rfl⟩, ?nd, ?fr⟩
  case be => repeat (first | with_reducible exact HB3.out | refine Below.setCell ?_ (by simp; try omega) _ | refine Below.alloc ?_ (by simp; try omega) _)
  case o1 => repeat (first | with_reducible exact HO1_3.out | refine Ow.setCell ?_ (by intro hg; have := hR1 _ hg; simp at this; try omega) _)
  case o2 => repeat (first | with_reducible exact HO2_3.out | refine Ow.setCell ?_ (by intro hg; have := hR2 _ hg; simp at this; try omega) _)
  case o3 => repeat (first | with_reducible exact HO3_3.out | refine Ow.setCell ?_ (by intro hg; have := hR3 _ hg; simp at this; try omega) _)
  case nd =>
    simp only [List.nil_append, List.append_nil]
    exact nodup_next w1.heap.size HN1.out (nodup_next w2.heap.size HN2.out (HN3.out) hT2 (fun g hg => hS3 g hg)) hT1 (fun g hg => by (try simp only [List.mem_append] at hg); rcases hg with hg | hg <;> first | exact hS2 g hg | (have := hS3 g hg; omega))
  case fr =>
    intro g hg
    simp only [List.nil_append, List.append_nil, List.mem_append] at hg
    rcases hg with hg | hg | hg
    · have := hR1 g hg; omega
    · have := hR2 g hg; omega
    · have := hR3 g hg; omega
set_option maxHeartbeats 2000000 in
theorem eqPassing_d (x0 : Int) (d1 : D) (v1 : Value) (d2 : D) (v2 : Value) (d3 : D) (v3 : Value) (v1p : Value) (v2p : Value) (v3p : Value) (w : World) (h1 : Rd Any w d1 v1) (h2 : Rd Any w d2 v2) (h3 : Rd Any w d3 v3) (h1p : Rd Any w d1 v1p) (h2p : Rd Any w d2 v2p) (h3p : Rd Any w d3 v3p) (f1 : Fit (.l [.i]) d1) (f2 : Fit (.l [.b]) d2) (f3 : Fit (.l [.i, .l [.i], .l [.i]]) d3) :
    Calls Tryd.prog 8 #[.agg #[.int .i64 x0, v1, v2, v3], .agg #[.int .i64 x0, v1p, v2p, v3p]] w (RetV w (.bool true)) := by
  obtain ⟨va1, vn1, vc1, rfl⟩ := f1.sliceR h1
  obtain ⟨va2, vn2, vc2, rfl⟩ := f2.sliceR h2
  obtain ⟨va3, vn3, vc3, rfl⟩ := f3.sliceR h3
  obtain ⟨va1p, vn1p, vc1p, rfl⟩ := f1.sliceR h1p
  obtain ⟨va2p, vn2p, vc2p, rfl⟩ := f2.sliceR h2p
  obtain ⟨va3p, vn3p, vc3p, rfl⟩ := f3.sliceR h3p
  have hb : Below w.heap.size w ((w.alloc (.cells #[.int .i64 x0, .slice va1 vn1 vc1, .slice va2 vn2 vc2, .slice va3 vn3 vc3] 31)).alloc (.cells #[.int .i64 x0, .slice va1p vn1p vc1p, .slice va2p vn2p vc2p, .slice va3p vn3p vc3p] 31)) := ((Below.refl _ _).alloc (Nat.le_refl _) _).alloc (by simp) _
  have H_1 := Lib.hid (fun (wx : World) (hb : Below w.heap.size w wx) => eqInt64S_d d1 _ _ wx (h1.below hb) (h1p.below hb) f1)
  have H_2 := Lib.hid (fun (wx : World) (hb : Below w.heap.size w wx) => eqBoolS_d d2 _ _ wx (h2.below hb) (h2p.below hb) f2)
  have H_3 := Lib.hid (fun (wx : World) (hb : Below w.heap.size w wx) => eqPassRuleS_d d3 _ _ wx (h3.below hb) (h3p.below hb) f3)
  have HB0 := Lib.hid hb
  clear hb h1 h1p h2 h2p h3 h3p
  go_enter Tryd.func8, Tryd.ntmps8
  go_wp2_with fail
  refine (H_1.out _ HB0.out).mono ?_
  rintro e w1 ⟨rfl, hb1⟩
  have g1_2 : w1.cell? ⟨w.heap.size, 2, none⟩ = some (.slice va2 vn2 vc2) := by rw [bcell1 hb1 (by first | omega | (simp; done) | (simp; omega))]; simp [go_sem]
  have g1_2p : w1.cell? ⟨w.heap.size + 1, 2, none⟩ = some (.slice va2p vn2p vc2p) := by rw [bcell1 hb1 (by first | omega | (simp; done) | (simp; omega))]; simp [go_sem]
  have g1_3 : w1.cell? ⟨w.heap.size, 3, none⟩ = some (.slice va3 vn3 vc3) := by rw [bcell1 hb1 (by first | omega | (simp; done) | (simp; omega))]; simp [go_sem]
  have g1_3p : w1.cell? ⟨w.heap.size + 1, 3, none⟩ = some (.slice va3p vn3p vc3p) := by rw [bcell1 hb1 (by first | omega | (simp; done) | (simp; omega))]; simp [go_sem]
  have HB1 := Lib.hid (bnext HB0.out hb1 (by first | omega | (simp; done) | (simp; omega)))
  have hz1 : w.heap.size + 1 < w1.heap.size := by have := hb1.size; (try simp at this); omega
  clear hb1 
  go_wp2_with fail
  refine (H_2.out _ HB1.out).mono ?_
  rintro e w2 ⟨rfl, hb2⟩
  have g2_3 : w2.cell? ⟨w.heap.size, 3, none⟩ = some (.slice va3 vn3 vc3) := by rw [bcell1 hb2 (by first | omega | (simp; done) | (simp; omega))]; exact g1_3
  have g2_3p : w2.cell? ⟨w.heap.size + 1, 3, none⟩ = some (.slice va3p vn3p vc3p) := by rw [bcell1 hb2 (by first | omega | (simp; done) | (simp; omega))]; exact g1_3p
  have HB2 := Lib.hid (bnext HB1.out hb2 (by first | omega | (simp; done) | (simp; omega)))
  have hz2 : w.heap.size + 1 < w2.heap.size := by have := hb2.size; (try simp at this); omega
  clear hb2 g1_2 g1_2p g1_3 g1_3p
  go_wp2_with fail
  refine (H_3.out _ HB2.out).mono ?_
  rintro e w3 ⟨rfl, hb3⟩
  have HB3 := Lib.hid (bnext HB2.out hb3 (by first | omega | (simp; done) | (simp; omega)))
  have hz3 : w.heap.size + 1 < w3.heap.size := by have := hb3.size; (try simp at this); omega
  clear hb3 g2_3 g2_3p
  go_wp2
  go_ret
  exact ⟨rfl, HB3.out⟩
