/- The laws' functions on rules, systems and states: by shape. Written by tygen.py. -/
import Derived.Test.YthlbogmnnenkoaaYA
namespace Go.Proofs.Ythlbogmnnenkoaa
open Go.RowKit

theorem uncons {n : Nat} {l : List Value} (h : l.length = n + 1) : ∃ x t, l = x :: t ∧ t.length = n := by
  cases l with
  | nil => simp at h
  | cons x t => exact ⟨x, t, rfl, by simpa using h⟩
theorem tabIntoSM : Tab Try.prog 257 310 (.agg #[.int .i64 0, .slice none 0 0]) 2 32 := ⟨by kernel_rfl, by kernel_rfl⟩
theorem tabRuleSM : Tab Try.prog 120 259 (.agg #[.int .i64 0, .int .i64 0, .slice none 0 0, .slice none 0 0, .slice none 0 0, .slice none 0 0, .slice none 0 0, .slice none 0 0, .bool false]) 9 168 := ⟨by kernel_rfl, by kernel_rfl⟩
set_option maxHeartbeats 2000000 in
theorem szState_d (S : Nat → Prop) (d0 : D) (v0 : Value) (d1 : D) (v1 : Value) (d2 : D) (v2 : Value) (left : Int) (w : World) (h0 : Rd S w d0 v0) (h1 : Rd S w d1 v1) (h2 : Rd S w d2 v2) (f0 : Fit (.l [.b]) d0) (f1 : Fit (.l [.l [.i]]) d1) (f2 : Fit (.l [.i]) d2) (bl0 : 0 ≤ left) (bl1 : left ≤ 1048576) :
    Calls Try.prog 28 #[.agg #[v0, v1, v2], .int .i64 left] w (RetSv w left (vol d0 + vol d1 + vol d2)) := by
  obtain ⟨va0, vn0, vc0, rfl⟩ := f0.sliceR h0
  obtain ⟨va1, vn1, vc1, rfl⟩ := f1.sliceR h1
  obtain ⟨va2, vn2, vc2, rfl⟩ := f2.sliceR h2
  have hb0 : Below w.heap.size w (w.alloc (.cells #[.slice va0 vn0 vc0, .slice va1 vn1 vc1, .slice va2 vn2 vc2] 58)) := below_alloc _ _
  have H_0 := Lib.hid (fun (l : Int) (wx : World) (hb : Below w.heap.size w wx) => szBoolS_d S d0 _ l wx (h0.below hb) f0)
  have H_1 := Lib.hid (fun (l : Int) (wx : World) (hb : Below w.heap.size w wx) => szInt64SS_d S d1 _ l wx (h1.below hb) f1)
  have H_2 := Lib.hid (fun (l : Int) (wx : World) (hb : Below w.heap.size w wx) => szInt64S_d S d2 _ l wx (h2.below hb) f2)
  have HB0 := Lib.hid hb0
  clear hb0 h0 f0 h1 f1 h2 f2
  go_enter Try.func28, Try.ntmps28
  go_wp2_with fail
  refine (H_0.out left _ HB0.out (by omega) (by omega)).mono ?_
  rintro e w1 ⟨L1, rfl, hb1, y1, z1, p1⟩
  have g1_1 : w1.cell? ⟨w.heap.size, 1, none⟩ = some (.slice va1 vn1 vc1) := by rw [bcell1 hb1 (by first | omega | (simp; done) | (simp; omega))]; simp [go_sem]
  have g1_2 : w1.cell? ⟨w.heap.size, 2, none⟩ = some (.slice va2 vn2 vc2) := by rw [bcell1 hb1 (by first | omega | (simp; done) | (simp; omega))]; simp [go_sem]
  have HB1 := Lib.hid (bnext HB0.out hb1 (by first | omega | (simp; done) | (simp; omega)))
  have hz1 : w.heap.size < w1.heap.size := by have := hb1.size; (try simp at this); omega
  have P1 := Lib.hid p1
  clear hb1 p1
  by_cases n1 : L1 < 0
  · go_wp2
    go_ret
    exact ⟨-1, rfl, HB1.out, by omega, by omega, fun h => absurd h (by omega)⟩
  · have m1 : 0 ≤ L1 := by omega
    go_wp2_with fail
    refine (H_1.out L1 _ HB1.out (by omega) (by omega)).mono ?_
    rintro e w2 ⟨L2, rfl, hb2, y2, z2, p2⟩
    have g2_2 : w2.cell? ⟨w.heap.size, 2, none⟩ = some (.slice va2 vn2 vc2) := by rw [bcell1 hb2 (by first | omega | (simp; done) | (simp; omega))]; exact g1_2
    have HB2 := Lib.hid (bnext HB1.out hb2 (by first | omega | (simp; done) | (simp; omega)))
    have hz2 : w.heap.size < w2.heap.size := by have := hb2.size; (try simp at this); omega
    have P2 := Lib.hid p2
    clear hb2 p2 g1_1 g1_2
    by_cases n2 : L2 < 0
    · go_wp2
      go_ret
      exact ⟨-1, rfl, HB2.out, by omega, by omega, fun h => absurd h (by omega)⟩
    · have m2 : 0 ≤ L2 := by omega
      go_wp2_with fail
      refine (H_2.out L2 _ HB2.out (by omega) (by omega)).mono ?_
      rintro e w3 ⟨L3, rfl, hb3, y3, z3, p3⟩
      have HB3 := Lib.hid (bnext HB2.out hb3 (by first | omega | (simp; done) | (simp; omega)))
      have hz3 : w.heap.size < w3.heap.size := by have := hb3.size; (try simp at this); omega
      have P3 := Lib.hid p3
      clear hb3 p3 g2_2
      by_cases n3 : L3 < 0
      · go_wp2
        go_ret
        exact ⟨-1, rfl, HB3.out, by omega, by omega, fun h => absurd h (by omega)⟩
      · have m3 : 0 ≤ L3 := by omega
        go_wp2
        go_ret
        exact ⟨L3, rfl, HB3.out, by omega, by omega, fun _ => by have t1 := P1.out m1; have t2 := P2.out m2; have t3 := P3.out m3; omega⟩
set_option maxHeartbeats 4000000 in
theorem toState_d (S : Nat → Prop) (d0 : D) (v0 : Value) (d1 : D) (v1 : Value) (d2 : D) (v2 : Value) (w : World) (h0 : Rd S w d0 v0) (h1 : Rd S w d1 v1) (h2 : Rd S w d2 v2) (f0 : Fit (.l [.b]) d0) (f1 : Fit (.l [.l [.i]]) d1) (f2 : Fit (.l [.i]) d2) (l0 : vol d0 ≤ 16777216) (l1 : vol d1 ≤ 16777216) (l2 : vol d2 ≤ 16777216) :
    Calls Try.prog 30 #[.agg #[v0, v1, v2]] w (RetA w [d0, d1, d2]) := by
  obtain ⟨va0, vn0, vc0, rfl⟩ := f0.sliceR h0
  obtain ⟨va1, vn1, vc1, rfl⟩ := f1.sliceR h1
  obtain ⟨va2, vn2, vc2, rfl⟩ := f2.sliceR h2
  have H_0 := Lib.hid (fun (wx : World) (hb : Below w.heap.size w wx) => toBoolS_d S d0 _ wx (h0.below hb) f0 l0)
  have H_1 := Lib.hid (fun (wx : World) (hb : Below w.heap.size w wx) => toInt64SS_d S d1 _ wx (h1.below hb) f1 l1)
  have H_2 := Lib.hid (fun (wx : World) (hb : Below w.heap.size w wx) => toInt64S_d S d2 _ wx (h2.below hb) f2 l2)
  clear h0 l0 h1 l1 h2 l2
  go_enter Try.func30, Try.ntmps30
  go_wp2_with fail
  refine (H_0.out _ (by repeat (first | exact Below.refl _ _ | assumption | refine Below.alloc ?_ (by simp; try omega) _ | refine Below.setCell ?_ (by simp; try omega) _))).mono ?_
  rintro e w1 ⟨u1, F1, rfl, hb1, ho1_1, hn1, hl1⟩
  obtain ⟨ua1, un1, uc1, rfl⟩ := f0.sliceO ho1_1
  have hB1 : Below w.heap.size w w1 := bnext (by repeat (first | exact Below.refl _ _ | assumption | refine Below.alloc ?_ (by simp; try omega) _ | refine Below.setCell ?_ (by simp; try omega) _)) hb1 (by simp; try omega)
  obtain ⟨hc1, hf1⟩ := bcell hb1
  have hz1 : w.heap.size + 2 < w1.heap.size := by have := hb1.size; simp at this; omega
  have hv1 : w.heap.size + 1 < w1.heap.size := by omega
  have hu1 : w.heap.size < w1.heap.size := by omega
  have fr1 : ∀ g, g ∈ F1 → w.heap.size + 2 < g := fun g hg => by have := hl1 g hg; simp at this; omega
  have HO1_1 := Lib.hid ho1_1
  have HR1 := Lib.hid fr1
  have HN1 := Lib.hid hn1
  have HB1 := Lib.hid hB1
  clear hb1 hl1 fr1 hn1 hB1  ho1_1
  go_wp2_with fail
  refine (H_1.out _ (by repeat (first | exact Below.refl _ _ | assumption | refine Below.alloc ?_ (by simp; try omega) _ | refine Below.setCell ?_ (by simp; try omega) _))).mono ?_
  rintro e w2 ⟨u2, F2, rfl, hb2, ho2_2, hn2, hl2⟩
  obtain ⟨ua2, un2, uc2, rfl⟩ := f1.sliceO ho2_2
  have hB2 : Below w.heap.size w w2 := bnext (by repeat (first | exact Below.refl _ _ | assumption | refine Below.alloc ?_ (by simp; try omega) _ | refine Below.setCell ?_ (by simp; try omega) _)) hb2 (by simp; try omega)
  obtain ⟨hc2, hf2⟩ := bcell hb2
  have hz2 : w.heap.size + 2 < w2.heap.size := by have := hb2.size; simp at this; omega
  have hv2 : w.heap.size + 1 < w2.heap.size := by omega
  have hu2 : w.heap.size < w2.heap.size := by omega
  have hy2 : w1.heap.size ≤ w2.heap.size := by have := hb2.size; simpa using this
  have fr2 : ∀ g, g ∈ F2 → w.heap.size + 2 < g := fun g hg => by have := hl2 g hg; simp at this; omega
  have fs2 : ∀ g, g ∈ F2 → w1.heap.size ≤ g := fun g hg => by have := hl2 g hg; simp at this; omega
  have ho1_2 := (show Ow _ d0 (.slice ua1 un1 uc1) F1 from by repeat (first | exact HO1_1.out | refine Ow.box ?_ HR1.out _ _)).below hb2
  have HO1_2 := Lib.hid ho1_2
  have HO2_2 := Lib.hid ho2_2
  have HR2 := Lib.hid fr2
  have HN2 := Lib.hid hn2
  have HB2 := Lib.hid hB2
  have HS2 := Lib.hid fs2
  clear hb2 hl2 fr2 hn2 hB2 fs2 ho1_2 ho2_2
  go_wp2_with fail
  refine (H_2.out _ (by repeat (first | exact Below.refl _ _ | assumption | refine Below.alloc ?_ (by simp; try omega) _ | refine Below.setCell ?_ (by simp; try omega) _))).mono ?_
  rintro e w3 ⟨u3, F3, rfl, hb3, ho3_3, hn3, hl3⟩
  obtain ⟨ua3, un3, uc3, rfl⟩ := f2.sliceO ho3_3
  have hB3 : Below w.heap.size w w3 := bnext (by repeat (first | exact Below.refl _ _ | assumption | refine Below.alloc ?_ (by simp; try omega) _ | refine Below.setCell ?_ (by simp; try omega) _)) hb3 (by simp; try omega)
  obtain ⟨hc3, hf3⟩ := bcell hb3
  have hz3 : w.heap.size + 2 < w3.heap.size := by have := hb3.size; simp at this; omega
  have hv3 : w.heap.size + 1 < w3.heap.size := by omega
  have hu3 : w.heap.size < w3.heap.size := by omega
  have hy3 : w2.heap.size ≤ w3.heap.size := by have := hb3.size; simpa using this
  have fr3 : ∀ g, g ∈ F3 → w.heap.size + 2 < g := fun g hg => by have := hl3 g hg; simp at this; omega
  have fs3 : ∀ g, g ∈ F3 → w2.heap.size ≤ g := fun g hg => by have := hl3 g hg; simp at this; omega
  have ho1_3 := (show Ow _ d0 (.slice ua1 un1 uc1) F1 from by repeat (first | exact HO1_2.out | refine Ow.box ?_ HR1.out _ _)).below hb3
  have ho2_3 := (show Ow _ d1 (.slice ua2 un2 uc2) F2 from by repeat (first | exact HO2_2.out | refine Ow.box ?_ HR2.out _ _)).below hb3
  have HO1_3 := Lib.hid ho1_3
  have HO2_3 := Lib.hid ho2_3
  have HO3_3 := Lib.hid ho3_3
  have HR3 := Lib.hid fr3
  have HN3 := Lib.hid hn3
  have HB3 := Lib.hid hB3
  have HS3 := Lib.hid fs3
  clear hb3 hl3 fr3 hn3 hB3 fs3 ho1_3 ho2_3 ho3_3
  go_wp2
  refine bodyPost_end (v := .agg #[.slice ua1 un1 uc1, .slice ua2 un2 uc2, .slice ua3 un3 uc3]) (by simp [results, Try.results30, go_sem, hc1, hv1, hc2, hv2, hc3]) rfl ?_
  have hR1 := HR1.out
  have hT1 : ∀ g, g ∈ F1 → g < w1.heap.size := Ow.lt _ _ _ HO1_1.out
  have hR2 := HR2.out
  have hS2 := HS2.out
  have hT2 : ∀ g, g ∈ F2 → g < w2.heap.size := Ow.lt _ _ _ HO2_2.out
  have hR3 := HR3.out
  have hS3 := HS3.out
  have hT3 : ∀ g, g ∈ F3 → g < w3.heap.size := Ow.lt _ _ _ HO3_3.out
  refine ⟨[.slice ua1 un1 uc1, .slice ua2 un2 uc2, .slice ua3 un3 uc3], (F1 ++ (F2 ++ (F3 ++ []))), rfl, ?be, ⟨F1, _, ?o1, ⟨F2, _, ?o2, ⟨F3, _, ?o3, rfl, rfl⟩, rfl⟩, rfl⟩, ?nd, ?fr⟩
  case be => repeat (first | with_reducible exact HB3.out | refine Below.setCell ?_ (by simp; try omega) _ | refine Below.alloc ?_ (by simp; try omega) _)
  case o1 => repeat (first | with_reducible exact HO1_3.out | refine Ow.setCell ?_ (by intro hg; have := hR1 _ hg; simp at this; try omega) _)
  case o2 => repeat (first | with_reducible exact HO2_3.out | refine Ow.setCell ?_ (by intro hg; have := hR2 _ hg; simp at this; try omega) _)
  case o3 => repeat (first | with_reducible exact HO3_3.out | refine Ow.setCell ?_ (by intro hg; have := hR3 _ hg; simp at this; try omega) _)
  case nd =>
    simp only [List.append_nil]
    exact nodup_next w1.heap.size HN1.out (nodup_next w2.heap.size HN2.out (HN3.out) hT2 (fun g hg => hS3 g hg)) hT1 (fun g hg => by (try simp only [List.mem_append] at hg); rcases hg with hg | hg <;> first | exact hS2 g hg | (have := hS3 g hg; omega))
  case fr =>
    intro g hg
    simp only [List.append_nil, List.mem_append] at hg
    rcases hg with hg | hg | hg
    · have := hR1 g hg; omega
    · have := hR2 g hg; omega
    · have := hR3 g hg; omega
set_option maxHeartbeats 2000000 in
theorem eqState_d (d0 : D) (v0 : Value) (d1 : D) (v1 : Value) (d2 : D) (v2 : Value) (v0p : Value) (v1p : Value) (v2p : Value) (w : World) (h0 : Rd Any w d0 v0) (h1 : Rd Any w d1 v1) (h2 : Rd Any w d2 v2) (h0p : Rd Any w d0 v0p) (h1p : Rd Any w d1 v1p) (h2p : Rd Any w d2 v2p) (f0 : Fit (.l [.b]) d0) (f1 : Fit (.l [.l [.i]]) d1) (f2 : Fit (.l [.i]) d2) :
    Calls Try.prog 33 #[.agg #[v0, v1, v2], .agg #[v0p, v1p, v2p]] w (RetV w (.bool true)) := by
  obtain ⟨va0, vn0, vc0, rfl⟩ := f0.sliceR h0
  obtain ⟨va1, vn1, vc1, rfl⟩ := f1.sliceR h1
  obtain ⟨va2, vn2, vc2, rfl⟩ := f2.sliceR h2
  obtain ⟨va0p, vn0p, vc0p, rfl⟩ := f0.sliceR h0p
  obtain ⟨va1p, vn1p, vc1p, rfl⟩ := f1.sliceR h1p
  obtain ⟨va2p, vn2p, vc2p, rfl⟩ := f2.sliceR h2p
  have hb : Below w.heap.size w ((w.alloc (.cells #[.slice va0 vn0 vc0, .slice va1 vn1 vc1, .slice va2 vn2 vc2] 64)).alloc (.cells #[.slice va0p vn0p vc0p, .slice va1p vn1p vc1p, .slice va2p vn2p vc2p] 64)) := ((Below.refl _ _).alloc (Nat.le_refl _) _).alloc (by simp) _
  have H_0 := Lib.hid (fun (wx : World) (hb : Below w.heap.size w wx) => eqBoolS_d d0 _ _ wx (h0.below hb) (h0p.below hb) f0)
  have H_1 := Lib.hid (fun (wx : World) (hb : Below w.heap.size w wx) => eqInt64SS_d d1 _ _ wx (h1.below hb) (h1p.below hb) f1)
  have H_2 := Lib.hid (fun (wx : World) (hb : Below w.heap.size w wx) => eqInt64S_d d2 _ _ wx (h2.below hb) (h2p.below hb) f2)
  have HB0 := Lib.hid hb
  clear hb h0 h0p h1 h1p h2 h2p
  go_enter Try.func33, Try.ntmps33
  go_wp2_with fail
  refine (H_0.out _ HB0.out).mono ?_
  rintro e w1 ⟨rfl, hb1⟩
  have g1_1 : w1.cell? ⟨w.heap.size, 1, none⟩ = some (.slice va1 vn1 vc1) := by rw [bcell1 hb1 (by first | omega | (simp; done) | (simp; omega))]; simp [go_sem]
  have g1_1p : w1.cell? ⟨w.heap.size + 1, 1, none⟩ = some (.slice va1p vn1p vc1p) := by rw [bcell1 hb1 (by first | omega | (simp; done) | (simp; omega))]; simp [go_sem]
  have g1_2 : w1.cell? ⟨w.heap.size, 2, none⟩ = some (.slice va2 vn2 vc2) := by rw [bcell1 hb1 (by first | omega | (simp; done) | (simp; omega))]; simp [go_sem]
  have g1_2p : w1.cell? ⟨w.heap.size + 1, 2, none⟩ = some (.slice va2p vn2p vc2p) := by rw [bcell1 hb1 (by first | omega | (simp; done) | (simp; omega))]; simp [go_sem]
  have HB1 := Lib.hid (bnext HB0.out hb1 (by first | omega | (simp; done) | (simp; omega)))
  have hz1 : w.heap.size + 1 < w1.heap.size := by have := hb1.size; (try simp at this); omega
  clear hb1 
  go_wp2_with fail
  refine (H_1.out _ HB1.out).mono ?_
  rintro e w2 ⟨rfl, hb2⟩
  have g2_2 : w2.cell? ⟨w.heap.size, 2, none⟩ = some (.slice va2 vn2 vc2) := by rw [bcell1 hb2 (by first | omega | (simp; done) | (simp; omega))]; exact g1_2
  have g2_2p : w2.cell? ⟨w.heap.size + 1, 2, none⟩ = some (.slice va2p vn2p vc2p) := by rw [bcell1 hb2 (by first | omega | (simp; done) | (simp; omega))]; exact g1_2p
  have HB2 := Lib.hid (bnext HB1.out hb2 (by first | omega | (simp; done) | (simp; omega)))
  have hz2 : w.heap.size + 1 < w2.heap.size := by have := hb2.size; (try simp at this); omega
  clear hb2 g1_1 g1_1p g1_2 g1_2p
  go_wp2_with fail
  refine (H_2.out _ HB2.out).mono ?_
  rintro e w3 ⟨rfl, hb3⟩
  have HB3 := Lib.hid (bnext HB2.out hb3 (by first | omega | (simp; done) | (simp; omega)))
  have hz3 : w.heap.size + 1 < w3.heap.size := by have := hb3.size; (try simp at this); omega
  clear hb3 g2_2 g2_2p
  go_wp2
  go_ret
  exact ⟨rfl, HB3.out⟩
set_option maxHeartbeats 2000000 in
set_option maxRecDepth 100000 in
theorem markState_d (d0 : D) (v0 : Value) (d1 : D) (v1 : Value) (d2 : D) (v2 : Value) (F0 : List Nat) (F1 : List Nat) (F2 : List Nat) (m : Int) (w : World) (h0 : Ow w d0 v0 F0) (h1 : Ow w d1 v1 F1) (h2 : Ow w d2 v2 F2) (f0 : Fit (.l [.b]) d0) (f1 : Fit (.l [.l [.i]]) d1) (f2 : Fit (.l [.i]) d2) (hn : (F0 ++ (F1 ++ F2)).Nodup) (c0 : cnt d0 ≤ 16777216) (c1 : cnt d1 ≤ 16777216) (c2 : cnt d2 ≤ 16777216) (m0 : 0 ≤ m) (m1 : m ≤ 4294967296) :
    Calls Try.prog 35 #[.agg #[v0, v1, v2], .int .i64 m] w fun e w' => e = .returned (.int .i64 (m + cnt d0 + cnt d1 + cnt d2)) ∧ Chg (F0 ++ (F1 ++ F2)) w w' ∧ Ow w' (mkD (m) d0) v0 F0 ∧ Ow w' (mkD (m + cnt d0) d1) v1 F1 ∧ Ow w' (mkD (m + cnt d0 + cnt d1) d2) v2 F2 := by
  obtain ⟨va0, vn0, vc0, rfl⟩ := f0.sliceO h0
  obtain ⟨va1, vn1, vc1, rfl⟩ := f1.sliceO h1
  obtain ⟨va2, vn2, vc2, rfl⟩ := f2.sliceO h2
  have hb0 : Below w.heap.size w (w.alloc (.cells #[.slice va0 vn0 vc0, .slice va1 vn1 vc1, .slice va2 vn2 vc2] 64)) := below_alloc _ _
  obtain ⟨dn0, hn2, dx0⟩ := List.nodup_append.1 hn
  obtain ⟨dn1, dn2, dx1⟩ := List.nodup_append.1 hn2
  have e0 := Ow.lt _ _ _ h0
  have o0_0 := h0.below hb0
  have e1 := Ow.lt _ _ _ h1
  have o1_0 := h1.below hb0
  have e2 := Ow.lt _ _ _ h2
  have o2_0 := h2.below hb0
  have HC0 := Lib.hid (Chg.ofBelow (F := F0 ++ (F1 ++ F2)) hb0)
  have DX0 := Lib.hid dx0
  have DX1 := Lib.hid dx1
  have HE0 := Lib.hid e0
  have HO0_0 := Lib.hid o0_0
  have HE1 := Lib.hid e1
  have HO1_0 := Lib.hid o1_0
  have HE2 := Lib.hid e2
  have HO2_0 := Lib.hid o2_0
  clear hb0 hn dx0 dx1  hn2 e0 o0_0 h0  e1 o1_0 h1  e2 o2_0 h2
  go_enter Try.func35, Try.ntmps35
  go_wp2_with fail
  refine (markBoolS_d d0 _ F0 (m) _ HO0_0.out dn0 f0 (by omega) (by omega) (by omega)).mono ?_
  rintro e w1 ⟨rfl, he1, hk1⟩
  have g1_1 : w1.cell? ⟨w.heap.size, 1, none⟩ = some (.slice va1 vn1 vc1) := by rw [excell he1 (fun hg => by have := HE0.out _ hg; omega)]; simp [go_sem]
  have g1_2 : w1.cell? ⟨w.heap.size, 2, none⟩ = some (.slice va2 vn2 vc2) := by rw [excell he1 (fun hg => by have := HE0.out _ hg; omega)]; simp [go_sem]
  have HC1 := Lib.hid (HC0.out.trans (he1.chg.wider (fun k hk => by simp [hk])))
  have HO0_1 := Lib.hid hk1
  have HO1_1 := Lib.hid (he1.ow HO1_0.out (fun g h1 h2 => DX0.out g h2 g (by simp [h1]) rfl))
  have HO2_1 := Lib.hid (he1.ow HO2_0.out (fun g h1 h2 => DX0.out g h2 g (by simp [h1]) rfl))
  clear he1 hk1
  go_wp2_with fail
  refine (markInt64SS_d d1 _ F1 (m + cnt d0) _ HO1_1.out dn1 f1 (by omega) (by omega) (by omega)).mono ?_
  rintro e w2 ⟨rfl, he2, hk2⟩
  have g2_2 : w2.cell? ⟨w.heap.size, 2, none⟩ = some (.slice va2 vn2 vc2) := by rw [excell he2 (fun hg => by have := HE1.out _ hg; omega)]; exact g1_2
  have HC2 := Lib.hid (HC1.out.trans (he2.chg.wider (fun k hk => by simp [hk])))
  have HO0_2 := Lib.hid (he2.ow HO0_1.out (fun g h1 h2 => DX0.out g h1 g (by simp [h2]) rfl))
  have HO1_2 := Lib.hid hk2
  have HO2_2 := Lib.hid (he2.ow HO2_1.out (fun g h1 h2 => DX1.out g h2 g (by simp [h1]) rfl))
  clear he2 hk2 g1_1 g1_2
  go_wp2_with fail
  refine (markInt64S_d d2 _ F2 (m + cnt d0 + cnt d1) _ HO2_2.out dn2 f2 (by omega) (by omega) (by omega)).mono ?_
  rintro e w3 ⟨rfl, he3, hk3⟩
  have HC3 := Lib.hid (HC2.out.trans (he3.chg.wider (fun k hk => by simp [hk])))
  have HO0_3 := Lib.hid (he3.ow HO0_2.out (fun g h1 h2 => DX0.out g h1 g (by simp [h2]) rfl))
  have HO1_3 := Lib.hid (he3.ow HO1_2.out (fun g h1 h2 => DX1.out g h1 g (by simp [h2]) rfl))
  have HO2_3 := Lib.hid hk3
  clear he3 hk3 g2_2
  go_wp2
  go_ret
  exact ⟨rfl, HC3.out, HO0_3.out, HO1_3.out, HO2_3.out⟩
