/- The laws' functions on states: measure, copy, compare. Written by structgen.py. -/
import Derived.Test.YthfkhallnbcopaaN
namespace Go.Proofs.Ythfkhallnbcopaa
open Go.RowKit

set_option maxHeartbeats 1000000 in
theorem szState_c (S : Nat → Prop) (a_x0 : Option Addr) (c_x0 : Nat) (x0 : List Bool) (a_x1 : Option Addr) (c_x1 : Nat) (x1 : List (List Int)) (a_x2 : Option Addr) (c_x2 : Nat) (x2 : List Int) (left : Int) (w : World) (h_x0 : SlB S w a_x0 x0) (h_x1 : SlII S w a_x1 x1) (h_x2 : SlI S w a_x2 x2) (h0 : 0 ≤ left) (h1 : left ≤ 1048576) :
    Calls Try.prog 48 #[.agg #[.slice a_x0 x0.length c_x0, .slice a_x1 x1.length c_x1, .slice a_x2 x2.length c_x2], .int .i64 left] w (RetSz w left (fitB left x0 ∧ fitII left x1 ∧ fitI left x2)) := by
  have hb0 : Below w.heap.size w (w.alloc (.cells #[.slice a_x0 x0.length c_x0, .slice a_x1 x1.length c_x1, .slice a_x2 x2.length c_x2] 62)) := below_alloc _ _
  have H_x0 := Lib.hid (fun (l : Int) (wx : World) (hb : Below w.heap.size w wx) => szSlB_c S x0 a_x0 c_x0 l wx (h_x0.below hb))
  have H_x1 := Lib.hid (fun (l : Int) (wx : World) (hb : Below w.heap.size w wx) => szII_c S x1 a_x1 c_x1 l wx (h_x1.below hb))
  have H_x2 := Lib.hid (fun (l : Int) (wx : World) (hb : Below w.heap.size w wx) => szSlI_c S x2 a_x2 c_x2 l wx (h_x2.below hb))
  have HB0 := Lib.hid hb0
  clear hb0 h_x0 h_x1 h_x2
  go_enter Try.func48, Try.ntmps48
  go_wp2_with fail
  refine (H_x0.out left _ HB0.out (by omega) (by omega)).mono ?_
  rintro e w1 ⟨L1, rfl, hb1, d1, e1, p1⟩
  have g1_x1 : w1.cell? ⟨w.heap.size, 1, none⟩ = some (.slice a_x1 x1.length c_x1) := by rw [bcell1 hb1 (by first | omega | (simp; done) | (simp; omega))]; simp [go_sem]
  have g1_x2 : w1.cell? ⟨w.heap.size, 2, none⟩ = some (.slice a_x2 x2.length c_x2) := by rw [bcell1 hb1 (by first | omega | (simp; done) | (simp; omega))]; simp [go_sem]
  have HB1 := Lib.hid (bnext HB0.out hb1 (by first | omega | (simp; done) | (simp; omega)))
  have hz1 : w.heap.size < w1.heap.size := by have := hb1.size; (try simp at this); omega
  have P1 := Lib.hid p1
  clear hb1 p1
  by_cases n1 : L1 < 0
  · go_wp2
    go_ret
    exact ⟨-1, rfl, HB1.out, by omega, by omega, fun h => absurd h (by omega)⟩
  · have n1' : 0 ≤ L1 := by omega
    go_wp2_with fail
    refine (H_x1.out L1 _ HB1.out (by omega) (by omega)).mono ?_
    rintro e w2 ⟨L2, rfl, hb2, d2, e2, p2⟩
    have g2_x2 : w2.cell? ⟨w.heap.size, 2, none⟩ = some (.slice a_x2 x2.length c_x2) := by rw [bcell1 hb2 (by first | omega | (simp; done) | (simp; omega))]; exact g1_x2
    have HB2 := Lib.hid (bnext HB1.out hb2 (by first | omega | (simp; done) | (simp; omega)))
    have hz2 : w.heap.size < w2.heap.size := by have := hb2.size; (try simp at this); omega
    have P2 := Lib.hid p2
    clear hb2 p2 g1_x1 g1_x2
    by_cases n2 : L2 < 0
    · go_wp2
      go_ret
      exact ⟨-1, rfl, HB2.out, by omega, by omega, fun h => absurd h (by omega)⟩
    · have n2' : 0 ≤ L2 := by omega
      go_wp2_with fail
      refine (H_x2.out L2 _ HB2.out (by omega) (by omega)).mono ?_
      rintro e w3 ⟨L3, rfl, hb3, d3, e3, p3⟩
      have HB3 := Lib.hid (bnext HB2.out hb3 (by first | omega | (simp; done) | (simp; omega)))
      have hz3 : w.heap.size < w3.heap.size := by have := hb3.size; (try simp at this); omega
      have P3 := Lib.hid p3
      clear hb3 p3 g2_x2
      by_cases n3 : L3 < 0
      · go_wp2
        go_ret
        exact ⟨-1, rfl, HB3.out, by omega, by omega, fun h => absurd h (by omega)⟩
      · have n3' : 0 ≤ L3 := by omega
        go_wp2
        go_ret
        exact ⟨L3, rfl, HB3.out, by omega, by omega, fun _ => ⟨(P1.out n1').mono (by omega), (P2.out n2').mono (by omega), (P3.out n3').mono (by omega)⟩⟩
set_option maxHeartbeats 1000000 in
theorem toState_c (S : Nat → Prop) (a_x0 : Option Addr) (c_x0 : Nat) (x0 : List Bool) (a_x1 : Option Addr) (c_x1 : Nat) (x1 : List (List Int)) (a_x2 : Option Addr) (c_x2 : Nat) (x2 : List Int) (w : World) (h_x0 : SlB S w a_x0 x0) (h_x1 : SlII S w a_x1 x1) (h_x2 : SlI S w a_x2 x2) (l_x0 : fitB 1048576 x0) (l_x1 : fitII 1048576 x1) (l_x2 : fitI 1048576 x2) :
    Calls Try.prog 50 #[.agg #[.slice a_x0 x0.length c_x0, .slice a_x1 x1.length c_x1, .slice a_x2 x2.length c_x2]] w (RetA w [dB x0, dII x1, dI x2]) := by
  have H_x0 := Lib.hid (fun (wx : World) (hb : Below w.heap.size w wx) => toBoolS_c S a_x0 c_x0 x0 wx (h_x0.below hb) l_x0.to)
  have H_x1 := Lib.hid (fun (wx : World) (hb : Below w.heap.size w wx) => toInt64SS_c S a_x1 c_x1 x1 wx (h_x1.below hb) l_x1.to.1 l_x1.to.2)
  have H_x2 := Lib.hid (fun (wx : World) (hb : Below w.heap.size w wx) => toInt64S_c S a_x2 c_x2 x2 wx (h_x2.below hb) l_x2.to)
  clear h_x0 l_x0 h_x1 l_x1 h_x2 l_x2
  go_enter Try.func50, Try.ntmps50
  go_wp2_with fail
  refine (H_x0.out _ (by repeat (first | exact Below.refl _ _ | assumption | refine Below.alloc ?_ (by simp; try omega) _ | refine Below.setCell ?_ (by simp; try omega) _))).mono ?_
  rintro e w1 ⟨v1, F1, rfl, hb1, ho1_1, hn1, hl1⟩
  obtain ⟨a1, c1, rfl⟩ := ho1_1.valB
  have hB1 : Below w.heap.size w w1 := bnext (by repeat (first | exact Below.refl _ _ | assumption | refine Below.alloc ?_ (by simp; try omega) _ | refine Below.setCell ?_ (by simp; try omega) _)) hb1 (by simp; try omega)
  obtain ⟨hc1, hf1⟩ := bcell hb1
  have hz1 : w.heap.size + 2 < w1.heap.size := by have := hb1.size; simp at this; omega
  have hv1 : w.heap.size + 1 < w1.heap.size := by omega
  have hu1 : w.heap.size < w1.heap.size := by omega
  have fr1 : ∀ g, g ∈ F1 → w.heap.size + 2 < g := fun g hg => by have := hl1 g hg; simp at this; omega
  have HO1_1 := Lib.hid ho1_1
  have HR1 := Lib.hid fr1
  have HN1 := Lib.hid hn1
  have HB1 := Lib.hid hB1
  clear hb1 hl1 fr1 hn1 hB1  ho1_1
  go_wp2_with fail
  refine (H_x1.out _ (by repeat (first | exact Below.refl _ _ | assumption | refine Below.alloc ?_ (by simp; try omega) _ | refine Below.setCell ?_ (by simp; try omega) _))).mono ?_
  rintro e w2 ⟨v2, F2, rfl, hb2, ho2_2, hn2, hl2⟩
  obtain ⟨a2, c2, rfl⟩ := ho2_2.valII
  have hB2 : Below w.heap.size w w2 := bnext (by repeat (first | exact Below.refl _ _ | assumption | refine Below.alloc ?_ (by simp; try omega) _ | refine Below.setCell ?_ (by simp; try omega) _)) hb2 (by simp; try omega)
  obtain ⟨hc2, hf2⟩ := bcell hb2
  have hz2 : w.heap.size + 2 < w2.heap.size := by have := hb2.size; simp at this; omega
  have hv2 : w.heap.size + 1 < w2.heap.size := by omega
  have hu2 : w.heap.size < w2.heap.size := by omega
  have hy2 : w1.heap.size ≤ w2.heap.size := by have := hb2.size; simpa using this
  have fr2 : ∀ g, g ∈ F2 → w.heap.size + 2 < g := fun g hg => by have := hl2 g hg; simp at this; omega
  have fs2 : ∀ g, g ∈ F2 → w1.heap.size ≤ g := fun g hg => by have := hl2 g hg; simp at this; omega
  have ho1_2 := (Ow.box HO1_1.out HR1.out _ _).below hb2
  have HO1_2 := Lib.hid ho1_2
  have HO2_2 := Lib.hid ho2_2
  have HR2 := Lib.hid fr2
  have HN2 := Lib.hid hn2
  have HB2 := Lib.hid hB2
  have HS2 := Lib.hid fs2
  clear hb2 hl2 fr2 hn2 hB2 fs2 ho1_2 ho2_2
  go_wp2_with fail
  refine (H_x2.out _ (by repeat (first | exact Below.refl _ _ | assumption | refine Below.alloc ?_ (by simp; try omega) _ | refine Below.setCell ?_ (by simp; try omega) _))).mono ?_
  rintro e w3 ⟨v3, F3, rfl, hb3, ho3_3, hn3, hl3⟩
  obtain ⟨a3, c3, rfl⟩ := ho3_3.val
  have hB3 : Below w.heap.size w w3 := bnext (by repeat (first | exact Below.refl _ _ | assumption | refine Below.alloc ?_ (by simp; try omega) _ | refine Below.setCell ?_ (by simp; try omega) _)) hb3 (by simp; try omega)
  obtain ⟨hc3, hf3⟩ := bcell hb3
  have hz3 : w.heap.size + 2 < w3.heap.size := by have := hb3.size; simp at this; omega
  have hv3 : w.heap.size + 1 < w3.heap.size := by omega
  have hu3 : w.heap.size < w3.heap.size := by omega
  have hy3 : w2.heap.size ≤ w3.heap.size := by have := hb3.size; simpa using this
  have fr3 : ∀ g, g ∈ F3 → w.heap.size + 2 < g := fun g hg => by have := hl3 g hg; simp at this; omega
  have fs3 : ∀ g, g ∈ F3 → w2.heap.size ≤ g := fun g hg => by have := hl3 g hg; simp at this; omega
  have ho1_3 := (Ow.box HO1_2.out HR1.out _ _).below hb3
  have ho2_3 := (Ow.box HO2_2.out HR2.out _ _).below hb3
  have HO1_3 := Lib.hid ho1_3
  have HO2_3 := Lib.hid ho2_3
  have HO3_3 := Lib.hid ho3_3
  have HR3 := Lib.hid fr3
  have HN3 := Lib.hid hn3
  have HB3 := Lib.hid hB3
  have HS3 := Lib.hid fs3
  clear hb3 hl3 fr3 hn3 hB3 fs3 ho1_3 ho2_3 ho3_3
  go_wp2
  refine bodyPost_end (v := .agg #[.slice a1 x0.length c1, .slice a2 x1.length c2, .slice a3 x2.length c3]) (by simp [results, Try.results50, go_sem, hc1, hv1, hc2, hv2, hc3]) rfl ?_
  have hR1 := HR1.out
  have hT1 : ∀ g, g ∈ F1 → g < w1.heap.size := Ow.lt _ _ _ HO1_1.out
  have hR2 := HR2.out
  have hS2 := HS2.out
  have hT2 : ∀ g, g ∈ F2 → g < w2.heap.size := Ow.lt _ _ _ HO2_2.out
  have hR3 := HR3.out
  have hS3 := HS3.out
  have hT3 : ∀ g, g ∈ F3 → g < w3.heap.size := Ow.lt _ _ _ HO3_3.out
  refine ⟨[.slice a1 x0.length c1, .slice a2 x1.length c2, .slice a3 x2.length c3], (F1 ++ (F2 ++ (F3 ++ []))), rfl, ?be, ⟨F1, _, ?o1, ⟨F2, _, ?o2, ⟨F3, _, ?o3, rfl, rfl⟩, rfl⟩, rfl⟩, ?nd, ?fr⟩
  case be => repeat (first | exact HB3.out | refine Below.setCell ?_ (by simp; try omega) _)
  case o1 => repeat (first | exact HO1_3.out | refine Ow.setCell ?_ (by intro hg; have := hR1 _ hg; simp at this; try omega) _)
  case o2 => repeat (first | exact HO2_3.out | refine Ow.setCell ?_ (by intro hg; have := hR2 _ hg; simp at this; try omega) _)
  case o3 => repeat (first | exact HO3_3.out | refine Ow.setCell ?_ (by intro hg; have := hR3 _ hg; simp at this; try omega) _)
  case nd =>
    simp only [List.append_nil]
    exact nodup_next w1.heap.size HN1.out (nodup_next w2.heap.size HN2.out (HN3.out) hT2 (fun g hg => hS3 g hg)) hT1 (fun g hg => by rcases List.mem_append.1 hg with hg | hg <;> first | exact hS2 g hg | (have := hS3 g hg; omega))
  case fr =>
    intro g hg
    simp only [List.append_nil, List.mem_append] at hg
    rcases hg with hg | hg | hg
    · have := hR1 g hg; omega
    · have := hR2 g hg; omega
    · have := hR3 g hg; omega
set_option maxHeartbeats 1000000 in
theorem eqState_c (a_x0 : Option Addr) (c_x0 : Nat) (x0 : List Bool) (a_x1 : Option Addr) (c_x1 : Nat) (x1 : List (List Int)) (a_x2 : Option Addr) (c_x2 : Nat) (x2 : List Int) (a2_x0 : Option Addr) (c2_x0 : Nat) (a2_x1 : Option Addr) (c2_x1 : Nat) (a2_x2 : Option Addr) (c2_x2 : Nat) (w : World) (h_x0 : SlB Any w a_x0 x0) (h_x1 : SlII Any w a_x1 x1) (h_x2 : SlI Any w a_x2 x2) (h2_x0 : SlB Any w a2_x0 x0) (h2_x1 : SlII Any w a2_x1 x1) (h2_x2 : SlI Any w a2_x2 x2) :
    Calls Try.prog 52 #[.agg #[.slice a_x0 x0.length c_x0, .slice a_x1 x1.length c_x1, .slice a_x2 x2.length c_x2], .agg #[.slice a2_x0 x0.length c2_x0, .slice a2_x1 x1.length c2_x1, .slice a2_x2 x2.length c2_x2]] w (RetV w (.bool true)) := by
  have hb : Below w.heap.size w ((w.alloc (.cells #[.slice a_x0 x0.length c_x0, .slice a_x1 x1.length c_x1, .slice a_x2 x2.length c_x2] 65)).alloc (.cells #[.slice a2_x0 x0.length c2_x0, .slice a2_x1 x1.length c2_x1, .slice a2_x2 x2.length c2_x2] 65)) := ((Below.refl _ _).alloc (Nat.le_refl _) _).alloc (by simp) _
  have H_x0 := Lib.hid (fun (wx : World) (hb : Below w.heap.size w wx) => eqBoolS_c Any Any a_x0 a2_x0 c_x0 c2_x0 x0 wx (h_x0.below hb) (h2_x0.below hb))
  have H_x1 := Lib.hid (fun (wx : World) (hb : Below w.heap.size w wx) => eqInt64SS_c Any Any a_x1 a2_x1 c_x1 c2_x1 x1 wx (h_x1.below hb) (h2_x1.below hb))
  have H_x2 := Lib.hid (fun (wx : World) (hb : Below w.heap.size w wx) => eqInt64S_c Any Any a_x2 a2_x2 c_x2 c2_x2 x2 wx (h_x2.below hb) (h2_x2.below hb))
  have HB0 := Lib.hid hb
  clear hb h_x0 h2_x0 h_x1 h2_x1 h_x2 h2_x2
  go_enter Try.func52, Try.ntmps52
  go_wp2_with fail
  refine (H_x0.out _ (HB0.out)).mono ?_
  rintro e w1 ⟨rfl, n1, rfl⟩
  go_wp2_with fail
  refine (H_x1.out _ (HB0.out.trans (below_drewN _ _ _))).mono ?_
  rintro e w2 ⟨rfl, n2, rfl⟩
  go_wp2_with fail
  refine (H_x2.out _ (HB0.out.trans (below_drewN _ _ _))).mono ?_
  rintro e w3 ⟨rfl, n3, rfl⟩
  go_wp2
  go_ret
  exact ⟨rfl, HB0.out.trans (by repeat (first | exact Below.refl _ _ | exact below_drewN _ _ _ | refine Below.trans ?_ (below_drewN _ _ _)))⟩
end Go.Proofs.Ythfkhallnbcopaa
