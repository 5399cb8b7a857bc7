/- The laws' functions on struct values whose fields are numbers and slices: measure, copy, compare. Written by structgen.py. -/
import Derived.Test.YtdcpdipakglnnaaT
namespace Go.Proofs.Ytdcpdipakglnnaa
open Go.RowKit

theorem fitI.mono {l m : Int} {xs : List Int} (h : fitI l xs) (hl : l ≤ m) : fitI m xs := by unfold fitI at *; omega
theorem fitII.mono {l m : Int} {xs : List (List Int)} (h : fitII l xs) (hl : l ≤ m) : fitII m xs := ⟨by have := h.1; omega, fun j hj => by have := h.2 j hj; omega⟩
theorem fitI.to {xs : List Int} (h : fitI 1048576 xs) : xs.length ≤ 4294967296 := by unfold fitI at h; omega
theorem fitII.to {xs : List (List Int)} (h : fitII 1048576 xs) : xs.length ≤ 4294967296 ∧ ∀ j, j < xs.length → (nthR xs j).length ≤ 4294967296 := ⟨by have := h.1; omega, fun j hj => by have := h.2 j hj; omega⟩
theorem Ow.box {w : World} {d : D} {v : Value} {F : List Nat} {B : Nat} (h : Ow w d v F) (hF : ∀ g, g ∈ F → B < g) (i : Nat) (u : Value) : Ow (w.setCell ⟨B, i, none⟩ u) d v F :=
  Ow.setCell h (fun hg => Nat.lt_irrefl _ (hF _ hg)) u
/-- The values hold the data, one by one, in the blocks F. -/
def OwA (w : World) : List D → List Value → List Nat → Prop
  | [], [], F => F = []
  | d :: ds, v :: vs, F => ∃ F1 F2, Ow w d v F1 ∧ OwA w ds vs F2 ∧ F = F1 ++ F2
  | _, _, _ => False
/-- The call returns a struct whose fields' data lie in memory of their own. -/
def RetA (w : World) (ds : List D) (e : Ending) (w' : World) : Prop := ∃ vs F, e = .returned (.agg ⟨vs⟩) ∧ Below w.heap.size w w' ∧ OwA w' ds vs F ∧ F.Nodup ∧ ∀ g, g ∈ F → w.heap.size ≤ g
theorem nodup_next {F G : List Nat} (B : Nat) (h1 : F.Nodup) (h2 : G.Nodup) (hF : ∀ g, g ∈ F → g < B) (hG : ∀ g, g ∈ G → B ≤ g) : (F ++ G).Nodup :=
  List.nodup_append.2 ⟨h1, h2, fun a ha b hb e => by subst e; have := hF a ha; have := hG a hb; omega⟩
theorem szSlI_c (S : Nat → Prop) (xs : List Int) (a : Option Addr) (c : Nat) (left : Int) (w : World) (hx : SlI S w a xs) (h0 : 0 ≤ left) (h1 : left ≤ 1048576) :
    Calls Try.prog 72 #[.slice a xs.length c, .int .i64 left] w (RetSz w left (fitI left xs)) := szI_c xs a c left w hx.len h0 h1
set_option maxHeartbeats 1000000 in
theorem szStock_c (S : Nat → Prop) (a_x0 : Option Addr) (c_x0 : Nat) (x0 : List (List Int)) (a_x1 : Option Addr) (c_x1 : Nat) (x1 : List Int) (left : Int) (w : World) (h_x0 : SlII S w a_x0 x0) (h_x1 : SlI S w a_x1 x1) (h0 : 0 ≤ left) (h1 : left ≤ 1048576) :
    Calls Try.prog 57 #[.agg #[.slice a_x0 x0.length c_x0, .slice a_x1 x1.length c_x1], .int .i64 left] w (RetSz w left (fitII left x0 ∧ fitI left x1)) := by
  have hb0 : Below w.heap.size w (w.alloc (.cells #[.slice a_x0 x0.length c_x0, .slice a_x1 x1.length c_x1] 89)) := below_alloc _ _
  have H_x0 := Lib.hid (fun (l : Int) (wx : World) (hb : Below w.heap.size w wx) => szII_c S x0 a_x0 c_x0 l wx (h_x0.below hb))
  have H_x1 := Lib.hid (fun (l : Int) (wx : World) (hb : Below w.heap.size w wx) => szSlI_c S x1 a_x1 c_x1 l wx (h_x1.below hb))
  have HB0 := Lib.hid hb0
  clear hb0 h_x0 h_x1
  go_enter Try.func57, Try.ntmps57
  go_wp2_with fail
  refine (H_x0.out left _ HB0.out (by omega) (by omega)).mono ?_
  rintro e w1 ⟨L1, rfl, hb1, d1, e1, p1⟩
  have g1_x1 : w1.cell? ⟨w.heap.size, 1, none⟩ = some (.slice a_x1 x1.length c_x1) := by rw [bcell1 hb1 (by first | omega | (simp; done) | (simp; omega))]; simp [go_sem]
  have HB1 := Lib.hid (bnext HB0.out hb1 (by first | omega | (simp; done) | (simp; omega)))
  have hz1 : w.heap.size < w1.heap.size := by have := hb1.size; (try simp at this); omega
  have P1 := Lib.hid p1
  clear hb1 p1
  by_cases n1 : L1 < 0
  · go_wp2
    go_ret
    exact ⟨-1, rfl, HB1.out, by omega, by omega, fun h => absurd h (by omega)⟩
  · have n1' : 0 ≤ L1 := by omega
    go_wp2_with fail
    refine (H_x1.out L1 _ HB1.out (by omega) (by omega)).mono ?_
    rintro e w2 ⟨L2, rfl, hb2, d2, e2, p2⟩
    have HB2 := Lib.hid (bnext HB1.out hb2 (by first | omega | (simp; done) | (simp; omega)))
    have hz2 : w.heap.size < w2.heap.size := by have := hb2.size; (try simp at this); omega
    have P2 := Lib.hid p2
    clear hb2 p2 g1_x1
    by_cases n2 : L2 < 0
    · go_wp2
      go_ret
      exact ⟨-1, rfl, HB2.out, by omega, by omega, fun h => absurd h (by omega)⟩
    · have n2' : 0 ≤ L2 := by omega
      go_wp2
      go_ret
      exact ⟨L2, rfl, HB2.out, by omega, by omega, fun _ => ⟨(P1.out n1').mono (by omega), (P2.out n2').mono (by omega)⟩⟩
set_option maxHeartbeats 1000000 in
theorem toStock_c (S : Nat → Prop) (a_x0 : Option Addr) (c_x0 : Nat) (x0 : List (List Int)) (a_x1 : Option Addr) (c_x1 : Nat) (x1 : List Int) (w : World) (h_x0 : SlII S w a_x0 x0) (h_x1 : SlI S w a_x1 x1) (l_x0 : fitII 1048576 x0) (l_x1 : fitI 1048576 x1) :
    Calls Try.prog 59 #[.agg #[.slice a_x0 x0.length c_x0, .slice a_x1 x1.length c_x1]] w (RetA w [dII x0, dI x1]) := by
  have H_x0 := Lib.hid (fun (wx : World) (hb : Below w.heap.size w wx) => toInt64SS_c S a_x0 c_x0 x0 wx (h_x0.below hb) l_x0.to.1 l_x0.to.2)
  have H_x1 := Lib.hid (fun (wx : World) (hb : Below w.heap.size w wx) => toInt64S_c S a_x1 c_x1 x1 wx (h_x1.below hb) l_x1.to)
  clear h_x0 l_x0 h_x1 l_x1
  go_enter Try.func59, Try.ntmps59
  go_wp2_with fail
  refine (H_x0.out _ (by repeat (first | exact Below.refl _ _ | assumption | refine Below.alloc ?_ (by simp; try omega) _ | refine Below.setCell ?_ (by simp; try omega) _))).mono ?_
  rintro e w1 ⟨v1, F1, rfl, hb1, ho1_1, hn1, hl1⟩
  obtain ⟨a1, c1, rfl⟩ := ho1_1.valII
  have hB1 : Below w.heap.size w w1 := bnext (by repeat (first | exact Below.refl _ _ | assumption | refine Below.alloc ?_ (by simp; try omega) _ | refine Below.setCell ?_ (by simp; try omega) _)) hb1 (by simp; try omega)
  obtain ⟨hc1, hf1⟩ := bcell hb1
  have hz1 : w.heap.size + 2 < w1.heap.size := by have := hb1.size; simp at this; omega
  have hv1 : w.heap.size + 1 < w1.heap.size := by omega
  have hu1 : w.heap.size < w1.heap.size := by omega
  have fr1 : ∀ g, g ∈ F1 → w.heap.size + 2 < g := fun g hg => by have := hl1 g hg; simp at this; omega
  have HO1_1 := Lib.hid ho1_1
  have HR1 := Lib.hid fr1
  have HN1 := Lib.hid hn1
  have HB1 := Lib.hid hB1
  clear hb1 hl1 fr1 hn1 hB1  ho1_1
  go_wp2_with fail
  refine (H_x1.out _ (by repeat (first | exact Below.refl _ _ | assumption | refine Below.alloc ?_ (by simp; try omega) _ | refine Below.setCell ?_ (by simp; try omega) _))).mono ?_
  rintro e w2 ⟨v2, F2, rfl, hb2, ho2_2, hn2, hl2⟩
  obtain ⟨a2, c2, rfl⟩ := ho2_2.val
  have hB2 : Below w.heap.size w w2 := bnext (by repeat (first | exact Below.refl _ _ | assumption | refine Below.alloc ?_ (by simp; try omega) _ | refine Below.setCell ?_ (by simp; try omega) _)) hb2 (by simp; try omega)
  obtain ⟨hc2, hf2⟩ := bcell hb2
  have hz2 : w.heap.size + 2 < w2.heap.size := by have := hb2.size; simp at this; omega
  have hv2 : w.heap.size + 1 < w2.heap.size := by omega
  have hu2 : w.heap.size < w2.heap.size := by omega
  have hy2 : w1.heap.size ≤ w2.heap.size := by have := hb2.size; simpa using this
  have fr2 : ∀ g, g ∈ F2 → w.heap.size + 2 < g := fun g hg => by have := hl2 g hg; simp at this; omega
  have fs2 : ∀ g, g ∈ F2 → w1.heap.size ≤ g := fun g hg => by have := hl2 g hg; simp at this; omega
  have ho1_2 := (Ow.box HO1_1.out HR1.out _ _).below hb2
  have HO1_2 := Lib.hid ho1_2
  have HO2_2 := Lib.hid ho2_2
  have HR2 := Lib.hid fr2
  have HN2 := Lib.hid hn2
  have HB2 := Lib.hid hB2
  have HS2 := Lib.hid fs2
  clear hb2 hl2 fr2 hn2 hB2 fs2 ho1_2 ho2_2
  go_wp2
  refine bodyPost_end (v := .agg #[.slice a1 x0.length c1, .slice a2 x1.length c2]) (by simp [results, Try.results59, go_sem, hc1, hv1, hc2]) rfl ?_
  have hR1 := HR1.out
  have hT1 : ∀ g, g ∈ F1 → g < w1.heap.size := Ow.lt _ _ _ HO1_1.out
  have hR2 := HR2.out
  have hS2 := HS2.out
  have hT2 : ∀ g, g ∈ F2 → g < w2.heap.size := Ow.lt _ _ _ HO2_2.out
  refine ⟨[.slice a1 x0.length c1, .slice a2 x1.length c2], (F1 ++ (F2 ++ [])), rfl, ?be, ⟨F1, _, ?o1, ⟨F2, _, ?o2, rfl, rfl⟩, rfl⟩, ?nd, ?fr⟩
  case be => repeat (first | exact HB2.out | refine Below.setCell ?_ (by simp; try omega) _)
  case o1 => repeat (first | exact HO1_2.out | refine Ow.setCell ?_ (by intro hg; have := hR1 _ hg; simp at this; try omega) _)
  case o2 => repeat (first | exact HO2_2.out | refine Ow.setCell ?_ (by intro hg; have := hR2 _ hg; simp at this; try omega) _)
  case nd =>
    simp only [List.append_nil]
    exact nodup_next w1.heap.size HN1.out (HN2.out) hT1 (fun g hg => hS2 g hg)
  case fr =>
    intro g hg
    simp only [List.append_nil, List.mem_append] at hg
    rcases hg with hg | hg
    · have := hR1 g hg; omega
    · have := hR2 g hg; omega
set_option maxHeartbeats 1000000 in
theorem eqStock_c (a_x0 : Option Addr) (c_x0 : Nat) (x0 : List (List Int)) (a_x1 : Option Addr) (c_x1 : Nat) (x1 : List Int) (a2_x0 : Option Addr) (c2_x0 : Nat) (a2_x1 : Option Addr) (c2_x1 : Nat) (w : World) (h_x0 : SlII Any w a_x0 x0) (h_x1 : SlI Any w a_x1 x1) (h2_x0 : SlII Any w a2_x0 x0) (h2_x1 : SlI Any w a2_x1 x1) :
    Calls Try.prog 61 #[.agg #[.slice a_x0 x0.length c_x0, .slice a_x1 x1.length c_x1], .agg #[.slice a2_x0 x0.length c2_x0, .slice a2_x1 x1.length c2_x1]] w (RetV w (.bool true)) := by
  have hb : Below w.heap.size w ((w.alloc (.cells #[.slice a_x0 x0.length c_x0, .slice a_x1 x1.length c_x1] 92)).alloc (.cells #[.slice a2_x0 x0.length c2_x0, .slice a2_x1 x1.length c2_x1] 92)) := ((Below.refl _ _).alloc (Nat.le_refl _) _).alloc (by simp) _
  have H_x0 := Lib.hid (fun (wx : World) (hb : Below w.heap.size w wx) => eqInt64SS_c Any Any a_x0 a2_x0 c_x0 c2_x0 x0 wx (h_x0.below hb) (h2_x0.below hb))
  have H_x1 := Lib.hid (fun (wx : World) (hb : Below w.heap.size w wx) => eqInt64S_c Any Any a_x1 a2_x1 c_x1 c2_x1 x1 wx (h_x1.below hb) (h2_x1.below hb))
  have HB0 := Lib.hid hb
  clear hb h_x0 h2_x0 h_x1 h2_x1
  go_enter Try.func61, Try.ntmps61
  go_wp2_with fail
  refine (H_x0.out _ (HB0.out)).mono ?_
  rintro e w1 ⟨rfl, n1, rfl⟩
  go_wp2_with fail
  refine (H_x1.out _ (HB0.out.trans (below_drewN _ _ _))).mono ?_
  rintro e w2 ⟨rfl, n2, rfl⟩
  go_wp2
  go_ret
  exact ⟨rfl, HB0.out.trans (by repeat (first | exact Below.refl _ _ | exact below_drewN _ _ _ | refine Below.trans ?_ (below_drewN _ _ _)))⟩
end Go.Proofs.Ytdcpdipakglnnaa
