/- Drawn passing systems with a stock: P6Passing. Written by mkvc.py. -/
import Derived.Test.YtkjmehpehopncaaZ9
import Derived.Test.YtkjmehpehopncaaZ4
import Derived.Test.YtkjmehpehopncaaZ8
import Derived.Test.YtkjmehpehopncaaZ5
import Derived.Test.YtkjmehpehopncaaZ3
import Derived.Test.YtkjmehpehopncaaZ2
import Derived.Test.YtkjmehpehopncaaZ7
import Derived.Test.YtkjmehpehopncaaZ1
namespace Go.Proofs.Ytkjmehpehopncaa
open Go.RowKit
/-- The cells of a passing system and of a stock that is being drawn: the results' blocks, the system's block pb, the stock's block tb. -/
structure DrT (w0 : World) (s m pb tb : Nat) (K : Int) (wr : World) (v1 v2 v3 u0 u1 : Value) : Prop where
  bel : Below w0.heap.size w0 wr
  src : SrcE wr s m
  lt : w0.heap.size + 1 < s ∧ s < pb ∧ pb < tb ∧ tb < wr.heap.size
  r : ∀ i, i < 4 → ∃ u, wr.cell? ⟨w0.heap.size, i, none⟩ = some u
  zr : ∀ i, wr.frozen? ⟨w0.heap.size, i, none⟩ = false
  y : ∀ i, i < 2 → ∃ u, wr.cell? ⟨w0.heap.size + 1, i, none⟩ = some u
  zy : ∀ i, wr.frozen? ⟨w0.heap.size + 1, i, none⟩ = false
  c0 : wr.cell? ⟨pb, 0, none⟩ = some (.int .i64 K)
  c1 : wr.cell? ⟨pb, 1, none⟩ = some v1
  c2 : wr.cell? ⟨pb, 2, none⟩ = some v2
  c3 : wr.cell? ⟨pb, 3, none⟩ = some v3
  t0 : wr.cell? ⟨tb, 0, none⟩ = some u0
  t1 : wr.cell? ⟨tb, 1, none⟩ = some u1
  zt : ∀ i, wr.frozen? ⟨tb, i, none⟩ = false
theorem Bld.keepV {E : TypeId} {w w' : World} {B g n c : Nat} {vs : List Value} {F : List Nat} (h : Bld E w B (.slice (some ⟨g, 0, none⟩) n c) vs) (hc : Chg F w w') (hg : g ∉ F) : Bld E w' B (.slice (some ⟨g, 0, none⟩) n c) vs :=
  ownsRow_kept h fun k hk => by
    have e : k = g := by simpa [ob, Value.ownBlock] using hk
    subst e
    exact hc.block k (Bld.base h).2 hg
section
variable {w0 : World} {s m m' pb tb : Nat} {K : Int} {wr w' : World} {v1 v2 v3 u0 u1 : Value} {F : List Nat}
theorem DrT.go (h : DrT w0 s m pb tb K wr v1 v2 v3 u0 u1) (hc : Chg F wr w') (hs : SrcE w' s m') (hF : ∀ g, g ∈ F → g = s ∨ tb < g) : DrT w0 s m' pb tb K w' v1 v2 v3 u0 u1 := by
  have hlt := h.lt
  have e1 : w0.heap.size ∉ F := fun e => by have := hF _ e; omega
  have e2 : w0.heap.size + 1 ∉ F := fun e => by have := hF _ e; omega
  have e3 : pb ∉ F := fun e => by have := hF _ e; omega
  have e4 : tb ∉ F := fun e => by have := hF _ e; omega
  have cp := fun i => hc.cell (b := pb) (by omega) e3 i
  have ct := fun i => hc.cell (b := tb) (by omega) e4 i
  refine ⟨h.bel.trans (hc.below (by omega) (fun g hg => by have := hF g hg; omega)), hs, ⟨hlt.1, hlt.2.1, hlt.2.2.1, Nat.lt_of_lt_of_le hlt.2.2.2 hc.size⟩, fun i hi => ?_, fun i => (hc.frozen (by omega) e1 i).trans (h.zr i), fun i hi => ?_, fun i => (hc.frozen (by omega) e2 i).trans (h.zy i), (cp 0).trans h.c0, (cp 1).trans h.c1, (cp 2).trans h.c2, (cp 3).trans h.c3, (ct 0).trans h.t0, (ct 1).trans h.t1, fun i => (hc.frozen (by omega) e4 i).trans (h.zt i)⟩
  · obtain ⟨u, hu⟩ := h.r i hi
    exact ⟨u, (hc.cell (by omega) e1 i).trans hu⟩
  · obtain ⟨u, hu⟩ := h.y i hi
    exact ⟨u, (hc.cell (by omega) e2 i).trans hu⟩
theorem DrT.more (h : DrT w0 s m pb tb K wr v1 v2 v3 u0 u1) (hm : m ≤ m') : DrT w0 s m' pb tb K wr v1 v2 v3 u0 u1 := ⟨h.bel, h.src.more hm, h.lt, h.r, h.zr, h.y, h.zy, h.c0, h.c1, h.c2, h.c3, h.t0, h.t1, h.zt⟩
theorem DrT.below (h : DrT w0 s m pb tb K wr v1 v2 v3 u0 u1) (hb : Below wr.heap.size wr w') : DrT w0 s m pb tb K w' v1 v2 v3 u0 u1 := h.go (F := []) (Chg.ofBelow hb) (h.src.below hb (by have := h.lt; omega)) (by simp)
theorem DrT.sett {u0' u1' : Value} (h : DrT w0 s m pb tb K wr v1 v2 v3 u0 u1) (i : Nat) (v : Value) (e0 : (wr.setCell ⟨tb, i, none⟩ v).cell? ⟨tb, 0, none⟩ = some u0') (e1 : (wr.setCell ⟨tb, i, none⟩ v).cell? ⟨tb, 1, none⟩ = some u1') : DrT w0 s m pb tb K (wr.setCell ⟨tb, i, none⟩ v) v1 v2 v3 u0' u1' := by
  have hlt := h.lt
  have hc : Chg [tb] wr (wr.setCell ⟨tb, i, none⟩ v) := chg_set wr ⟨tb, i, none⟩ v [tb] (by simp)
  have cp := fun i => hc.cell (b := pb) (by omega) (by simp; omega) i
  have n0 : w0.heap.size ∉ [tb] := by simp; omega
  have n1 : w0.heap.size + 1 ∉ [tb] := by simp; omega
  refine ⟨h.bel.trans (hc.below (by omega) (fun g hg => by simp at hg; omega)), h.src.chg hc (fun g hg => by simp at hg; omega), ⟨hlt.1, hlt.2.1, hlt.2.2.1, Nat.lt_of_lt_of_le hlt.2.2.2 hc.size⟩, fun i hi => ?_, fun i => (hc.frozen (by omega) n0 i).trans (h.zr i), fun i hi => ?_, fun i => (hc.frozen (by omega) n1 i).trans (h.zy i), (cp 0).trans h.c0, (cp 1).trans h.c1, (cp 2).trans h.c2, (cp 3).trans h.c3, e0, e1, fun i => by rw [World.frozen?_setCell]; exact h.zt i⟩
  · obtain ⟨u, hu⟩ := h.r i hi
    exact ⟨u, (hc.cell (by omega) n0 i).trans hu⟩
  · obtain ⟨u, hu⟩ := h.y i hi
    exact ⟨u, (hc.cell (by omega) n1 i).trans hu⟩
theorem DrT.set0 (h : DrT w0 s m pb tb K wr v1 v2 v3 u0 u1) (v : Value) : DrT w0 s m pb tb K (wr.setCell ⟨tb, 0, none⟩ v) v1 v2 v3 v u1 := h.sett 0 v (World.cell?_setCell_same _ _ _ h.t0) ((World.cell?_setCell_other _ _ _ _ (by simp)).trans h.t1)
theorem DrT.set1 (h : DrT w0 s m pb tb K wr v1 v2 v3 u0 u1) (v : Value) : DrT w0 s m pb tb K (wr.setCell ⟨tb, 1, none⟩ v) v1 v2 v3 u0 v := h.sett 1 v ((World.cell?_setCell_other _ _ _ _ (by simp)).trans h.t0) (World.cell?_setCell_same _ _ _ h.t1)
end
/-- What P6Passing returns: a right system with a right stock. -/
def RetPT (w : World) (e : Ending) (w' : World) : Prop := ∃ (K : Nat) (x1 : List Int) (x2 : List Bool) (x3 : List PR) (y0 : List (List Int)) (y1 : List Int) (v1 v2 v3 u0 u1 : Value) (F1 F2 F3 G0 G1 : List Nat), e = .returned (.tuple #[.agg #[.int .i64 K, v1, v2, v3], .agg #[u0, u1]]) ∧ Below w.heap.size w w' ∧ Ow w' (dI x1) v1 F1 ∧ Ow w' (dB x2) v2 F2 ∧ Ow w' (dPR x3) v3 F3 ∧ Ow w' (dII y0) u0 G0 ∧ Ow w' (dI y1) u1 G1 ∧ stCode K x1 x2 x3 y0 y1 = 0
theorem smallBag {K : Nat} (hK : 1 ≤ K ∧ K ≤ 8) {xs : List Int} (hl : xs.length = K) (hb : ∀ j, 0 ≤ nth xs j ∧ nth xs j ≤ 3) : validBagS K xs = true := by
  have : allB cntOk xs = true := allB_true fun j hj => by have := hb j; simp [cntOk, inRg]; omega
  simp [validBagS, isBagS, this, inRg]; omega
set_option maxHeartbeats 2000000 in
set_option maxRecDepth 100000 in
theorem p6Passing_c (a : Option Addr) (n c : Nat) (w : World) (h : SlU (· < w.heap.size) w a n) :
    Calls Try.prog 5 #[.slice a n c] w (RetPT w) := by
  have hba : Below w.heap.size w ((w.alloc (.cells #[.int .i64 0, .slice none 0 0, .slice none 0 0, .slice none 0 0] 28)).alloc (.cells #[.slice none 0 0, .slice none 0 0] 31)) := (below_alloc w _).alloc (by simp) _
  have hzA : ((w.alloc (.cells #[.int .i64 0, .slice none 0 0, .slice none 0 0, .slice none 0 0] 28)).alloc (.cells #[.slice none 0 0, .slice none 0 0] 31)).heap.size = w.heap.size + 1 + 1 := by simp
  have HF := Lib.hid (l00From_c a n c ((w.alloc (.cells #[.int .i64 0, .slice none 0 0, .slice none 0 0, .slice none 0 0] 28)).alloc (.cells #[.slice none 0 0, .slice none 0 0] 31)) ((h.below hba).any (fun k hk => by rw [hzA]; omega)))
  have HRO := Lib.hid (callFunc_run (P := Try.prog) Try.func17 (by kernel_rfl) rfl)
  have HBA := Lib.hid hba
  rw [hzA] at HF
  clear h hba hzA
  go_enter Try.func5, Try.ntmps5
  go_wp2_with fail
  refine HF.out.mono ?_
  rintro e w2 ⟨rfl, hb2, hz2, hs2⟩
  obtain ⟨s, hs⟩ : ∃ s, s = w.heap.size + 1 + 1 := ⟨_, rfl⟩
  have HDW := Lib.hid (l06Draw_c (w.heap.size + 1 + 1) 0 w2 hs2 (by omega))
  have HB2 := Lib.hid hb2
  have HZ2 := Lib.hid hz2
  clear HF hb2 hz2 hs2
  rw [← hs] at HDW HB2 HZ2 ⊢
  have HS := Lib.hid hs
  clear hs
  go_wp2_with fail
  refine HDW.out.mono ?_
  rintro e w3 ⟨K, x1, x2, x3, v1, v2, v3, F1, F2, F3, rfl, hc3, hs3, o1, o2, o3, hF, hok, hK3⟩
  obtain ⟨a1, c1, rfl⟩ := o1.val
  obtain ⟨a2, c2, rfl⟩ := o2.valB
  obtain ⟨_, a3, c3, rfl⟩ : True ∧ ∃ a c, v3 = .slice a x3.length c := ⟨trivial, by obtain ⟨a, c, h, _⟩ := Rd_PR o3.rdA; exact ⟨a, c, h⟩⟩
  have hpo := okPass_ok hok
  have hs3w : w3.heap.size ≥ w2.heap.size := hc3.size
  have HFS : Hid (∀ g, g ∈ F1 ++ F2 ++ F3 → s < g ∧ g < w3.heap.size) := Lib.hid (fun g hg => ⟨by have := hF g hg; have := HZ2.out; omega, by
    rcases List.mem_append.1 hg with hg | hg
    · rcases List.mem_append.1 hg with hg | hg
      · exact Ow.lt _ _ _ o1 g hg
      · exact Ow.lt _ _ _ o2 g hg
    · exact Ow.lt _ _ _ o3 g hg⟩)
  have hb5 : Below w3.heap.size w3 ((w3.alloc (.cells #[.int .i64 K, .slice a1 x1.length c1, .slice a2 x2.length c2, .slice a3 x3.length c3] 28)).alloc (.cells #[.slice none 0 0, .slice none 0 0] 31)) := (below_alloc w3 _).alloc (by simp) _
  have HK1 : 1 ≤ K ∧ K ≤ 3 := by omega
  have HX1 : Hid (1 ≤ x1.length ∧ x1.length ≤ 4) := Lib.hid (by omega)
  have HX2 : Hid (x2.length = K) := Lib.hid (by omega)
  have hsw : s < w3.heap.size := by have := HZ2.out; omega
  have hwA : ∀ b i, b < s → ((w.alloc (.cells #[.int .i64 0, .slice none 0 0, .slice none 0 0, .slice none 0 0] 28)).alloc (.cells #[.slice none 0 0, .slice none 0 0] 31)).cell? ⟨b, i, none⟩ = w3.cell? ⟨b, i, none⟩ := fun b i hb => ((hc3.cell (by have := HZ2.out; omega) (by simp; omega) i).trans (HB2.out.cell (p := ⟨b, i, none⟩) hb)).symm
  have hwz : ∀ b i, b < s → ((w.alloc (.cells #[.int .i64 0, .slice none 0 0, .slice none 0 0, .slice none 0 0] 28)).alloc (.cells #[.slice none 0 0, .slice none 0 0] 31)).frozen? ⟨b, i, none⟩ = w3.frozen? ⟨b, i, none⟩ := fun b i hb => ((hc3.frozen (by have := HZ2.out; omega) (by simp; omega) i).trans (HB2.out.frozen (p := ⟨b, i, none⟩) hb)).symm
  have hsS := HS.out
  have HD5 : Hid (DrT w s 100 w3.heap.size (w3.heap.size + 1) K ((w3.alloc (.cells #[.int .i64 K, .slice a1 x1.length c1, .slice a2 x2.length c2, .slice a3 x3.length c3] 28)).alloc (.cells #[.slice none 0 0, .slice none 0 0] 31)) (.slice a1 x1.length c1) (.slice a2 x2.length c2) (.slice a3 x3.length c3) (.slice none 0 0) (.slice none 0 0)) := Lib.hid (by
    refine ⟨((HBA.out.trans (HB2.out.mono (by omega))).trans (hc3.below (by have := HZ2.out; omega) (fun g hg => by simp at hg; omega))).trans (hb5.mono (by omega)), hs3.below hb5 hsw, ⟨by omega, hsw, by omega, by simp⟩, fun i hi => ?_, fun i => ?_, fun i hi => ?_, fun i => ?_, by simp [go_sem], by simp [go_sem], by simp [go_sem], by simp [go_sem], by simp [go_sem], by simp [go_sem], fun i => by simp [go_sem]⟩
    · rw [bcell1 hb5 (by omega), ← hwA _ _ (by omega)]
      match i, hi with
      | 0, _ => exact ⟨_, by simp [go_sem]; rfl⟩
      | 1, _ => exact ⟨_, by simp [go_sem]; rfl⟩
      | 2, _ => exact ⟨_, by simp [go_sem]; rfl⟩
      | 3, _ => exact ⟨_, by simp [go_sem]; rfl⟩
    · rw [hb5.frozen (p := ⟨w.heap.size, i, none⟩) (by simp; omega), ← hwz _ _ (by omega)]
      simp [go_sem]
    · rw [bcell1 hb5 (by omega), ← hwA _ _ (by omega)]
      match i, hi with
      | 0, _ => exact ⟨_, by simp [go_sem]; rfl⟩
      | 1, _ => exact ⟨_, by simp [go_sem]; rfl⟩
    · rw [hb5.frozen (p := ⟨w.heap.size + 1, i, none⟩) (by simp; omega), ← hwz _ _ (by omega)]
      simp [go_sem])
  have HO1 := Lib.hid (o1.below hb5)
  have HO2 := Lib.hid (o2.below hb5)
  have HO3 := Lib.hid (o3.below hb5)
  have HOK := Lib.hid hok
  have HO : Hid (∀ m wx, SrcE wx s m → m ≤ 1000000 → Calls Try.prog 17 #[.pointer (some ⟨s, 0, none⟩), .int .i64 (K : Int), .int .i64 3] wx (RetL wx s (m + 8) fun xs => xs.length = K ∧ ∀ j, 0 ≤ nth xs j ∧ nth xs j ≤ 3)) := Lib.hid (fun m wx h hm => l06Objects_c s m K 3 wx h (by omega) (by omega) (by omega))
  have HOB : Hid (∀ m wx, SrcE wx s m → m ≤ 1000000 → Calls Try.prog 17 #[.pointer (some ⟨s, 0, none⟩), .int .i64 (K : Int), .int .i64 2] wx (RetBV wx s (m + 6) fun xs => xs.length = K ∧ ∀ j, 0 ≤ nth xs j ∧ nth xs j ≤ 2)) := Lib.hid (fun m wx h hm => l06ObjectsB_c s m K 2 wx h (by omega) (by omega) (by omega))
  have hx14 := HX1.out
  have hx2K : x2.length ≤ 3 := by have := HX2.out; omega
  clear hc3 hs3 o1 o2 o3 hF hok hpo hs3w hb5 hwA hwz HDW hsS
  go_wp2
  go_loopw [7] (fun i wr => ∃ (k : Nat) (Y : List (List Int)) (u : Value) (G : List Nat), k ≤ x1.length ∧ i = .int .i64 k ∧ Hid (Y.length = k) ∧ Hid (∀ j, j < Y.length → validBagS K (nthR Y j) = true) ∧ Hid (DrT w s (100 + 8 * k) w3.heap.size (w3.heap.size + 1) K wr (.slice a1 x1.length c1) (.slice a2 x2.length c2) (.slice a3 x3.length c3) u (.slice none 0 0)) ∧ Hid (Ow wr (dI x1) (.slice a1 x1.length c1) F1) ∧ Hid (Ow wr (dB x2) (.slice a2 x2.length c2) F2) ∧ Hid (Ow wr (dPR x3) (.slice a3 x3.length c3) F3) ∧ Hid (Lst 24 1 wr (w3.heap.size + 1 + 1) u Y.length (Y.map dI) G)) (fun i _ => x1.length - (intOf i).toNat)
  case atStart => exact ⟨0, [], _, _, Nat.zero_le _, rfl, Lib.hid rfl, Lib.hid (by simp), HD5, HO1, HO2, HO3, Lib.hid (Lst.nil _ _ _ _)⟩
  case round =>
    obtain ⟨k, Y, u, G, hk, rfl, HYL, HYV, HD, HA1, HA2, HA3, HL⟩ := hrel
    obtain ⟨_, tv, ev, rfl⟩ := HL.out.val
    have q1 := HD.out.c1
    have hYl : Y.length ≤ 4 := by have := HYL.out; omega
    by_cases hlt : k < x1.length
    · have hlt' : (k : Int) < x1.length := by omega
      have hs0 : wr.drew.cell? ⟨w3.heap.size + 1, 0, none⟩ = some (.slice tv Y.length ev) ∧ wr.drew.cell? ⟨w3.heap.size, 0, none⟩ = some (.int .i64 K) := ⟨HD.out.t0, HD.out.c0⟩
      have hD0 := HD.out.below (Below.refl _ _).drew
      have C := Lib.hid (HO.out _ wr.drew hD0.src (by omega))
      have HD0 := Lib.hid hD0
      have HL0 := Lib.hid (HL.out.below (Below.refl _ _).drew)
      clear hD0
      go_wp2
      rename_i K9 hK9
      refine Code.wp_mono (Q := normV K9) (fun e a w h => by cases e <;> first | exact h | exact h.elim) ?_
      refine wp_region_C (n := 10) (l := #[false, false, false, false, false, false, false, false, false, false]) (fun wx => wx.cell? ⟨w3.heap.size + 1, 0, none⟩ = some (.slice tv Y.length ev) ∧ wx.cell? ⟨w3.heap.size, 0, none⟩ = some (.int .i64 K)) [9] (by kernel_rfl) rfl rfl ?_
      refine wpC_take (i := 0) (v := ?v0_1) (l' := #[true, false, false, false, false, false, false, false, false, false]) [1, 7, 8, 9] rfl (by kernel_rfl) (by kernel_rfl) (by kernel_rfl) (by kernel_rfl) (by kernel_rfl) rfl (fun _ _ _ h => h) (by rfl) (fun wx hS => ?q0_1) (by assumption) ?_
      case q0_1 => (go_simp; try with_reducible rfl)
      try simp only [List.getElem_toArray, List.getElem_cons_zero, Act.put, List.setIfInBounds_toArray, List.set_cons_zero, List.set_cons_succ]
      refine wpC_take (i := 1) (v := ?v1_2) (l' := #[true, true, false, false, false, false, false, false, false, false]) [7, 8, 9] rfl (by kernel_rfl) (by kernel_rfl) (by kernel_rfl) (by kernel_rfl) (by kernel_rfl) rfl (fun _ _ _ h => h) (by rfl) (fun wx hS => ?q1_2) (by assumption) ?_
      case q1_2 => ((try dsimp only at hS); obtain ⟨hS1, hS2⟩ := hS; go_simp; try with_reducible rfl)
      try simp only [List.getElem_toArray, List.getElem_cons_succ, List.getElem_cons_zero, Act.put, List.setIfInBounds_toArray, List.set_cons_zero, List.set_cons_succ]
      refine wpC_take (i := 2) (v := ?v2_3) (l' := #[true, true, true, false, false, false, false, false, false, false]) [5, 6, 7, 8, 9] rfl (by kernel_rfl) (by kernel_rfl) (by kernel_rfl) (by kernel_rfl) (by kernel_rfl) rfl (fun _ _ _ h => h) (by rfl) (fun wx hS => ?q2_3) (by assumption) ?_
      case q2_3 => (go_simp; try with_reducible rfl)
      try simp only [List.getElem_toArray, List.getElem_cons_succ, List.getElem_cons_zero, Act.put, List.setIfInBounds_toArray, List.set_cons_zero, List.set_cons_succ]
      refine wpC_take (i := 3) (v := ?v3_4) (l' := #[true, true, true, true, false, false, false, false, false, false]) [4, 5, 6, 7, 8, 9] rfl (by kernel_rfl) (by kernel_rfl) (by kernel_rfl) (by kernel_rfl) (by kernel_rfl) rfl (fun _ _ _ h => h) (by rfl) (fun wx hS => ?q3_4) (by assumption) ?_
      case q3_4 => (go_simp; try with_reducible rfl)
      try simp only [List.getElem_toArray, List.getElem_cons_succ, List.getElem_cons_zero, Act.put, List.setIfInBounds_toArray, List.set_cons_zero, List.set_cons_succ]
      refine wpC_take (i := 4) (v := ?v4_5) (l' := #[true, true, true, true, true, false, false, false, false, false]) [5, 6, 7, 8, 9] rfl (by kernel_rfl) (by kernel_rfl) (by kernel_rfl) (by kernel_rfl) (by kernel_rfl) rfl (fun _ _ _ h => h) (by rfl) (fun wx hS => ?q4_5) (by assumption) ?_
      case q4_5 => ((try dsimp only at hS); obtain ⟨hS1, hS2⟩ := hS; go_simp; try with_reducible rfl)
      try simp only [List.getElem_toArray, List.getElem_cons_succ, List.getElem_cons_zero, Act.put, List.setIfInBounds_toArray, List.set_cons_zero, List.set_cons_succ]
      refine wpC_one (i := 5) (l' := #[true, true, true, true, true, true, false, false, false, false]) (by kernel_rfl) rfl rfl (by rfl) (fun Kr hKr => ?_)
      refine step_callV rfl 17 #[.tmp 23, .tmp 25, .const (.int .i64 3)] _ rfl HRO.out #[.pointer (some ⟨s, 0, none⟩), .int .i64 K, .int .i64 3] (by first | rfl | (simp [Act.eval]; done) | (simp [Act.eval]; rfl) | (simp [Act.eval]; repeat' constructor)) C.out ?_
      rintro e wA ⟨xs, vA, FA, rfl, hcA, hoA, hnA, hlA, hpA, hsA⟩
      refine ⟨_, rfl, ?_⟩
      have HPA := Lib.hid hpA
      clear hpA
      obtain ⟨aA, cA, rfl⟩ := hoA.val
      have HDA := Lib.hid (HD0.out.go hcA hsA (fun g hg => .inl (by simpa using hg)))
      have HLA := Lib.hid (HL0.out.keep hcA (fun g hg => by have := (HL0.out.lt g hg).1; have := HD0.out.lt; simp; omega))
      have hA1 := And.intro HDA.out.t0 HDA.out.c0
      refine hKr _ _ (fun _ => hA1) ?_
      clear hKr Kr
      try simp only [List.getElem_toArray, List.getElem_cons_succ, List.getElem_cons_zero, Act.put, List.setIfInBounds_toArray, List.set_cons_zero, List.set_cons_succ]
      refine wpC_one (i := 6) (l' := #[true, true, true, true, true, true, true, false, false, false]) (by kernel_rfl) rfl rfl (by rfl) (fun Kr hKr => ?_)
      go_simp
      refine hKr _ _ (fun _ => (And.intro (HDA.out.below (below_alloc wA _)).t0 (HDA.out.below (below_alloc wA _)).c0)) ?_
      clear hKr Kr
      try simp only [List.getElem_toArray, List.getElem_cons_succ, List.getElem_cons_zero, Act.put, List.setIfInBounds_toArray, List.set_cons_zero, List.set_cons_succ]
      refine wpC_one (i := 7) (l' := #[true, true, true, true, true, true, true, true, false, false]) (by kernel_rfl) rfl rfl (by rfl) (fun Kr hKr => ?_)
      refine step_lst rfl (.tmp 22) (.tmp 27) 29 rfl tabII rfl (by omega) (by decide) (w3.heap.size + 1 + 1) (.slice tv Y.length ev) Y.length (Y.map dI) [dI xs] G FA [.slice aA xs.length cA] rfl (HLA.out.below (below_alloc wA _)) wA.heap.size rfl ⟨⟨FA, [], hoA.below (below_alloc _ _), rfl, by simp⟩, rfl, hnA, fun g hg => by have := hlA g hg; have := HD0.out.lt; omega, fun g hg e => by have := (HL0.out.lt g e).2; have := hlA g hg; omega, fun j u hu => by match j, hu with | 0, hu => (simp at hu; subst hu; simp [go_sem]), by simp [Value.oneCell']⟩ (by omega) (by have := HDA.out.lt; simp; omega) ?_
      intro v7 w7 G7 hN
      obtain ⟨hl7, a7, c7, rfl⟩ := hN.lst.val
      have hDB := HDA.out.below (below_alloc wA (.cells #[.slice aA xs.length cA] 24))
      obtain ⟨p1, p2, p3, p4, p5⟩ := Lst.putC (q := w3.heap.size + 1) (i := 0) (HLA.out.below (below_alloc wA _)) hN (fun e => by have := (HL0.out.lt _ e).1; omega) (fun e => by have := hlA _ e; have := HD0.out.lt; omega) (by have := hDB.lt; omega)
      have hob := fun g (hg : g ∈ ob (Value.slice tv Y.length ev)) => (HL0.out.lt g (ob_sub HL0.out g hg)).1
      have h7c := (hN.chg.cell (b := w3.heap.size) (by have := hDB.lt; omega) (fun e => by have := hob _ e; omega) 0).trans hDB.c0
      have h71 := (hN.chg.cell (by have := hDB.lt; omega) p5 0).trans hDB.t0
      have h7z := (hN.chg.frozen (by have := hDB.lt; omega) p5 0).trans (hDB.zt 0)
      refine hKr _ _ (fun _ => (And.intro h71 h7c)) ?_
      clear hKr Kr
      try simp only [List.getElem_toArray, List.getElem_cons_succ, List.getElem_cons_zero, Act.put, List.setIfInBounds_toArray, List.set_cons_zero, List.set_cons_succ]
      have hs8 := And.intro h71 h7c
      refine wpC_take (i := 8) (v := ?v8_6) (l' := #[true, true, true, true, true, true, true, true, true, false]) [9] rfl (by kernel_rfl) (by kernel_rfl) (by kernel_rfl) (by kernel_rfl) (by kernel_rfl) rfl (fun _ _ _ h => h) (by rfl) (fun wx hS => ?q8_6) (by assumption) ?_
      case q8_6 => (go_simp; try with_reducible rfl)
      try simp only [List.getElem_toArray, List.getElem_cons_succ, List.getElem_cons_zero, Act.put, List.setIfInBounds_toArray, List.set_cons_zero, List.set_cons_succ]
      refine wpC_one (i := 9) (l' := #[true, true, true, true, true, true, true, true, true, true]) (by kernel_rfl) rfl rfl (by rfl) (fun Kr hKr => ?_)
      go_simp
      refine hKr _ _ (fun h => absurd (by decide) h) ?_
      clear hKr Kr
      try simp only [List.getElem_toArray, List.getElem_cons_succ, List.getElem_cons_zero, Act.put, List.setIfInBounds_toArray, List.set_cons_zero, List.set_cons_succ]
      refine wpC_done (by kernel_rfl) ?_ _
      skip
      refine hK9 _ _ ?_
      have hF7 : ∀ g, g ∈ ob (Value.slice tv Y.length ev) → g = s ∨ w3.heap.size + 1 < g := fun g hg => .inr (by have := hob g hg; omega)
      have hS7 : SrcE w7 s (100 + 8 * (k + 1)) := (hDB.src.chg hN.chg (fun g hg => by have := hob g hg; omega)).more (by omega)
      have HD9 := Lib.hid ((hDB.go hN.chg hS7 hF7).set0 (.slice a7 (Y.length + 1) c7))
      have HL9 : Hid (Lst 24 1 (w7.setCell ⟨w3.heap.size + 1, 0, none⟩ (.slice a7 (Y.length + 1) c7)) (w3.heap.size + 1 + 1) (.slice a7 (Y.length + 1) c7) (Y ++ [xs]).length ((Y ++ [xs]).map dI) G7) := Lib.hid (by simpa using p1)
      have HN9 : Hid ((Y ++ [xs]).length = k + 1) := Lib.hid (by have := HYL.out; simp; omega)
      have HV9 : Hid (∀ j, j < (Y ++ [xs]).length → validBagS K (nthR (Y ++ [xs]) j) = true) := Lib.hid (fun j hj => by
        by_cases e : j < Y.length
        · have := HYV.out j e
          rwa [show nthR (Y ++ [xs]) j = nthR Y j by simp [nthR, List.getD_eq_getElem?_getD, List.getElem?_append_left e]]
        · have : j = Y.length := by simp at hj; omega
          subst this
          rw [show nthR (Y ++ [xs]) Y.length = xs by simp [nthR]]
          exact smallBag (by omega) HPA.out.1 HPA.out.2)
      have hkeep : ∀ {d : D} {v : Value} {F : List Nat}, Ow wr d v F → (∀ g, g ∈ F → s < g ∧ g < w3.heap.size) → Ow (w7.setCell ⟨w3.heap.size + 1, 0, none⟩ (.slice a7 (Y.length + 1) c7)) d v F := fun ho hf => p2.ow ((hcA.ow (ho.below (Below.refl _ _).drew) (fun g hg => by have := hf g hg; simp; omega)).below (below_alloc wA _)) (fun g hg => by
        have h5 := hf g hg
        simp only [List.mem_cons]
        rintro (e | e)
        · omega
        · have := hob g e; omega)
      have HA19 := Lib.hid (hkeep HA1.out (fun g hg => HFS.out g (by simp [hg])))
      have HA29 := Lib.hid (hkeep HA2.out (fun g hg => HFS.out g (by simp [hg])))
      have HA39 := Lib.hid (hkeep HA3.out (fun g hg => HFS.out g (by simp [hg])))
      clear hF7 hS7 hN hDB p1 p2 p3 p4 p5 h71 h7z h7c hs8 hs0 hA1 hK9 hcA hoA hnA hlA hsA hl7 hob hkeep q1
      go_wp2
      go_roundw
      case rel => exact ⟨k + 1, Y ++ [xs], _, G7, by omega, by go_num, HN9, HV9, HD9, HA19, HA29, HA39, HL9⟩
      case measure => simp [intOf]; omega
    · have hlt' : ¬ (k : Int) < x1.length := by omega
      obtain ⟨u8, hu8⟩ : ∃ u8 : World, u8 = wr := ⟨_, rfl⟩
      subst hu8
      obtain ⟨G0, hO4, _, hG0⟩ := HL.out.ow (by omega) (by unfold maxLen; omega)
      have HO4 : Hid (Ow u8 (dII Y) (.slice tv Y.length ev) G0) := Lib.hid hO4
      have HFA : Hid (∀ g, g ∈ F1 ++ F2 ++ F3 ++ G0 → s < g ∧ g < u8.heap.size) := Lib.hid (fun g hg => by
        have h9 := HD.out.lt
        rcases List.mem_append.1 hg with hg | hg
        · have := HFS.out g hg; omega
        · have := HL.out.lt g (hG0 g hg); omega)
      have HG0 : Hid (∀ g, g ∈ G0 → w3.heap.size + 1 + 1 ≤ g) := Lib.hid (fun g hg => (HL.out.lt g (hG0 g hg)).1)
      have HYL4 : Hid (Y.length = x1.length) := Lib.hid (by have := HYL.out; omega)
      have C := Lib.hid (HOB.out _ u8 HD.out.src (by omega))
      have c08 := HD.out.c0
      clear hO4 hG0 HL
      go_wp2_with fail
      refine C.out.mono ?_
      rintro e w9 ⟨ys, g, cg, rfl, hc9, hbl9, ⟨hyl, hyb⟩, hs9⟩
      rw [hyl] at hbl9 ⊢
      have HD9 := Lib.hid (HD.out.go hc9 hs9 (fun g hg => .inl (by simpa using hg)))
      have hgb : u8.heap.size ≤ g ∧ g < w9.heap.size := Bld.base hbl9
      have hltt := HD.out.lt
      have hgt : w3.heap.size + 1 < g := by omega
      have y1 := HD9.out.t1
      have yz := HD9.out.zt 1
      have HDX := Lib.hid (HD9.out.set1 (.slice (some ⟨g, 0, none⟩) K cg))
      have hcs : Chg [w3.heap.size + 1] w9 (w9.setCell ⟨w3.heap.size + 1, 1, none⟩ (.slice (some ⟨g, 0, none⟩) K cg)) := chg_set w9 _ _ _ (by simp)
      have HBX := Lib.hid (hbl9.keepV hcs (by simp; omega))
      have hk9 : ∀ {d : D} {v : Value} {F : List Nat}, Ow u8 d v F → (∀ x, x ∈ F → s < x ∧ x < u8.heap.size ∧ x ≠ w3.heap.size + 1) → Ow (w9.setCell ⟨w3.heap.size + 1, 1, none⟩ (.slice (some ⟨g, 0, none⟩) K cg)) d v F := fun ho hf => hcs.ow (hc9.ow ho (fun x hx => by have := hf x hx; simp; omega)) (fun x hx => by have := hf x hx; simp; omega)
      have HFB : Hid (∀ x, x ∈ F1 ++ F2 ++ F3 ++ G0 → x ≠ w3.heap.size + 1) := Lib.hid (fun x hx => by
        rcases List.mem_append.1 hx with hx | hx
        · have := HFS.out x hx; omega
        · have := HG0.out x hx; omega)
      have hfb := fun x hx => And.intro (HFA.out x hx).1 (And.intro (HFA.out x hx).2 (HFB.out x hx))
      have HB1 := Lib.hid (hk9 HA1.out (fun x hx => hfb x (by simp [hx])))
      have HB2' := Lib.hid (hk9 HA2.out (fun x hx => hfb x (by simp [hx])))
      have HB3 := Lib.hid (hk9 HA3.out (fun x hx => hfb x (by simp [hx])))
      have HB4 := Lib.hid (hk9 HO4.out (fun x hx => hfb x (by simp [hx])))
      have HYB := Lib.hid hyb
      have HYLK := Lib.hid hyl
      have i1 := ix_of (P := Try.prog) tabI.under tabI.size (a := some ⟨g, 0, none⟩) (n := K) (fun _ => ⟨g, 0, rfl⟩) cg
      simp only [Nat.mul_one, adr, blk, ofs, Nat.zero_add] at i1
      have i2 := HA2.out.argB.ix tabB.under tabB.size c2
      clear hc9 hbl9 hyl hyb hs9 hcs hk9 hfb C c08
      go_wp2
      go_loopw [8] (fun i wr => ∃ (k : Nat) (zs : List Int), k ≤ K ∧ i = .int .i64 k ∧ Hid (zs.length = K) ∧ Hid (∀ j, 0 ≤ nth zs j ∧ nth zs j ≤ 2) ∧ Hid (∀ j, j < k → nthB x2 j = true → nth zs j = 0) ∧ Hid (DrT w s 1000 w3.heap.size (w3.heap.size + 1) K wr (.slice a1 x1.length c1) (.slice a2 x2.length c2) (.slice a3 x3.length c3) (.slice tv Y.length ev) (.slice (some ⟨g, 0, none⟩) K cg)) ∧ Hid (Ow wr (dI x1) (.slice a1 x1.length c1) F1) ∧ Hid (Ow wr (dB x2) (.slice a2 x2.length c2) F2) ∧ Hid (Ow wr (dPR x3) (.slice a3 x3.length c3) F3) ∧ Hid (Ow wr (dII Y) (.slice tv Y.length ev) G0) ∧ Hid (Bld 2 wr u8.heap.size (.slice (some ⟨g, 0, none⟩) K cg) (zs.map (.int .i64)))) (fun i _ => K - (intOf i).toNat)
      case atStart => exact ⟨0, ys, Nat.zero_le _, rfl, HYLK, HYB, Lib.hid (by intro j hj; omega), Lib.hid (HDX.out.more (by omega)), HB1, HB2', HB3, HB4, HBX⟩
      case round =>
        obtain ⟨k, zs, hk2, rfl, HZL, HZB, HZ0, HDr, HE1, HE2, HE3, HE4, HBL⟩ := hrel
        have q0 := HDr.out.c0
        by_cases hltk : k < K
        · have hltk' : (k : Int) < K := by omega
          have q2 := HDr.out.c2
          have hltk2 : (k : Int) < x2.length := by have := HX2.out; omega
          have gB := HE2.out.argB.cell k (by have := HX2.out; omega)
          cases hfr : nthB x2 k
          · rw [hfr] at gB
            have HZ9 : Hid (∀ j, j < k + 1 → nthB x2 j = true → nth zs j = 0) := Lib.hid (fun j hj hb => by
              by_cases e : j = k
              · subst e; rw [hfr] at hb; cases hb
              · exact HZ0.out j (by omega) hb)
            clear hfr
            go_wp2
            go_roundw
            case rel => exact ⟨k + 1, zs, by omega, by go_num, HZL, HZB, HZ9, HDr, HE1, HE2, HE3, HE4, HBL⟩
            case measure => simp [intOf]; omega
          · rw [hfr] at gB
            have q3 := HDr.out.t1
            have g1 := HBL.out.atV (i := k) (by have := HZL.out; omega)
            have g2 := HBL.out.free k
            have hcs : Chg [g] wr (wr.setCell ⟨g, k, none⟩ (.int .i64 0)) := chg_set wr ⟨g, k, none⟩ _ _ (by simp)
            have HD9' := Lib.hid (HDr.out.go hcs (HDr.out.src.chg hcs (fun x hx => by simp at hx; omega)) (fun x hx => .inr (by simp at hx; omega)))
            have hkk : ∀ {d : D} {v : Value} {F : List Nat}, Ow wr d v F → (∀ x, x ∈ F → x < u8.heap.size) → Ow (wr.setCell ⟨g, k, none⟩ (.int .i64 0)) d v F := fun ho hf => hcs.ow ho (fun x hx => by have := hf x hx; simp; omega)
            have HE19 := Lib.hid (hkk HE1.out (fun x hx => (HFA.out x (by simp [hx])).2))
            have HE29 := Lib.hid (hkk HE2.out (fun x hx => (HFA.out x (by simp [hx])).2))
            have HE39 := Lib.hid (hkk HE3.out (fun x hx => (HFA.out x (by simp [hx])).2))
            have HE49 := Lib.hid (hkk HE4.out (fun x hx => (HFA.out x (by simp [hx])).2))
            have HBL9 := Lib.hid (HBL.out.setV k 0)
            have HZL9 : Hid ((zs.set k 0).length = K) := Lib.hid (by simpa using HZL.out)
            have HZB9 : Hid (∀ j, 0 ≤ nth (zs.set k 0) j ∧ nth (zs.set k 0) j ≤ 2) := Lib.hid (fun j => by rw [nthS (by have := HZL.out; omega)]; have := HZB.out j; split <;> omega)
            have HZ9 : Hid (∀ j, j < k + 1 → nthB x2 j = true → nth (zs.set k 0) j = 0) := Lib.hid (fun j hj hb => by
              rw [nthS (by have := HZL.out; omega)]
              by_cases e : j = k
              · rw [if_pos e]
              · rw [if_neg e]; exact HZ0.out j (by omega) hb)
            clear hcs hkk hfr
            go_wp2
            go_roundw
            case rel => exact ⟨k + 1, zs.set k 0, by omega, by go_num, HZL9, HZB9, HZ9, HD9', HE19, HE29, HE39, HE49, HBL9⟩
            case measure => simp [intOf]; omega
        · have hltk' : ¬ (k : Int) < K := by omega
          obtain ⟨ay, cy, Fy, hvy, hoy, _, hFy⟩ := HBL.out.ow (by rw [HZL.out]; unfold maxLen; omega)
          rw [HZL.out] at hvy hoy
          rw [← hvy] at hoy
          have hsto : stCode K x1 x2 x3 Y zs = 0 := by
            refine stCode_zero HOK.out ?_
            have e1 : validBagS K zs = true := smallBag (by omega) HZL.out (fun j => by have := HZB.out j; omega)
            have e2 : noFreeS x2 zs = true := noFreeS_true fun j hj => by
              unfold free1
              cases hb : nthB x2 j
              · simp
              · have := HZ0.out j (by have := HZL.out; omega) hb
                simp [this]
            have e3 : allII (validBagS K) Y = true := allII_true fun j hj => HYV.out j hj
            have e4 := HYL4.out
            simp [okStockAll, okStock, HOK.out, e1, e2, e3, e4]
          have HFIN : Hid (∀ wx, Chg [w.heap.size, w.heap.size + 1] wr wx → RetPT w (.returned (.tuple #[.agg #[.int .i64 K, .slice a1 x1.length c1, .slice a2 x2.length c2, .slice a3 x3.length c3], .agg #[.slice tv Y.length ev, .slice (some ⟨g, 0, none⟩) K cg]])) wx) := Lib.hid (fun wx hc => by
            have hsl := HDr.out.lt
            have hk : ∀ {d : D} {v : Value} {F : List Nat}, Ow wr d v F → (∀ x, x ∈ F → s < x) → Ow wx d v F := fun ho hf => hc.ow ho (fun x hx => by have := hf x hx; simp; omega)
            have hbw : Below w.heap.size w wx := HDr.out.bel.trans (hc.below (by have := HDr.out.bel.size; exact this) (fun x hx => by simp at hx; omega))
            exact ⟨K, x1, x2, x3, Y, zs, _, _, _, _, _, F1, F2, F3, G0, Fy, rfl, hbw, hk HE1.out (fun x hx => (HFA.out x (by simp [hx])).1), hk HE2.out (fun x hx => (HFA.out x (by simp [hx])).1), hk HE3.out (fun x hx => (HFA.out x (by simp [hx])).1), hk HE4.out (fun x hx => (HFA.out x (by simp [hx])).1), hk hoy (fun x hx => by have := hFy x hx; omega), hsto⟩)
          have SP : Hid (∀ wx, Chg [w.heap.size, w.heap.size + 1] wr wx → wx.cell? ⟨w3.heap.size, 0, none⟩ = some (.int .i64 K) ∧ wx.cell? ⟨w3.heap.size, 1, none⟩ = some (.slice a1 x1.length c1) ∧ wx.cell? ⟨w3.heap.size, 2, none⟩ = some (.slice a2 x2.length c2) ∧ wx.cell? ⟨w3.heap.size, 3, none⟩ = some (.slice a3 x3.length c3) ∧ wx.cell? ⟨w3.heap.size + 1, 0, none⟩ = some (.slice tv Y.length ev) ∧ wx.cell? ⟨w3.heap.size + 1, 1, none⟩ = some (.slice (some ⟨g, 0, none⟩) K cg)) := Lib.hid (fun wx hc => by
            have hsl := HDr.out.lt
            have m1 : w3.heap.size ∉ [w.heap.size, w.heap.size + 1] := by simp; omega
            have m2 : w3.heap.size + 1 ∉ [w.heap.size, w.heap.size + 1] := by simp; omega
            have cp := fun i => hc.cell (b := w3.heap.size) (show w3.heap.size < wr.heap.size by omega) m1 i
            have ct := fun i => hc.cell (b := w3.heap.size + 1) (show w3.heap.size + 1 < wr.heap.size by omega) m2 i
            exact ⟨(cp 0).trans HDr.out.c0, (cp 1).trans HDr.out.c1, (cp 2).trans HDr.out.c2, (cp 3).trans HDr.out.c3, (ct 0).trans HDr.out.t0, (ct 1).trans HDr.out.t1⟩)
          have hs0 := SP.out wr.drew (Chg.ofBelow (Below.refl _ _).drew)
          clear hoy hvy hFy hsto
          obtain ⟨ru0, hru0⟩ := HDr.out.r 0 (by omega)
          obtain ⟨ru1, hru1⟩ := HDr.out.r 1 (by omega)
          obtain ⟨ru2, hru2⟩ := HDr.out.r 2 (by omega)
          obtain ⟨ru3, hru3⟩ := HDr.out.r 3 (by omega)
          obtain ⟨yu0, hyu0⟩ := HDr.out.y 0 (by omega)
          obtain ⟨yu1, hyu1⟩ := HDr.out.y 1 (by omega)
          have rz0 := HDr.out.zr 0
          have rz1 := HDr.out.zr 1
          have rz2 := HDr.out.zr 2
          have rz3 := HDr.out.zr 3
          have yz0 := HDr.out.zy 0
          have yz1 := HDr.out.zy 1
          have A0 : (wr.setCell ⟨w.heap.size, 0, none⟩ (.int .i64 K)).cell? ⟨w.heap.size, 0, none⟩ = some (.int .i64 K) := World.cell?_setCell_same _ _ _ hru0
          have A1 : ((wr.setCell ⟨w.heap.size, 0, none⟩ (.int .i64 K)).setCell ⟨w.heap.size, 1, none⟩ (.slice a1 x1.length c1)).cell? ⟨w.heap.size, 1, none⟩ = some (.slice a1 x1.length c1) := World.cell?_setCell_same _ _ _ ((World.cell?_setCell_other _ _ _ _ (by simp)).trans hru1)
          have A2 : (((wr.setCell ⟨w.heap.size, 0, none⟩ (.int .i64 K)).setCell ⟨w.heap.size, 1, none⟩ (.slice a1 x1.length c1)).setCell ⟨w.heap.size, 2, none⟩ (.slice a2 x2.length c2)).cell? ⟨w.heap.size, 2, none⟩ = some (.slice a2 x2.length c2) := World.cell?_setCell_same _ _ _ ((World.cell?_setCell_other _ _ _ _ (by simp)).trans ((World.cell?_setCell_other _ _ _ _ (by simp)).trans hru2))
          have A3 : ((((wr.setCell ⟨w.heap.size, 0, none⟩ (.int .i64 K)).setCell ⟨w.heap.size, 1, none⟩ (.slice a1 x1.length c1)).setCell ⟨w.heap.size, 2, none⟩ (.slice a2 x2.length c2)).setCell ⟨w.heap.size, 3, none⟩ (.slice a3 x3.length c3)).cell? ⟨w.heap.size, 3, none⟩ = some (.slice a3 x3.length c3) := World.cell?_setCell_same _ _ _ ((World.cell?_setCell_other _ _ _ _ (by simp)).trans ((World.cell?_setCell_other _ _ _ _ (by simp)).trans ((World.cell?_setCell_other _ _ _ _ (by simp)).trans hru3)))
          have B0 : (((wr.setCell ⟨w.heap.size + 1, 0, none⟩ (.slice tv Y.length ev)).setCell ⟨w.heap.size + 1, 1, none⟩ (.slice (some ⟨g, 0, none⟩) K cg)).setCell ⟨w.heap.size, 0, none⟩ (.int .i64 K)).cell? ⟨w.heap.size, 0, none⟩ = some (.int .i64 K) := World.cell?_setCell_same _ _ _ ((World.cell?_setCell_other _ _ _ _ (by simp)).trans ((World.cell?_setCell_other _ _ _ _ (by simp)).trans hru0))
          have B1 : ((((wr.setCell ⟨w.heap.size + 1, 0, none⟩ (.slice tv Y.length ev)).setCell ⟨w.heap.size + 1, 1, none⟩ (.slice (some ⟨g, 0, none⟩) K cg)).setCell ⟨w.heap.size, 0, none⟩ (.int .i64 K)).setCell ⟨w.heap.size, 1, none⟩ (.slice a1 x1.length c1)).cell? ⟨w.heap.size, 1, none⟩ = some (.slice a1 x1.length c1) := World.cell?_setCell_same _ _ _ ((World.cell?_setCell_other _ _ _ _ (by simp)).trans ((World.cell?_setCell_other _ _ _ _ (by simp)).trans ((World.cell?_setCell_other _ _ _ _ (by simp)).trans hru1)))
          have B2 : (((((wr.setCell ⟨w.heap.size + 1, 0, none⟩ (.slice tv Y.length ev)).setCell ⟨w.heap.size + 1, 1, none⟩ (.slice (some ⟨g, 0, none⟩) K cg)).setCell ⟨w.heap.size, 0, none⟩ (.int .i64 K)).setCell ⟨w.heap.size, 1, none⟩ (.slice a1 x1.length c1)).setCell ⟨w.heap.size, 2, none⟩ (.slice a2 x2.length c2)).cell? ⟨w.heap.size, 2, none⟩ = some (.slice a2 x2.length c2) := World.cell?_setCell_same _ _ _ ((World.cell?_setCell_other _ _ _ _ (by simp)).trans ((World.cell?_setCell_other _ _ _ _ (by simp)).trans ((World.cell?_setCell_other _ _ _ _ (by simp)).trans ((World.cell?_setCell_other _ _ _ _ (by simp)).trans hru2))))
          have B3 : ((((((wr.setCell ⟨w.heap.size + 1, 0, none⟩ (.slice tv Y.length ev)).setCell ⟨w.heap.size + 1, 1, none⟩ (.slice (some ⟨g, 0, none⟩) K cg)).setCell ⟨w.heap.size, 0, none⟩ (.int .i64 K)).setCell ⟨w.heap.size, 1, none⟩ (.slice a1 x1.length c1)).setCell ⟨w.heap.size, 2, none⟩ (.slice a2 x2.length c2)).setCell ⟨w.heap.size, 3, none⟩ (.slice a3 x3.length c3)).cell? ⟨w.heap.size, 3, none⟩ = some (.slice a3 x3.length c3) := World.cell?_setCell_same _ _ _ ((World.cell?_setCell_other _ _ _ _ (by simp)).trans ((World.cell?_setCell_other _ _ _ _ (by simp)).trans ((World.cell?_setCell_other _ _ _ _ (by simp)).trans ((World.cell?_setCell_other _ _ _ _ (by simp)).trans ((World.cell?_setCell_other _ _ _ _ (by simp)).trans hru3)))))
          have C0 : (wr.setCell ⟨w.heap.size + 1, 0, none⟩ (.slice tv Y.length ev)).cell? ⟨w.heap.size + 1, 0, none⟩ = some (.slice tv Y.length ev) := World.cell?_setCell_same _ _ _ hyu0
          have C1 : ((wr.setCell ⟨w.heap.size + 1, 0, none⟩ (.slice tv Y.length ev)).setCell ⟨w.heap.size + 1, 1, none⟩ (.slice (some ⟨g, 0, none⟩) K cg)).cell? ⟨w.heap.size + 1, 1, none⟩ = some (.slice (some ⟨g, 0, none⟩) K cg) := World.cell?_setCell_same _ _ _ ((World.cell?_setCell_other _ _ _ _ (by simp)).trans hyu1)
          have D0 : (((((wr.setCell ⟨w.heap.size, 0, none⟩ (.int .i64 K)).setCell ⟨w.heap.size, 1, none⟩ (.slice a1 x1.length c1)).setCell ⟨w.heap.size, 2, none⟩ (.slice a2 x2.length c2)).setCell ⟨w.heap.size, 3, none⟩ (.slice a3 x3.length c3)).setCell ⟨w.heap.size + 1, 0, none⟩ (.slice tv Y.length ev)).cell? ⟨w.heap.size + 1, 0, none⟩ = some (.slice tv Y.length ev) := World.cell?_setCell_same _ _ _ ((World.cell?_setCell_other _ _ _ _ (by simp)).trans ((World.cell?_setCell_other _ _ _ _ (by simp)).trans ((World.cell?_setCell_other _ _ _ _ (by simp)).trans ((World.cell?_setCell_other _ _ _ _ (by simp)).trans hyu0))))
          have D1 : ((((((wr.setCell ⟨w.heap.size, 0, none⟩ (.int .i64 K)).setCell ⟨w.heap.size, 1, none⟩ (.slice a1 x1.length c1)).setCell ⟨w.heap.size, 2, none⟩ (.slice a2 x2.length c2)).setCell ⟨w.heap.size, 3, none⟩ (.slice a3 x3.length c3)).setCell ⟨w.heap.size + 1, 0, none⟩ (.slice tv Y.length ev)).setCell ⟨w.heap.size + 1, 1, none⟩ (.slice (some ⟨g, 0, none⟩) K cg)).cell? ⟨w.heap.size + 1, 1, none⟩ = some (.slice (some ⟨g, 0, none⟩) K cg) := World.cell?_setCell_same _ _ _ ((World.cell?_setCell_other _ _ _ _ (by simp)).trans ((World.cell?_setCell_other _ _ _ _ (by simp)).trans ((World.cell?_setCell_other _ _ _ _ (by simp)).trans ((World.cell?_setCell_other _ _ _ _ (by simp)).trans ((World.cell?_setCell_other _ _ _ _ (by simp)).trans hyu1)))))
          have cP : Chg [w.heap.size, w.heap.size + 1] wr ((((wr.setCell ⟨w.heap.size, 0, none⟩ (.int .i64 K)).setCell ⟨w.heap.size, 1, none⟩ (.slice a1 x1.length c1)).setCell ⟨w.heap.size, 2, none⟩ (.slice a2 x2.length c2)).setCell ⟨w.heap.size, 3, none⟩ (.slice a3 x3.length c3)) := (((chg_set wr ⟨w.heap.size, 0, none⟩ _ _ (by simp)).trans (chg_set _ ⟨w.heap.size, 1, none⟩ _ _ (by simp))).trans (chg_set _ ⟨w.heap.size, 2, none⟩ _ _ (by simp))).trans (chg_set _ ⟨w.heap.size, 3, none⟩ _ _ (by simp))
          have cT : Chg [w.heap.size, w.heap.size + 1] wr ((((((wr.setCell ⟨w.heap.size, 0, none⟩ (.int .i64 K)).setCell ⟨w.heap.size, 1, none⟩ (.slice a1 x1.length c1)).setCell ⟨w.heap.size, 2, none⟩ (.slice a2 x2.length c2)).setCell ⟨w.heap.size, 3, none⟩ (.slice a3 x3.length c3)).setCell ⟨w.heap.size + 1, 0, none⟩ (.slice tv Y.length ev)).setCell ⟨w.heap.size + 1, 1, none⟩ (.slice (some ⟨g, 0, none⟩) K cg)) := (cP.trans (chg_set _ ⟨w.heap.size + 1, 0, none⟩ _ _ (by simp))).trans (chg_set _ ⟨w.heap.size + 1, 1, none⟩ _ _ (by simp))
          have SP1 := Lib.hid (SP.out _ (cP.trans (Chg.ofBelow (Below.refl _ _).drew)))
          have SP2 := Lib.hid (SP.out _ (cT.trans (Chg.ofBelow (Below.refl _ _).drew)))
          have HFIN2 := Lib.hid (HFIN.out _ (cT.trans (Chg.ofBelow (Below.refl _ _).drew)))
          clear cP cT
          have HA0 := Lib.hid A0
          clear A0
          have HA1 := Lib.hid A1
          clear A1
          have HA2 := Lib.hid A2
          clear A2
          have HA3 := Lib.hid A3
          clear A3
          have HB0 := Lib.hid B0
          clear B0
          have HB1 := Lib.hid B1
          clear B1
          have HB2 := Lib.hid B2
          clear B2
          have HB3 := Lib.hid B3
          clear B3
          have HC0 := Lib.hid C0
          clear C0
          have HC1 := Lib.hid C1
          clear C1
          have HD0 := Lib.hid D0
          clear D0
          have HD1 := Lib.hid D1
          clear D1
          have hs9 := hs0
          clear hs0
          go_wp2
          rename_i K9 hK9
          refine Code.wp_mono (Q := normV K9) (fun e a w h => by cases e <;> first | exact h | exact h.elim) ?_
          refine wp_region_C (n := 4) (l := #[false, false, false, false]) (fun wx => wx.cell? ⟨w3.heap.size, 0, none⟩ = some (.int .i64 K) ∧ wx.cell? ⟨w3.heap.size, 1, none⟩ = some (.slice a1 x1.length c1) ∧ wx.cell? ⟨w3.heap.size, 2, none⟩ = some (.slice a2 x2.length c2) ∧ wx.cell? ⟨w3.heap.size, 3, none⟩ = some (.slice a3 x3.length c3) ∧ wx.cell? ⟨w3.heap.size + 1, 0, none⟩ = some (.slice tv Y.length ev) ∧ wx.cell? ⟨w3.heap.size + 1, 1, none⟩ = some (.slice (some ⟨g, 0, none⟩) K cg)) [] (by kernel_rfl) rfl rfl ?_
          refine wpC_take (i := 0) (v := ?v0_7) (l' := #[true, false, false, false]) [2, 3] rfl (by kernel_rfl) (by kernel_rfl) (by kernel_rfl) (by kernel_rfl) (by kernel_rfl) rfl (fun _ _ _ h => h) (by rfl) (fun wx hS => ?q0_7) (by assumption) ?_
          case q0_7 => ((try dsimp only at hS); obtain ⟨hS1, hS2, hS3, hS4, hS5, hS6⟩ := hS; go_simp; try with_reducible rfl)
          try simp only [List.getElem_toArray, List.getElem_cons_zero, Act.put, List.setIfInBounds_toArray, List.set_cons_zero, List.set_cons_succ]
          refine wpC_take (i := 1) (v := ?v1_8) (l' := #[true, true, false, false]) [3] rfl (by kernel_rfl) (by kernel_rfl) (by kernel_rfl) (by kernel_rfl) (by kernel_rfl) rfl (fun _ _ _ h => h) (by rfl) (fun wx hS => ?q1_8) (by assumption) ?_
          case q1_8 => ((try dsimp only at hS); obtain ⟨hS1, hS2, hS3, hS4, hS5, hS6⟩ := hS; go_simp; try with_reducible rfl)
          try simp only [List.getElem_toArray, List.getElem_cons_succ, List.getElem_cons_zero, Act.put, List.setIfInBounds_toArray, List.set_cons_zero, List.set_cons_succ]
          refine wpC_one (i := 2) (l' := #[true, true, true, false]) (by kernel_rfl) rfl rfl (by rfl) (fun Kr hKr => ?_)
          go_simp
          refine hKr _ _ (fun _ => SP1.out) ?_
          clear hKr Kr
          try simp only [List.getElem_toArray, List.getElem_cons_succ, List.getElem_cons_zero, Act.put, List.setIfInBounds_toArray, List.set_cons_zero, List.set_cons_succ]
          refine wpC_one (i := 3) (l' := #[true, true, true, true]) (by kernel_rfl) rfl rfl (by rfl) (fun Kr hKr => ?_)
          go_simp
          refine hKr _ _ (fun _ => SP2.out) ?_
          clear hKr Kr
          try simp only [List.getElem_toArray, List.getElem_cons_succ, List.getElem_cons_zero, Act.put, List.setIfInBounds_toArray, List.set_cons_zero, List.set_cons_succ]
          refine wpC_done (by kernel_rfl) ?_ _
          refine hK9 _ _ ?_
          clear hK9
          go_wp2
          refine bodyPost_ret (v := .tuple #[.agg #[.int .i64 K, .slice a1 x1.length c1, .slice a2 x2.length c2, .slice a3 x3.length c3], .agg #[.slice tv Y.length ev, .slice (some ⟨g, 0, none⟩) K cg]]) (by simp [results, Try.results5, go_sem, HA0.out, HA1.out, HA2.out, HA3.out, HB0.out, HB1.out, HB2.out, HB3.out, HC0.out, HC1.out, HD0.out, HD1.out]) rfl ?_
          exact HFIN2.out
end Go.Proofs.Ytkjmehpehopncaa

/- Drawn counts: P6Counts. Written by mkvd.py. -/
namespace Go.Proofs.Ytkjmehpehopncaa
open Go.RowKit
/-- Drawn counts of m rules. -/
def RetCnt (w : World) (m : Nat) (e : Ending) (w' : World) : Prop := ∃ (cs : List Int) (v : Value) (F : List Nat), e = .returned v ∧ Below w.heap.size w w' ∧ Ow w' (dI cs) v F ∧ cs.length = m ∧ ∀ j, 0 ≤ nth cs j ∧ nth cs j ≤ 6
set_option maxHeartbeats 4000000 in
set_option maxRecDepth 100000 in
theorem p6Counts_c (x0 : Int) (x1 : List Int) (x2 : List Bool) (x3 : List PR) (y0 : List (List Int)) (y1 : List Int) (a1 a2 a3 b0 b1 : Option Addr) (c1 c2 c3 d0 d1 : Nat) (a : Option Addr) (n c : Nat) (w : World) (hU : SlU (· < w.heap.size) w a n) (h1 : SlI Any w a1 x1) (h2 : SlB Any w a2 x2) (h3 : Rd Any w (dPR x3) (.slice a3 x3.length c3)) (k0 : SlII Any w b0 y0) (k1 : SlI Any w b1 y1) (K : Nat) (hxK : x0 = K) (hps : PsOk K x1 x2 x3) (hst : StOk K x1.length y0 y1) :
    Calls Try.prog 6 #[.slice a n c, .agg #[.int .i64 x0, .slice a1 x1.length c1, .slice a2 x2.length c2, .slice a3 x3.length c3], .agg #[.slice b0 y0.length d0, .slice b1 y1.length d1]] w (RetCnt w x3.length) := by
  have hba : Below w.heap.size w ((w.alloc (.cells #[.int .i64 x0, .slice a1 x1.length c1, .slice a2 x2.length c2, .slice a3 x3.length c3] 28)).alloc (.cells #[.slice b0 y0.length d0, .slice b1 y1.length d1] 31)) := (below_alloc w _).alloc (by simp) _
  have hzA : ((w.alloc (.cells #[.int .i64 x0, .slice a1 x1.length c1, .slice a2 x2.length c2, .slice a3 x3.length c3] 28)).alloc (.cells #[.slice b0 y0.length d0, .slice b1 y1.length d1] 31)).heap.size = w.heap.size + 1 + 1 := by simp
  have HF := Lib.hid (l00From_c a n c ((w.alloc (.cells #[.int .i64 x0, .slice a1 x1.length c1, .slice a2 x2.length c2, .slice a3 x3.length c3] 28)).alloc (.cells #[.slice b0 y0.length d0, .slice b1 y1.length d1] 31)) ((hU.below hba).any (fun k hk => by rw [hzA]; omega)))
  have h8 := hps.r8
  have HCL : Hid (∀ (wx : World) (cs : List Int) (g cg : Nat), Below (w.heap.size + 1 + 1) ((w.alloc (.cells #[.int .i64 x0, .slice a1 x1.length c1, .slice a2 x2.length c2, .slice a3 x3.length c3] 28)).alloc (.cells #[.slice b0 y0.length d0, .slice b1 y1.length d1] 31)) wx → SlI Any wx (some ⟨g, 0, none⟩) cs → cs.length = x3.length →
      Calls Try.prog 19 #[.pointer (some ⟨w.heap.size, 0, none⟩), .pointer (some ⟨w.heap.size + 1, 0, none⟩), .slice (some ⟨g, 0, none⟩) x3.length cg] wx (fun e w' => ∃ (g2 cg2 L : Nat) (b : Bool), e = .returned (.tuple #[.slice (some ⟨g2, 0, none⟩) L cg2, .bool b]) ∧ Below wx.heap.size wx w')) := Lib.hid (fun wx cs g cg hb hs hl => by
    have hbw : Below w.heap.size w wx := hba.trans (hb.mono (by omega))
    have hc : ∀ b i, b < w.heap.size + 1 + 1 → wx.cell? ⟨b, i, none⟩ = ((w.alloc (.cells #[.int .i64 x0, .slice a1 x1.length c1, .slice a2 x2.length c2, .slice a3 x3.length c3] 28)).alloc (.cells #[.slice b0 y0.length d0, .slice b1 y1.length d1] 31)).cell? ⟨b, i, none⟩ := fun b i h => bcell1 hb h
    have h9 := l06Left_c K x1 x2 x3 y0 y1 a1 a2 a3 b0 b1 c1 c2 c3 d0 d1 wx (h1.below hbw) (h2.below hbw) (h3.below hbw) (k0.below hbw) (k1.below hbw) cs (some ⟨g, 0, none⟩) cg hs w.heap.size (w.heap.size + 1) (by rw [hc _ _ (by omega), ← hxK]; simp [go_sem]) (by rw [hc _ _ (by omega)]; simp [go_sem]) (by rw [hc _ _ (by omega)]; simp [go_sem]) (by rw [hc _ _ (by omega)]; simp [go_sem]) (by rw [hc _ _ (by omega)]; simp [go_sem]) (by rw [hc _ _ (by omega)]; simp [go_sem]) hps hst hl
    rw [hl] at h9
    refine h9.mono ?_
    rintro e w' ⟨g2, cg2, he, hb2, _⟩
    exact ⟨g2, cg2, _, _, he, hb2⟩)
  have HBA := Lib.hid hba
  rw [hzA] at HF
  clear hU h1 h2 h3 k0 k1 hps hst hxK hba
  go_enter Try.func6, Try.ntmps6
  go_wp2_with fail
  refine HF.out.mono ?_
  rintro e w2 ⟨rfl, hb2, hz2, hs2⟩
  have f3 : w2.cell? ⟨w.heap.size, 3, none⟩ = some (.slice a3 x3.length c3) := (bcell1 hb2 (by omega)).trans (by simp [go_sem])
  have HB2 := Lib.hid hb2
  have HS2 := Lib.hid hs2
  have HZ2 := Lib.hid hz2
  clear hb2 hs2 hz2 hzA HF
  go_wp2_with (at_make; refine make_one rfl _ _ 24 rfl tabI rfl (by decide) x3.length _ _ rfl rfl rfl rfl (by omega) w2.heap.size (Nat.le_refl _) ?_)
  intro w3 hbl3 hb3 hz3
  have hs3 : SrcE w3 (w.heap.size + 1 + 1) 0 := HS2.out.below hb3 HZ2.out
  have HB3 : Hid (Below (w.heap.size + 1 + 1) ((w.alloc (.cells #[.int .i64 x0, .slice a1 x1.length c1, .slice a2 x2.length c2, .slice a3 x3.length c3] 28)).alloc (.cells #[.slice b0 y0.length d0, .slice b1 y1.length d1] 31)) w3) := Lib.hid (HB2.out.trans (hb3.mono (by have := HZ2.out; omega)))
  have HL3 : Hid (Bld 2 w3 w2.heap.size (.slice (some ⟨w2.heap.size, 0, none⟩) x3.length x3.length) ((List.replicate x3.length (0 : Int)).map (.int .i64))) := Lib.hid (by rw [List.map_replicate]; exact hbl3)
  have C := Lib.hid (pick_c (w.heap.size + 1 + 1) 0 6 w3 hs3 (by omega) (by omega))
  clear hbl3 hb3 hs3 f3
  go_wp2_with fail
  refine C.out.mono ?_
  rintro e w4 ⟨x, rfl, hx, he4, hs4⟩
  obtain ⟨q, rfl⟩ : ∃ q : Nat, x = (q : Int) := ⟨x.toNat, by omega⟩
  have hq5 : q ≤ 5 := by omega
  have hexB : ∀ (wx wy : World), Exc [w.heap.size + 1 + 1] wx wy → Below (w.heap.size + 1 + 1) ((w.alloc (.cells #[.int .i64 x0, .slice a1 x1.length c1, .slice a2 x2.length c2, .slice a3 x3.length c3] 28)).alloc (.cells #[.slice b0 y0.length d0, .slice b1 y1.length d1] 31)) wx → Below (w.heap.size + 1 + 1) ((w.alloc (.cells #[.int .i64 x0, .slice a1 x1.length c1, .slice a2 x2.length c2, .slice a3 x3.length c3] 28)).alloc (.cells #[.slice b0 y0.length d0, .slice b1 y1.length d1] 31)) wy := fun _ _ he hb => hb.trans ⟨he.os, he.tape, he.output, Nat.le_of_eq he.size.symm, fun k hk => he.block k (by simp; omega)⟩
  have HEX := Lib.hid hexB
  have HB4 := Lib.hid (hexB _ _ he4 HB3.out)
  have HL4 := Lib.hid (HL3.out.exc he4 HZ2.out)
  have HS4 := Lib.hid hs4
  have i2 := ix_of (P := Try.prog) tabI.under tabI.size (a := some ⟨w2.heap.size, 0, none⟩) (n := x3.length) (fun _ => ⟨w2.heap.size, 0, rfl⟩) x3.length
  simp only [Nat.mul_one, adr, blk, ofs, Nat.zero_add] at i2
  clear he4 hs4 hx C hexB HB3 HL3
  go_wp2
  go_loopw [9, 10, 11, 12] (fun i _ _ _ wr => ∃ (r : Nat) (xs : List Int), r ≤ q ∧ i = .int .i64 r ∧ Hid (xs.length = x3.length) ∧ Hid (∀ j, 0 ≤ nth xs j ∧ nth xs j + r ≤ 6) ∧ Hid (Below (w.heap.size + 1 + 1) ((w.alloc (.cells #[.int .i64 x0, .slice a1 x1.length c1, .slice a2 x2.length c2, .slice a3 x3.length c3] 28)).alloc (.cells #[.slice b0 y0.length d0, .slice b1 y1.length d1] 31)) wr) ∧ Hid (Bld 2 wr w2.heap.size (.slice (some ⟨w2.heap.size, 0, none⟩) x3.length x3.length) (xs.map (.int .i64))) ∧ Hid (SrcE wr (w.heap.size + 1 + 1) (2 + 4 * (q - r)))) (fun i _ _ _ _ => (intOf i).toNat)
  case atStart => exact ⟨q, List.replicate x3.length 0, Nat.le_refl _, rfl, Lib.hid (by simp), Lib.hid (fun j => by rw [nth_rep]; omega), HB4, HL4, Lib.hid (HS4.out.more (by omega))⟩
  case round =>
    obtain ⟨r, xs, hr, rfl, HXL, HXB, HB, HL, HS⟩ := hrel
    have hend : Hid (RetCnt w x3.length (.returned (.slice (some ⟨w2.heap.size, 0, none⟩) x3.length x3.length)) wr) := Lib.hid (by
      obtain ⟨a, c, F, hv, ho, _, _⟩ := HL.out.ow (by rw [HXL.out]; unfold maxLen; omega)
      rw [HXL.out] at hv ho
      rw [← hv] at ho
      exact ⟨xs, _, F, rfl, HBA.out.trans (HB.out.mono (by omega)), ho, HXL.out, fun j => by have := HXB.out j; omega⟩)
    by_cases h0r : 0 < r
    · have h0i : (0 : Int) < r := by omega
      by_cases hM : 0 < x3.length
      · have hMi : (0 : Int) < x3.length := by omega
        have C := Lib.hid (pick_c (w.heap.size + 1 + 1) _ x3.length wr HS.out (by omega) (by omega))
        go_wp2_with fail
        refine C.out.mono ?_
        rintro e wa ⟨x, rfl, hx, hea, hsa⟩
        obtain ⟨i, rfl⟩ : ∃ i : Nat, x = (i : Int) := ⟨x.toNat, by omega⟩
        have hiM : i < x3.length := by omega
        have hiM2 : (i : Int) < x3.length := by omega
        have HBa := Lib.hid (HEX.out _ _ hea HB.out)
        have HLa := Lib.hid (HL.out.exc hea HZ2.out)
        have g1 := HLa.out.atV (i := i) (by have := HXL.out; omega)
        have g2 := HLa.out.free i
        have bx1 := HXB.out i
        have hLb := HLa.out.setV i (nth xs i + 1)
        have hcs : Chg [w2.heap.size] wa (wa.setCell ⟨w2.heap.size, i, none⟩ (.int .i64 (nth xs i + 1))) := chg_set wa ⟨w2.heap.size, i, none⟩ _ _ (by simp)
        have HBb : Hid (Below (w.heap.size + 1 + 1) ((w.alloc (.cells #[.int .i64 x0, .slice a1 x1.length c1, .slice a2 x2.length c2, .slice a3 x3.length c3] 28)).alloc (.cells #[.slice b0 y0.length d0, .slice b1 y1.length d1] 31)) (wa.setCell ⟨w2.heap.size, i, none⟩ (.int .i64 (nth xs i + 1)))) := Lib.hid (HBa.out.trans (hcs.below (by have := HBa.out.size; simp at this; omega) (fun g hg => by have := HZ2.out; simp at hg; omega)))
        have HSb := Lib.hid (hsa.chg hcs (fun g hg => by have := HZ2.out; simp at hg; omega))
        have HLb := Lib.hid hLb
        have hxl1 : (xs.set i (nth xs i + 1)).length = x3.length := by simpa using HXL.out
        have CL := Lib.hid (HCL.out _ (xs.set i (nth xs i + 1)) w2.heap.size x3.length HBb.out (SlI.ofBld hLb (by rw [hxl1]; unfold maxLen; omega)).any hxl1)
        have hgl : w2.heap.size < (wa.setCell ⟨w2.heap.size, i, none⟩ (.int .i64 (nth xs i + 1))).heap.size := by
          have := (Bld.base hLb).2; exact this
        have HGL := Lib.hid hgl
        have HX1 := Lib.hid hxl1
        have HXB1 : Hid (∀ j, 0 ≤ nth (xs.set i (nth xs i + 1)) j ∧ nth (xs.set i (nth xs i + 1)) j + (r - 1 : Nat) ≤ 6) := Lib.hid (fun j => by
          rw [nthS (by have := HXL.out; omega)]
          have := HXB.out j
          split <;> omega)
        clear hLb hcs hea hsa hx C hxl1 hgl
        go_wp2_with fail
        refine CL.out.mono ?_
        rintro e wb ⟨g3, cg3, L3, ok, rfl, hbb⟩
        have HBB := Lib.hid (bnext HBb.out hbb (by simp))
        have HLB := Lib.hid (HLb.out.below hbb)
        have HSB := Lib.hid (HSb.out.below hbb (by have := HZ2.out; have := HGL.out; omega))
        clear hbb CL g1 g2
        cases ok
        · have C := Lib.hid (one_c (w.heap.size + 1 + 1) _ 6 wb HSB.out (by omega) (by omega))
          go_wp2_with fail
          refine C.out.mono ?_
          rintro e wc ⟨b, rfl, hec, hsc⟩
          have HBc := Lib.hid (HEX.out _ _ hec HBB.out)
          have HLc := Lib.hid (HLB.out.exc hec HZ2.out)
          have HSc := Lib.hid hsc
          clear hec hsc C
          cases b
          · have g1 := HLc.out.atV (i := i) (by have := HX1.out; omega)
            rw [nthS (by have := HXL.out; omega), if_pos rfl] at g1
            have g2 := HLc.out.free i
            have hcs : Chg [w2.heap.size] wc (wc.setCell ⟨w2.heap.size, i, none⟩ (.int .i64 (nth xs i))) := chg_set wc ⟨w2.heap.size, i, none⟩ _ _ (by simp)
            have HBd : Hid (Below (w.heap.size + 1 + 1) ((w.alloc (.cells #[.int .i64 x0, .slice a1 x1.length c1, .slice a2 x2.length c2, .slice a3 x3.length c3] 28)).alloc (.cells #[.slice b0 y0.length d0, .slice b1 y1.length d1] 31)) (wc.setCell ⟨w2.heap.size, i, none⟩ (.int .i64 (nth xs i)))) := Lib.hid (HBc.out.trans (hcs.below (by have := HBc.out.size; simp at this; omega) (fun g hg => by have := HZ2.out; simp at hg; omega)))
            have HSd : Hid (SrcE (wc.setCell ⟨w2.heap.size, i, none⟩ (.int .i64 (nth xs i))) (w.heap.size + 1 + 1) (2 + 4 * (q - (r - 1)))) := Lib.hid ((HSc.out.chg hcs (fun g hg => by have := HZ2.out; simp at hg; omega)).more (by omega))
            have HLd := Lib.hid (HLc.out.setV i (nth xs i))
            have HXd : Hid (((xs.set i (nth xs i + 1)).set i (nth xs i)).length = x3.length) := Lib.hid (by have := HXL.out; simpa using this)
            have HXBd : Hid (∀ j, 0 ≤ nth ((xs.set i (nth xs i + 1)).set i (nth xs i)) j ∧ nth ((xs.set i (nth xs i + 1)).set i (nth xs i)) j + (r - 1 : Nat) ≤ 6) := Lib.hid (fun j => by
              rw [nthS (by have := HX1.out; omega), nthS (by have := HXL.out; omega)]
              have := HXB.out j
              split
              · omega
              · omega)
            clear hcs
            go_wp2
            go_roundw
            case rel => exact ⟨r - 1, _, by omega, by go_num, HXd, HXBd, HBd, HLd, HSd⟩
            case measure => simp [intOf]; omega
          · have HSd : Hid (SrcE wc (w.heap.size + 1 + 1) (2 + 4 * (q - (r - 1)))) := Lib.hid (HSc.out.more (by omega))
            go_wp2
            go_roundw
            case rel => exact ⟨r - 1, _, by omega, by go_num, HX1, HXB1, HBc, HLc, HSd⟩
            case measure => simp [intOf]; omega
        · have HSd : Hid (SrcE wb (w.heap.size + 1 + 1) (2 + 4 * (q - (r - 1)))) := Lib.hid (HSB.out.more (by omega))
          go_wp2
          go_roundw
          case rel => exact ⟨r - 1, _, by omega, by go_num, HX1, HXB1, HBB, HLB, HSd⟩
          case measure => simp [intOf]; omega
      · have hMi : ¬ (0 : Int) < x3.length := by omega
        go_wp2
        go_ret
        exact hend.out
    · have h0i : ¬ (0 : Int) < r := by omega
      clear h0r
      go_wp2
      go_ret
      exact hend.out
end Go.Proofs.Ytkjmehpehopncaa

/- What FnPassChoices compares with. Written by mkve.py. -/
namespace Go.Proofs.Ytkjmehpehopncaa
open Go.RowKit
theorem f6bigV_c (a : Option Addr) (n c : Nat) (w : World) (hn : n ≤ maxLen) :
    Calls Try.prog 4 #[.slice a n c] w (RetP w (.bool (decide (4096 < n)))) := by
  unfold maxLen at hn
  have e : decide ((4096 : Int) < n) = decide (4096 < n) := by rw [Bool.eq_iff_iff, decide_eq_true_eq, decide_eq_true_eq]; omega
  go_enter Try.func4, Try.ntmps4
  go_wp2
  go_ret
  first | exact ⟨ret_bool e, rfl⟩ | exact ⟨rfl, rfl⟩
set_option maxHeartbeats 1000000 in
theorem f6intsV_c (a b : Option Addr) (c d : Nat) (xs ys : List Int) (w : World) (hx : SlI Any w a xs) (hy : SlI Any w b ys) :
    Calls Try.prog 31 #[.slice a xs.length c, .slice b ys.length d] w (RetV w (.bool (decide (xs = ys)))) := by
  have l1 := hx.len
  have l2 := hy.len
  unfold maxLen at l1 l2
  by_cases hl : xs.length = ys.length
  · have i1 := hx.ix tabI.under tabI.size c
    have i2 := hy.ix tabI.under tabI.size d
    have HX := Lib.hid hx
    have HY := Lib.hid hy
    have HLN := Lib.hid hl
    have hq : ((xs.length : Int) != (ys.length : Int)) = false := by simp [hl]
    clear hx hy hl
    go_enter Try.func31, Try.ntmps31
    go_wp2
    go_loopw [5] (fun i wr => ∃ k : Nat, k ≤ xs.length ∧ i = .int .i64 k ∧ Hid (∀ j, j < k → nth xs j = nth ys j) ∧ Hid (Below w.heap.size w wr)) (fun i _ => xs.length - (intOf i).toNat)
    case atStart => exact ⟨0, Nat.zero_le _, rfl, Lib.hid (by intro j hj; omega), Lib.hid (Below.refl _ _)⟩
    case round =>
      obtain ⟨k, hk, rfl, HE, HB⟩ := hrel
      by_cases hlt : k < xs.length
      · have hlt2 : (k : Int) < ys.length := by have := HLN.out; omega
        have hlt1 : (k : Int) < xs.length := by omega
        have g1 := wat_cell ((HX.out.below HB.out).cell k hlt)
        have g2 := wat_cell ((HY.out.below HB.out).cell k (by have := HLN.out; omega))
        by_cases he : nth xs k = nth ys k
        · have hb : (nth xs k != nth ys k) = false := by simp [he]
          have HE2 : Hid (∀ j, j < k + 1 → nth xs j = nth ys j) := Lib.hid (fun j hj => by
            by_cases e : j = k
            · subst e; exact he
            · exact HE.out j (by omega))
          clear he
          go_wp2
          refine wp_quiet_wd (by kernel_rfl) (by kernel_rfl) ?_
          repeat (go_big_quiet_step (fail))
          refine wpQuiet_nil ?_
          rintro _ ⟨wq, rfl⟩
          have HB2 := Lib.hid (bnext HB.out (wat_below wq) (Nat.le_refl _))
          go_wp2
          go_roundw
          case rel => exact ⟨k + 1, by omega, by go_num, HE2, HB2⟩
          case measure => simp [intOf]; omega
        · have hb : (nth xs k != nth ys k) = true := by simpa using he
          have HR : Hid (decide (xs = ys) = false) := Lib.hid (decide_eq_false fun e => he (by rw [e]))
          clear he
          go_wp2
          refine wp_quiet_wd (by kernel_rfl) (by kernel_rfl) ?_
          repeat (go_big_quiet_step (fail))
          refine wpQuiet_nil ?_
          rintro _ ⟨wq, rfl⟩
          have HB2 := Lib.hid (bnext HB.out (wat_below wq) (Nat.le_refl _))
          go_wp2
          go_ret
          exact ⟨ret_bool HR.out.symm, HB2.out⟩
      · have HR : Hid (decide (xs = ys) = true) := Lib.hid (decide_eq_true (eq_of_nth HLN.out fun j hj => HE.out j (by omega)))
        have hlt1 : ¬ (k : Int) < xs.length := by omega
        go_wp2
        go_ret
        exact ⟨ret_bool HR.out.symm, HB.out⟩
  · have hq : ((xs.length : Int) != (ys.length : Int)) = true := by simp; omega
    have HR : Hid (decide (xs = ys) = false) := Lib.hid (decide_eq_false fun e => hl (by rw [e]))
    clear hl hx hy
    go_enter Try.func31, Try.ntmps31
    go_wp2
    go_ret
    exact ⟨ret_bool HR.out.symm, Below.refl _ _⟩
set_option maxHeartbeats 1000000 in
theorem f6rowsV_c (a b : Option Addr) (c d : Nat) (L : List (List Int)) (w : World) (hx : SlII Any w a L) (hy : SlII Any w b L) :
    Calls Try.prog 12 #[.slice a L.length c, .slice b L.length d] w (RetV w (.bool true)) := by
  have l1 := hx.len
  unfold maxLen at l1
  have i1 := hx.ix tabII.under tabII.size c
  have i2 := hy.ix tabII.under tabII.size d
  have HX := Lib.hid hx
  have HY := Lib.hid hy
  clear hx hy
  go_enter Try.func12, Try.ntmps12
  go_wp2
  go_loopw [5] (fun i wr => ∃ k : Nat, k ≤ L.length ∧ i = .int .i64 k ∧ Hid (Below w.heap.size w wr)) (fun i _ => L.length - (intOf i).toNat)
  case atStart => exact ⟨0, Nat.zero_le _, rfl, Lib.hid (Below.refl _ _)⟩
  case round =>
    obtain ⟨k, hk, rfl, HB⟩ := hrel
    by_cases hlt : k < L.length
    · have hlt1 : (k : Int) < L.length := by omega
      obtain ⟨a', c', g1, s1⟩ := (HX.out.below HB.out).cell k hlt
      obtain ⟨b', d', g2, s2⟩ := (HY.out.below HB.out).cell k hlt
      have HC : Hid (∀ x : Wd wr, Calls Try.prog 31 #[.slice a' (nthR L k).length c', .slice b' (nthR L k).length d'] (wat x) (RetV (wat x) (.bool true))) := Lib.hid (fun x => by
        have h9 := f6intsV_c a' b' c' d' (nthR L k) (nthR L k) (wat x) (s1.below (wat_below x)) (s2.below (wat_below x))
        rwa [decide_eq_true rfl] at h9)
      have q1 := wat_cell g1
      have q2 := wat_cell g2
      clear g1 g2 s1 s2
      go_wp2
      refine wp_quiet_wd (by kernel_rfl) (by kernel_rfl) ?_
      repeat (go_big_quiet_step (with_reducible exact wdV (HC.out _)))
      refine wpQuiet_nil ?_
      rintro _ ⟨wq, rfl⟩
      have HB2 := Lib.hid (bnext HB.out (wat_below wq) (Nat.le_refl _))
      go_wp2
      go_roundw
      case rel => exact ⟨k + 1, by omega, by go_num, HB2⟩
      case measure => simp [intOf]; omega
    · have hlt1 : ¬ (k : Int) < L.length := by omega
      go_wp2
      go_ret
      exact ⟨rfl, HB.out⟩
set_option maxHeartbeats 1000000 in
theorem f6inV_c (a b : Option Addr) (c d : Nat) (L : List (List Int)) (cs : List Int) (w : World) (hx : SlII Any w a L) (hy : SlI Any w b cs) :
    Calls Try.prog 13 #[.slice a L.length c, .slice b cs.length d] w (RetV w (.bool (decide (cs ∈ L)))) := by
  have l1 := hx.len
  unfold maxLen at l1
  have i1 := hx.ix tabII.under tabII.size c
  have HX := Lib.hid hx
  have HY := Lib.hid hy
  clear hx hy
  go_enter Try.func13, Try.ntmps13
  go_wp2
  go_loopw [5] (fun i wr => ∃ k : Nat, k ≤ L.length ∧ i = .int .i64 k ∧ Hid (∀ j, j < k → nthR L j ≠ cs) ∧ Hid (Below w.heap.size w wr)) (fun i _ => L.length - (intOf i).toNat)
  case atStart => exact ⟨0, Nat.zero_le _, rfl, Lib.hid (by intro j hj; omega), Lib.hid (Below.refl _ _)⟩
  case round =>
    obtain ⟨k, hk, rfl, HN, HB⟩ := hrel
    by_cases hlt : k < L.length
    · have hlt1 : (k : Int) < L.length := by omega
      obtain ⟨a', c', g1, s1⟩ := (HX.out.below HB.out).cell k hlt
      have HC := f6intsV_c a' b c' d (nthR L k) cs wr s1 (HY.out.below HB.out)
      by_cases he : nthR L k = cs
      · rw [decide_eq_true he] at HC
        replace HC := Lib.hid HC
        have HR : Hid (decide (cs ∈ L) = true) := Lib.hid (decide_eq_true (by rw [← he, nthR_lt hlt]; exact List.getElem_mem hlt))
        clear s1 he
        go_wp2_with fail
        refine HC.out.mono ?_
        rintro e w2 ⟨rfl, hb2⟩
        have HB2 := Lib.hid (bnext HB.out hb2 (Nat.le_refl _))
        clear hb2 g1
        go_wp2
        go_ret
        exact ⟨ret_bool HR.out.symm, HB2.out⟩
      · rw [decide_eq_false he] at HC
        replace HC := Lib.hid HC
        have HN2 : Hid (∀ j, j < k + 1 → nthR L j ≠ cs) := Lib.hid (fun j hj => by
          by_cases e : j = k
          · subst e; exact he
          · exact HN.out j (by omega))
        clear s1 he
        go_wp2_with fail
        refine HC.out.mono ?_
        rintro e w2 ⟨rfl, hb2⟩
        have HB2 := Lib.hid (bnext HB.out hb2 (Nat.le_refl _))
        clear hb2 g1
        go_wp2
        go_roundw
        case rel => exact ⟨k + 1, by omega, by go_num, HN2, HB2⟩
        case measure => simp [intOf]; omega
    · have HR : Hid (decide (cs ∈ L) = false) := Lib.hid (decide_eq_false fun e => by
        obtain ⟨j, hj, hj2⟩ := List.mem_iff_getElem.1 e
        exact HN.out j (by omega) (by rw [nthR_lt hj]; exact hj2))
      have hlt1 : ¬ (k : Int) < L.length := by omega
      go_wp2
      go_ret
      exact ⟨ret_bool HR.out.symm, HB.out⟩
end Go.Proofs.Ytkjmehpehopncaa

/- A drawn system, stock and counts, as the law FnPassChoices holds them. Written by mkpc.py. -/
namespace Go.Proofs.Ytkjmehpehopncaa
open Go.RowKit
/-- A system in block pb, a stock in block tb, counts. -/
structure Sys (w : World) (pb tb : Nat) (x0 : Int) (x1 : List Int) (x2 : List Bool) (x3 : List PR) (y0 : List (List Int)) (y1 : List Int) (a1 a2 a3 b0 b1 : Option Addr) (c1 c2 c3 d0 d1 : Nat) (cs : List Int) (bc : Option Addr) (cc : Nat) : Prop where
  h1 : SlI Any w a1 x1
  hc1 : x1.length ≤ c1
  h2 : SlB Any w a2 x2
  h3 : Rd Any w (dPR x3) (.slice a3 x3.length c3)
  k0 : SlII Any w b0 y0
  k1 : SlI Any w b1 y1
  kc : SlI Any w bc cs
  p0 : w.cell? ⟨pb, 0, none⟩ = some (.int .i64 x0)
  p1 : w.cell? ⟨pb, 1, none⟩ = some (.slice a1 x1.length c1)
  p2 : w.cell? ⟨pb, 2, none⟩ = some (.slice a2 x2.length c2)
  p3 : w.cell? ⟨pb, 3, none⟩ = some (.slice a3 x3.length c3)
  t0 : w.cell? ⟨tb, 0, none⟩ = some (.slice b0 y0.length d0)
  t1 : w.cell? ⟨tb, 1, none⟩ = some (.slice b1 y1.length d1)
theorem Sys.below {w w' : World} {pb tb : Nat} {x0 : Int} {x1 : List Int} {x2 : List Bool} {x3 : List PR} {y0 : List (List Int)} {y1 : List Int} {a1 a2 a3 b0 b1 : Option Addr} {c1 c2 c3 d0 d1 : Nat} {cs : List Int} {bc : Option Addr} {cc : Nat} (h : Sys w pb tb x0 x1 x2 x3 y0 y1 a1 a2 a3 b0 b1 c1 c2 c3 d0 d1 cs bc cc) (hb : Below w.heap.size w w') : Sys w' pb tb x0 x1 x2 x3 y0 y1 a1 a2 a3 b0 b1 c1 c2 c3 d0 d1 cs bc cc := by
  have zp := World.block_lt_of_cell? w _ h.p0
  have zt := World.block_lt_of_cell? w _ h.t0
  exact ⟨h.h1.below hb, h.hc1, h.h2.below hb, h.h3.below hb, h.k0.below hb, h.k1.below hb, h.kc.below hb, (bcell1 hb zp).trans h.p0, (bcell1 hb zp).trans h.p1, (bcell1 hb zp).trans h.p2, (bcell1 hb zp).trans h.p3, (bcell1 hb zt).trans h.t0, (bcell1 hb zt).trans h.t1⟩
section
variable (K : Nat) (x1 : List Int) (x2 : List Bool) (x3 : List PR) (y0 : List (List Int)) (y1 cs : List Int)
/-- Whether the counts are a choice of a mode; whether there are choices; whether a rule before q can pass. -/
def yesS (mode : Int) : Bool := fitsB x1 x2 x3 (bagsS y0 y1) cs && chosenS x1 x2 x3 (bagsS y0 y1) cs mode
def someS (mode : Int) : Bool := decide (0 < (chL x1 x2 x3 y0 y1 mode).length)
def anyS (q : Nat) : Bool := (List.range q).any fun i => fitsB x1 x2 x3 (bagsS y0 y1) ((List.replicate x3.length 0).set i 1)
def yesL (k : Nat) : List Bool := (List.range k).map fun (i : Nat) => yesS x1 x2 x3 y0 y1 cs ((i : Int) + 1)
def someL (k : Nat) : List Bool := (List.range k).map fun (i : Nat) => someS x1 x2 x3 y0 y1 ((i : Int) + 1)
theorem yesL_succ (k : Nat) : yesL x1 x2 x3 y0 y1 cs (k + 1) = yesL x1 x2 x3 y0 y1 cs k ++ [yesS x1 x2 x3 y0 y1 cs ((k : Int) + 1)] := by simp [yesL, List.range_succ]
theorem someL_succ (k : Nat) : someL x1 x2 x3 y0 y1 (k + 1) = someL x1 x2 x3 y0 y1 k ++ [someS x1 x2 x3 y0 y1 ((k : Int) + 1)] := by simp [someL, List.range_succ]
theorem anyS_succ (q : Nat) : anyS x1 x2 x3 y0 y1 (q + 1) = (anyS x1 x2 x3 y0 y1 q || fitsB x1 x2 x3 (bagsS y0 y1) ((List.replicate x3.length 0).set q 1)) := by simp [anyS, List.range_succ]
variable {K x1 x2 x3 y0 y1 cs}
/-- What the law asks at the end. -/
theorem end_law (h : PsOk K x1 x2 x3) (hs : StOk K x1.length y0 y1) :
    (yesS x1 x2 x3 y0 y1 cs 1 = true → yesS x1 x2 x3 y0 y1 cs 2 = true) ∧ someS x1 x2 x3 y0 y1 1 = anyS x1 x2 x3 y0 y1 x3.length ∧ someS x1 x2 x3 y0 y1 2 = anyS x1 x2 x3 y0 y1 x3.length ∧ someS x1 x2 x3 y0 y1 3 = anyS x1 x2 x3 y0 y1 x3.length := by
  have key : ∀ mode : Int, mode = 1 ∨ mode = 2 ∨ mode = 3 → someS x1 x2 x3 y0 y1 mode = anyS x1 x2 x3 y0 y1 x3.length := fun mode hm => by
    have h9 := some_can h hs mode hm
    rw [Bool.eq_iff_iff]
    unfold someS anyS
    rw [decide_eq_true_eq, List.any_eq_true]
    constructor
    · intro hp
      obtain ⟨q, hq, hf⟩ := h9.1 (fun e => by rw [e] at hp; simp at hp)
      exact ⟨q, by simpa using hq, hf⟩
    · rintro ⟨q, hq, hf⟩
      have h8 := h9.2 ⟨q, by simpa using hq, hf⟩
      exact List.length_pos_iff.2 h8
  refine ⟨fun hy => ?_, key 1 (.inl rfl), key 2 (.inr (.inl rfl)), key 3 (.inr (.inr rfl))⟩
  unfold yesS at hy ⊢
  rw [Bool.and_eq_true] at hy ⊢
  exact ⟨hy.1, chosen_12 hy.2⟩
theorem mem_yes (h : PsOk K x1 x2 x3) (hs : StOk K x1.length y0 y1) (hl : cs.length = x3.length) (hb : ∀ j, 0 ≤ nth cs j ∧ nth cs j ≤ 1000) (mode : Int) : decide (cs ∈ chL x1 x2 x3 y0 y1 mode) = yesS x1 x2 x3 y0 y1 cs mode := by
  rw [Bool.eq_iff_iff, decide_eq_true_eq, chL_mem h hs mode cs]
  unfold yesS
  rw [Bool.and_eq_true]
  exact ⟨fun h => ⟨h.1.2.2, h.2⟩, fun h => ⟨⟨hl, hb, h.1⟩, h.2⟩⟩
theorem choices_cases (mode : Int) : choicesS x1 x2 x3 y0 y1 mode = (chL x1 x2 x3 y0 y1 mode, 0) ∨ choicesS x1 x2 x3 y0 y1 mode = ([], 3) := by
  unfold choicesS
  split
  · exact .inl rfl
  · exact .inr rfl
end
end Go.Proofs.Ytkjmehpehopncaa

/- The laws over bytes: what a parameter of bytes reads as; the laws' own small functions: contracts. -/
namespace Go.Proofs.Ytkjmehpehopncaa
open Go.ChangeShapes Go.WideShapes Go.ChangeAt Go.RowKit

/-- A parameter of bytes. -/
theorem open_U {H : Type} {enc : TypeId × Value → H} {P : Program} {W : World} {T E : TypeId} (hT : P.underlying T = some (.slice E)) (hE : P.underlying E = some (.int .u8)) (hc : P.cellsOf E = 1) {v : Value} {d : DataW H} {p : List MemPlace} {base : Nat}
    (hval : Value.okWide P W .any base T v) (h : DataW.Trod enc P W 0 (fun _ => true) true T v d p) : ∃ a n c, v = .slice a n c ∧ SlU (· < W.heap.size) W a n := by
  obtain ⟨a0, n0, c0, rfl⟩ := okWide_slice hT hval
  obtain ⟨fuel, hf⟩ := h
  rcases open_ints hT hE hc hf with ⟨hcs, _⟩ | ⟨a, len', cap', zs, hcs, _, hl, hm, hz, _, hcell, hwz⟩
  · simp [Value.cells] at hcs
    obtain ⟨rfl, rfl, rfl⟩ := hcs
    exact ⟨none, 0, 0, rfl, by simp [maxLen], by simp, by simp⟩
  · simp [Value.cells] at hcs
    obtain ⟨rfl, rfl, rfl⟩ := hcs
    simp only [if_true] at hz
    refine ⟨some a, n0, c0, rfl, by omega, fun h0 => ?_, fun i hi => ?_⟩
    · have g0 := hcell 0 (by omega)
      have e := spot_none g0
      exact ⟨World.block_lt_of_cell? W (a.add 0) g0, a.block, a.off, by rw [← e]⟩
    · have g0 := spot_none (hcell 0 (by omega))
      have gi := hcell i (by omega)
      have hw := hwz (zs.getD i 0) (by
        have : i < zs.length := by omega
        simp [List.getD, this])
      have h1 : IntKind.u8.min = 0 := rfl
      have h2 : IntKind.u8.max = 255 := rfl
      simp only [Lit.wf, Bool.and_eq_true, decide_eq_true_eq] at hw
      refine ⟨zs.getD i 0, by omega, by omega, ?_⟩
      rw [g0] at gi ⊢
      rw [Addr.add_lit] at gi
      exact gi
theorem SlI.anyT {S : Nat → Prop} {w : World} {a : Option Addr} {xs : List Int} (h : SlI S w a xs) : SlI Any w a xs := ⟨h.len, fun h0 => ⟨trivial, (h.ptr h0).2⟩, h.cell⟩
theorem Ow.slA {w : World} {xs : List Int} {v : Value} {F : List Nat} (h : Ow w (dI xs) v F) : ∃ a c, v = .slice a xs.length c ∧ SlI Any w a xs := by
  obtain ⟨a, c, e, hs⟩ := h.slI
  exact ⟨a, c, e, hs.anyT⟩
end Go.Proofs.Ytkjmehpehopncaa

/- FnPassChoices: whatever the input, the law returns true. No condition. -/
namespace Go.Proofs.Ytkjmehpehopncaa.lawPassChoices
open Go.ChangeShapes Go.WideShapes Go.ChangeAt Go.RowKit
set_option maxHeartbeats 8000000 in
set_option maxRecDepth 100000 in
theorem walk (a : Option Addr) (n c : Nat) (b : Option Addr) (m d : Nat) (w : World) (g1 : SlU (· < w.heap.size) w a n) (g2 : SlU (· < w.heap.size) w b m) :
    Calls Try.prog 3 #[.slice a n c, .slice b m d] w (RetV w (.bool true)) := by
  have C1 := Lib.hid (f6bigV_c a n c w g1.len)
  have C2 := Lib.hid (f6bigV_c b m d w g2.len)
  have CP := Lib.hid (p6Passing_c a n c w g1)
  have HG2 := Lib.hid g2
  clear g1 g2
  cases hq1 : decide (4096 < n)
  rotate_left
  · rw [hq1] at C1
    clear hq1
    go_enter Try.func3, Try.ntmps3
    go_wp2_with fail
    refine C1.out.mono ?_
    rintro e w1 ⟨rfl, rfl⟩
    go_wp2
    go_ret
    exact ⟨rfl, Below.refl _ _⟩
  cases hq2 : decide (4096 < m)
  rotate_left
  · rw [hq1] at C1
    rw [hq2] at C2
    clear hq1 hq2
    go_enter Try.func3, Try.ntmps3
    go_wp2_with fail
    refine C1.out.mono ?_
    rintro e w1 ⟨rfl, rfl⟩
    go_wp2_with fail
    refine C2.out.mono ?_
    rintro e w1 ⟨rfl, rfl⟩
    go_wp2
    go_ret
    exact ⟨rfl, Below.refl _ _⟩
  rw [hq1] at C1
  rw [hq2] at C2
  clear hq1 hq2
  go_enter Try.func3, Try.ntmps3
  go_wp2_with fail
  refine C1.out.mono ?_
  rintro e w1 ⟨rfl, rfl⟩
  go_wp2_with fail
  refine C2.out.mono ?_
  rintro e w1 ⟨rfl, rfl⟩
  go_wp2_with fail
  refine CP.out.mono ?_
  rintro e w2 ⟨K, x1, x2, x3, y0, y1, v1, v2, v3, u0, u1, F1, F2, F3, G0, G1, rfl, hb2, o1, o2, o3, o4, o5, hst0⟩
  obtain ⟨a1, c1, rfl, hc1, r1⟩ := o1.capI
  obtain ⟨a2, c2, rfl, r2⟩ := Rd_B.1 o2.rdA
  have r3 := o3.rdA
  obtain ⟨a3, c3, rfl, _⟩ := Rd_PR r3
  obtain ⟨b0, d0, rfl, r4⟩ := Rd_II.1 o4.rdA
  obtain ⟨b1, d1, rfl, r5⟩ := Rd_I.1 o5.rdA
  obtain ⟨K', hK', hps, hst⟩ := stockAll_ok (stCode_ok hst0)
  obtain rfl : K' = K := by omega
  have hb3 : Below w2.heap.size w2 ((w2.alloc (.cells #[.int .i64 K', .slice a1 x1.length c1, .slice a2 x2.length c2, .slice a3 x3.length c3] 28)).alloc (.cells #[.slice b0 y0.length d0, .slice b1 y1.length d1] 31)) := (below_alloc w2 _).alloc (by simp) _
  have HB23 := Lib.hid (hb2.trans (hb3.mono (by have := hb2.size; omega)))
  have CC := Lib.hid (p6Counts_c K' x1 x2 x3 y0 y1 a1 a2 a3 b0 b1 c1 c2 c3 d0 d1 b m d ((w2.alloc (.cells #[.int .i64 K', .slice a1 x1.length c1, .slice a2 x2.length c2, .slice a3 x3.length c3] 28)).alloc (.cells #[.slice b0 y0.length d0, .slice b1 y1.length d1] 31)) ((HG2.out.below HB23.out).any (fun k hk => by have := HB23.out.size; omega)) (r1.below hb3) (r2.below hb3) (r3.below hb3) (r4.below hb3) (r5.below hb3) K' rfl hps hst)
  have HSY : Hid (∀ cs bc cc wx, Below (((w2.alloc (.cells #[.int .i64 K', .slice a1 x1.length c1, .slice a2 x2.length c2, .slice a3 x3.length c3] 28)).alloc (.cells #[.slice b0 y0.length d0, .slice b1 y1.length d1] 31))).heap.size ((w2.alloc (.cells #[.int .i64 K', .slice a1 x1.length c1, .slice a2 x2.length c2, .slice a3 x3.length c3] 28)).alloc (.cells #[.slice b0 y0.length d0, .slice b1 y1.length d1] 31)) wx → SlI Any wx bc cs → Sys wx w2.heap.size (w2.heap.size + 1) K' x1 x2 x3 y0 y1 a1 a2 a3 b0 b1 c1 c2 c3 d0 d1 cs bc cc) := Lib.hid (fun cs bc cc wx hb hs => by
    have hbw := hb3.trans (hb.mono (by simp <;> omega))
    have hcw : ∀ b i, b < w2.heap.size + 1 + 1 → wx.cell? ⟨b, i, none⟩ = ((w2.alloc (.cells #[.int .i64 K', .slice a1 x1.length c1, .slice a2 x2.length c2, .slice a3 x3.length c3] 28)).alloc (.cells #[.slice b0 y0.length d0, .slice b1 y1.length d1] 31)).cell? ⟨b, i, none⟩ := fun b i h => bcell1 hb (by simpa using h)
    exact ⟨r1.below hbw, hc1, r2.below hbw, r3.below hbw, r4.below hbw, r5.below hbw, hs, by rw [hcw _ _ (by omega)]; simp [go_sem], by rw [hcw _ _ (by omega)]; simp [go_sem], by rw [hcw _ _ (by omega)]; simp [go_sem], by rw [hcw _ _ (by omega)]; simp [go_sem], by rw [hcw _ _ (by omega)]; simp [go_sem], by rw [hcw _ _ (by omega)]; simp [go_sem]⟩)
  have HPS := Lib.hid hps
  have HST := Lib.hid hst
  have HST0 := Lib.hid hst0
  have hr8 := hps.r8
  clear C1 C2 CP hb2 hb3 o1 o2 o3 o4 o5 r1 r2 r3 r4 r5 hst0 hps hst hK' hc1
  go_wp2_with fail
  refine CC.out.mono ?_
  rintro e w4 ⟨cs, vc, Fc, rfl, hb4, oc, hcl, hcb⟩
  obtain ⟨bc, cc, rfl, rc⟩ := Rd_I.1 oc.rdA
  have HSY4 := Lib.hid (HSY.out cs bc cc w4 hb4 rc)
  have HB4 := Lib.hid (bnext HB23.out hb4 (Nat.le_refl _))
  have HCL := Lib.hid hcl
  have HCB : Hid (∀ j, 0 ≤ nth cs j ∧ nth cs j ≤ 1000) := Lib.hid (fun j => by have := hcb j; omega)
  have hb6 : bag6 x3.length cs = true := by
    have : allB cntOk cs = true := allB_true fun j hj => by have := hcb j; simp [cntOk, inRg]; omega
    simp [bag6, this, hcl]
  have hpc : passCodeS K' x1 x2 x3 y0 y1 cs = 0 := by simp [passCodeS, HST0.out, hb6]
  have HCH : Hid (∀ mode, inRg mode 1 3 = true → choiceS K' x1 x2 x3 y0 y1 cs mode = (yesS x1 x2 x3 y0 y1 cs mode, 0)) := Lib.hid (fun mode hm => by simp [choiceS, hpc, hm, yesS])
  have hpf : passFitsS K' x1 x2 x3 y0 y1 cs = (fitsB x1 x2 x3 (bagsS y0 y1) cs, 0) := by simp [passFitsS, hpc]
  obtain ⟨ft, hft⟩ : ∃ ft, ft = fitsB x1 x2 x3 (bagsS y0 y1) cs := ⟨_, rfl⟩
  rw [← hft] at hpf
  have HFT := Lib.hid hft
  have HPF := Lib.hid hpf
  have C := implPassFits_c K' x1 x2 x3 y0 y1 a1 a2 a3 b0 b1 c1 c2 c3 d0 d1 w4 HSY4.out.h1 HSY4.out.hc1 HSY4.out.h2 HSY4.out.h3 HSY4.out.k0 HSY4.out.k1 cs bc cc HSY4.out.kc
  rw [hpf] at C
  replace C := Lib.hid C
  have q0 := HSY4.out.p0
  have q1 := HSY4.out.p1
  have q2 := HSY4.out.p2
  have q3 := HSY4.out.p3
  have t0 := HSY4.out.t0
  have t1 := HSY4.out.t1
  have hne : (ft != ft) = false := by simp
  clear hb4 oc hcl hcb rc hb6 hpc hpf hft CC HSY
  go_wp2_with fail
  refine C.out.mono ?_
  rintro e w5 ⟨rfl, hb5⟩
  have HSY5 := Lib.hid (HSY4.out.below hb5)
  have HB5 := Lib.hid (bnext HB4.out hb5 (Nat.le_refl _))
  have C := specPassFits_c K' x1 x2 x3 y0 y1 a1 a2 a3 b0 b1 c1 c2 c3 d0 d1 w5 HSY5.out.h1 HSY5.out.h2 HSY5.out.h3 HSY5.out.k0 HSY5.out.k1 cs bc cc HSY5.out.kc
  rw [HPF.out] at C
  replace C := Lib.hid C
  clear hb5 q0 q1 q2 q3 t0 t1
  have q0 := HSY5.out.p0
  have q1 := HSY5.out.p1
  have q2 := HSY5.out.p2
  have q3 := HSY5.out.p3
  have t0 := HSY5.out.t0
  have t1 := HSY5.out.t1
  go_wp2_with fail
  refine C.out.mono ?_
  rintro e w6 ⟨rfl, hb6⟩
  have HSY6 := Lib.hid (HSY5.out.below hb6)
  have HB6 := Lib.hid (bnext HB5.out hb6 (Nat.le_refl _))
  have HLY0 : Hid (Lst 4 1 ((w6.alloc (.cells #[] 4)).alloc (.cells #[] 4)) w6.heap.size (.slice (some ⟨w6.heap.size, 0, none⟩) 0 0) 0 [] [w6.heap.size]) := Lib.hid ((Lst.made 4 1 w6 w6.heap.size (Nat.le_refl _)).below (below_alloc _ _))
  have HLS0 : Hid (Lst 4 1 ((w6.alloc (.cells #[] 4)).alloc (.cells #[] 4)) w6.heap.size (.slice (some ⟨w6.heap.size + 1, 0, none⟩) 0 0) 0 [] [w6.heap.size + 1]) := Lib.hid (by
    have h9 := Lst.made 4 1 (w6.alloc (.cells #[] 4)) w6.heap.size (by simp)
    simpa using h9)
  have HB60 : Hid (Below w6.heap.size w6 ((w6.alloc (.cells #[] 4)).alloc (.cells #[] 4))) := Lib.hid ((below_alloc w6 _).alloc (by simp) _)
  clear hb6 C q0 q1 q2 q3 t0 t1
  go_wp2
  go_loopw [12, 13, 14, 15, 16, 17, 18, 19, 20] (fun vy vs mo _ _ _ _ _ _ wr => ∃ (k : Nat) (GY GS : List Nat), k ≤ 3 ∧ mo = .int .i64 ((k : Int) + 1) ∧ Hid (Below w6.heap.size w6 wr) ∧ Hid (Lst 4 1 wr w6.heap.size vy k ((yesL x1 x2 x3 y0 y1 cs k).map .b) GY) ∧ Hid (Lst 4 1 wr w6.heap.size vs k ((someL x1 x2 x3 y0 y1 k).map .b) GS) ∧ Hid (∀ g, g ∈ GY → g ∉ GS)) (fun _ _ mo _ _ _ _ _ _ _ => 4 - (intOf mo).toNat)
  case atStart => exact ⟨0, _, _, by omega, rfl, HB60, HLY0, HLS0, Lib.hid (by simp)⟩
  case round =>
    obtain ⟨k, GY, GS, hk, rfl, HB, HLY, HLS, HD⟩ := hrel
    obtain ⟨_, ay, cy, rfl⟩ := HLY.out.val
    obtain ⟨_, asp, csp, rfl⟩ := HLS.out.val
    have HSYr := Lib.hid (HSY6.out.below HB.out)
    have q0 := HSYr.out.p0
    have q1 := HSYr.out.p1
    have q2 := HSYr.out.p2
    have q3 := HSYr.out.p3
    have t0 := HSYr.out.t0
    have t1 := HSYr.out.t1
    by_cases hlt : k < 3
    · have hlt' : (k : Int) + 1 ≤ 3 := by omega
      have hm : inRg ((k : Int) + 1) 1 3 = true := by simp [inRg]; omega
      have HM := Lib.hid hm
      have CI := implPassChoices_c K' x1 x2 x3 y0 y1 a1 a2 a3 b0 b1 c1 c2 c3 d0 d1 ((k : Int) + 1) wr HSYr.out.h1 HSYr.out.hc1 HSYr.out.h2 HSYr.out.h3 HSYr.out.k0 HSYr.out.k1 K' HPS.out HST.out HST0.out hm
      have CS := Lib.hid (fun wx (sy : Sys wx w2.heap.size (w2.heap.size + 1) K' x1 x2 x3 y0 y1 a1 a2 a3 b0 b1 c1 c2 c3 d0 d1 cs bc cc) => specPassChoices_c K' x1 x2 x3 y0 y1 a1 a2 a3 b0 b1 c1 c2 c3 d0 d1 ((k : Int) + 1) wx sy.h1 sy.h2 sy.h3 sy.k0 sy.k1 K' rfl HPS.out HST.out HST0.out hm)
      have CC := Lib.hid (fun wx (sy : Sys wx w2.heap.size (w2.heap.size + 1) K' x1 x2 x3 y0 y1 a1 a2 a3 b0 b1 c1 c2 c3 d0 d1 cs bc cc) => implIsPassChoice_c K' x1 x2 x3 y0 y1 a1 a2 a3 b0 b1 c1 c2 c3 d0 d1 wx sy.h1 sy.hc1 sy.h2 sy.h3 sy.k0 sy.k1 cs bc cc sy.kc ((k : Int) + 1))
      rw [HCH.out _ hm] at CC
      obtain ⟨yv, hyv⟩ : ∃ yv, yv = yesS x1 x2 x3 y0 y1 cs ((k : Int) + 1) := ⟨_, rfl⟩
      obtain ⟨CH, hCH⟩ : ∃ CH, CH = chL x1 x2 x3 y0 y1 ((k : Int) + 1) := ⟨_, rfl⟩
      have hcs := choices_cases (x1 := x1) (x2 := x2) (x3 := x3) (y0 := y0) (y1 := y1) ((k : Int) + 1)
      have hyf : yv = true → ft = true := fun h => by rw [hyv] at h; unfold yesS at h; rw [Bool.and_eq_true] at h; rw [HFT.out]; exact h.1
      have hin := mem_yes HPS.out HST.out HCL.out HCB.out ((k : Int) + 1)
      have hsome : someS x1 x2 x3 y0 y1 ((k : Int) + 1) = decide (0 < CH.length) := by rw [hCH]; rfl
      rw [← hyv] at CC hin
      rw [← hCH] at hcs hin
      have HYV := Lib.hid hyv
      have HSOME := Lib.hid hsome
      clear hyv hCH hsome hm
      rcases hcs with hcs | hcs
      · rw [hcs] at CI CS
        replace CI := Lib.hid CI
        clear hcs
        go_wp2_with fail
        refine CI.out.mono ?_
        rintro e wa ⟨va, Fa, rfl, hba, hoa, _, _⟩
        obtain ⟨aa, ca, rfl⟩ := Ow.valII hoa
        have HSA := Lib.hid (Ow.argII hoa)
        have HSYa := Lib.hid (HSYr.out.below hba)
        have HBa := Lib.hid (bnext HB.out hba (Nat.le_refl _))
        have C := Lib.hid (CS.out wa HSYa.out)
        have HWa := Lib.hid hba
        clear hba hoa CI q0 q1 q2 q3 t0 t1
        have q0 := HSYa.out.p0
        have q1 := HSYa.out.p1
        have q2 := HSYa.out.p2
        have q3 := HSYa.out.p3
        have t0 := HSYa.out.t0
        have t1 := HSYa.out.t1
        go_wp2_with fail
        refine C.out.mono ?_
        rintro e wb ⟨vb, Fb, rfl, hbb, hob, _, _⟩
        obtain ⟨ab, cb, rfl⟩ := Ow.valII hob
        have HSB := Lib.hid (Ow.argII hob)
        have HSYb := Lib.hid (HSYa.out.below hbb)
        have HBb := Lib.hid (bnext HBa.out hbb (Nat.le_refl _))
        have HSAb := Lib.hid (HSA.out.below hbb)
        have HWb := Lib.hid (bnext HWa.out hbb (Nat.le_refl _))
        have C := Lib.hid (CC.out wb HSYb.out)
        clear hbb hob CS q0 q1 q2 q3 t0 t1
        have q0 := HSYb.out.p0
        have q1 := HSYb.out.p1
        have q2 := HSYb.out.p2
        have q3 := HSYb.out.p3
        have t0 := HSYb.out.t0
        have t1 := HSYb.out.t1
        go_wp2_with fail
        refine C.out.mono ?_
        rintro e wc ⟨rfl, hbc⟩
        have HSYc := Lib.hid (HSYb.out.below hbc)
        have HBc := Lib.hid (bnext HBb.out hbc (Nat.le_refl _))
        have HSAc := Lib.hid (HSAb.out.below hbc)
        have HSBc := Lib.hid (HSB.out.below hbc)
        have HWc := Lib.hid (bnext HWb.out hbc (Nat.le_refl _))
        have CR := Lib.hid (f6rowsV_c aa ab ca cb CH wc HSAc.out HSBc.out)
        have C2 := Lib.hid (fun wx (h : Below wc.heap.size wc wx) => f6inV_c ab bc cb cc CH cs wx (HSBc.out.below h) (HSYc.out.kc.below h))
        rw [hin] at C2
        clear hbc CC q0 q1 q2 q3 t0 t1 hin C
        cases yv
        · go_wp2_with fail
          refine CR.out.mono ?_
          rintro e wd ⟨rfl, hbd⟩
          have HBd := Lib.hid (bnext HBc.out hbd (Nat.le_refl _))
          have HWd := Lib.hid (bnext HWc.out hbd (Nat.le_refl _))
          have C3 := Lib.hid (C2.out wd hbd)
          clear hbd CR
          go_wp2_with fail
          refine C3.out.mono ?_
          rintro e we ⟨rfl, hbe⟩
          have HBe := Lib.hid (bnext HBd.out hbe (Nat.le_refl _))
          have HWe := Lib.hid (bnext HWd.out hbe (Nat.le_refl _))
          have HLYe := Lib.hid (HLY.out.below HWe.out)
          have HLSe := Lib.hid (HLS.out.below HWe.out)
          have hze : w6.heap.size ≤ we.heap.size := HBe.out.size
          clear hbe C3
          go_wp2_with (at_builtin; refine app_lst rfl _ _ 25 rfl tabB rfl (by omega) (by decide) w6.heap.size _ k ((yesL x1 x2 x3 y0 y1 cs k).map .b) [.b false] GY [] [.bool false] rfl (HLYe.out.below (below_alloc _ _)) we.heap.size rfl ⟨⟨[], [], ⟨rfl, rfl⟩, rfl, rfl⟩, rfl, by simp, by simp, by simp, fun j u hu => by match j, hu with | 0, hu => (simp at hu; subst hu; simp [go_sem]), by simp [Value.oneCell']⟩ (by omega) (by simp; omega) ?_)
          intro vy7 w7 GY7 hN
          obtain ⟨_, ay7, cy7, rfl⟩ := hN.lst.val
          have hcb7 : Below w6.heap.size w6 w7 := (HBe.out.alloc hze _).trans (hN.chg.below (by simp; omega) (fun g hg => (HLYe.out.lt g (ob_sub HLYe.out g hg)).1))
          have HLS7 := Lib.hid ((HLSe.out.below (below_alloc we (.cells #[.bool false] 4))).keep hN.chg (fun g hg e => HD.out g (ob_sub HLYe.out g e) hg))
          have HGY7 : Hid (∀ g, g ∈ GY7 → g ∈ GY ∨ we.heap.size ≤ g) := Lib.hid (fun g hg => by
            rcases hN.mem g hg with h | h | h
            · exact .inl h
            · simp at h
            · simp at h; exact .inr (by omega))
          have HLY7 := Lib.hid hN.lst
          have HCB7 := Lib.hid hcb7
          have hz7 : w6.heap.size ≤ w7.heap.size := hcb7.size
          have HZE : Hid (we.heap.size ≤ w7.heap.size) := Lib.hid (by have := hN.chg.size; simp at this; omega)
          clear hN hcb7
          go_wp2_with (at_builtin; refine app_lst rfl _ _ 25 rfl tabB rfl (by omega) (by decide) w6.heap.size _ k ((someL x1 x2 x3 y0 y1 k).map .b) [.b (decide (0 < CH.length))] GS [] [.bool (decide (0 < CH.length))] rfl (HLS7.out.below (below_alloc _ _)) w7.heap.size rfl ⟨⟨[], [], ⟨rfl, rfl⟩, rfl, rfl⟩, rfl, by simp, by simp, by simp, fun j u hu => by match j, hu with | 0, hu => (simp at hu; subst hu; simp [go_sem]), by simp [Value.oneCell']⟩ (by omega) (by simp; omega) ?_)
          intro vs9 w9 GS9 hM
          obtain ⟨_, as9, cs9, rfl⟩ := hM.lst.val
          have HB9 : Hid (Below w6.heap.size w6 w9) := Lib.hid ((HCB7.out.alloc hz7 _).trans (hM.chg.below (by simp; omega) (fun g hg => (HLS7.out.lt g (ob_sub HLS7.out g hg)).1)))
          have hap : ∀ g, g ∈ GY7 → g ∉ GS := fun g hg e => by
            rcases HGY7.out g hg with h | h
            · exact HD.out g h e
            · have := (HLSe.out.lt g e).2; omega
          have HLY9 : Hid (Lst 4 1 w9 w6.heap.size (.slice ay7 (k + 1) cy7) (k + 1) ((yesL x1 x2 x3 y0 y1 cs (k + 1)).map .b) GY7) := Lib.hid (by
            have h9 := (HLY7.out.below (below_alloc w7 (.cells #[.bool (decide (0 < CH.length))] 4))).keep hM.chg (fun g hg e => hap g hg (ob_sub HLS7.out g e))
            rw [yesL_succ, ← HYV.out, List.map_append]
            exact h9)
          have HLS9 : Hid (Lst 4 1 w9 w6.heap.size (.slice as9 (k + 1) cs9) (k + 1) ((someL x1 x2 x3 y0 y1 (k + 1)).map .b) GS9) := Lib.hid (by
            have h9 := hM.lst
            rw [someL_succ, HSOME.out, List.map_append]
            exact h9)
          have HD9 : Hid (∀ g, g ∈ GY7 → g ∉ GS9) := Lib.hid (fun g hg e => by
            rcases hM.mem g e with h | h | h
            · exact hap g hg h
            · simp at h
            · have := (HLY7.out.lt g hg).2; simp at h; omega)
          clear hM hap
          go_wp2
          go_roundw
          case rel => exact ⟨k + 1, _, _, by omega, by simp, HB9, HLY9, HLS9, HD9⟩
          case measure => simp [intOf]; omega
        · have hft2 := hyf rfl
          subst hft2
          go_wp2_with fail
          refine CR.out.mono ?_
          rintro e wd ⟨rfl, hbd⟩
          have HBd := Lib.hid (bnext HBc.out hbd (Nat.le_refl _))
          have HWd := Lib.hid (bnext HWc.out hbd (Nat.le_refl _))
          have C3 := Lib.hid (C2.out wd hbd)
          clear hbd CR
          go_wp2_with fail
          refine C3.out.mono ?_
          rintro e we ⟨rfl, hbe⟩
          have HBe := Lib.hid (bnext HBd.out hbe (Nat.le_refl _))
          have HWe := Lib.hid (bnext HWd.out hbe (Nat.le_refl _))
          have HLYe := Lib.hid (HLY.out.below HWe.out)
          have HLSe := Lib.hid (HLS.out.below HWe.out)
          have hze : w6.heap.size ≤ we.heap.size := HBe.out.size
          clear hbe C3
          go_wp2_with (at_builtin; refine app_lst rfl _ _ 25 rfl tabB rfl (by omega) (by decide) w6.heap.size _ k ((yesL x1 x2 x3 y0 y1 cs k).map .b) [.b true] GY [] [.bool true] rfl (HLYe.out.below (below_alloc _ _)) we.heap.size rfl ⟨⟨[], [], ⟨rfl, rfl⟩, rfl, rfl⟩, rfl, by simp, by simp, by simp, fun j u hu => by match j, hu with | 0, hu => (simp at hu; subst hu; simp [go_sem]), by simp [Value.oneCell']⟩ (by omega) (by simp; omega) ?_)
          intro vy7 w7 GY7 hN
          obtain ⟨_, ay7, cy7, rfl⟩ := hN.lst.val
          have hcb7 : Below w6.heap.size w6 w7 := (HBe.out.alloc hze _).trans (hN.chg.below (by simp; omega) (fun g hg => (HLYe.out.lt g (ob_sub HLYe.out g hg)).1))
          have HLS7 := Lib.hid ((HLSe.out.below (below_alloc we (.cells #[.bool true] 4))).keep hN.chg (fun g hg e => HD.out g (ob_sub HLYe.out g e) hg))
          have HGY7 : Hid (∀ g, g ∈ GY7 → g ∈ GY ∨ we.heap.size ≤ g) := Lib.hid (fun g hg => by
            rcases hN.mem g hg with h | h | h
            · exact .inl h
            · simp at h
            · simp at h; exact .inr (by omega))
          have HLY7 := Lib.hid hN.lst
          have HCB7 := Lib.hid hcb7
          have hz7 : w6.heap.size ≤ w7.heap.size := hcb7.size
          have HZE : Hid (we.heap.size ≤ w7.heap.size) := Lib.hid (by have := hN.chg.size; simp at this; omega)
          clear hN hcb7
          go_wp2_with (at_builtin; refine app_lst rfl _ _ 25 rfl tabB rfl (by omega) (by decide) w6.heap.size _ k ((someL x1 x2 x3 y0 y1 k).map .b) [.b (decide (0 < CH.length))] GS [] [.bool (decide (0 < CH.length))] rfl (HLS7.out.below (below_alloc _ _)) w7.heap.size rfl ⟨⟨[], [], ⟨rfl, rfl⟩, rfl, rfl⟩, rfl, by simp, by simp, by simp, fun j u hu => by match j, hu with | 0, hu => (simp at hu; subst hu; simp [go_sem]), by simp [Value.oneCell']⟩ (by omega) (by simp; omega) ?_)
          intro vs9 w9 GS9 hM
          obtain ⟨_, as9, cs9, rfl⟩ := hM.lst.val
          have HB9 : Hid (Below w6.heap.size w6 w9) := Lib.hid ((HCB7.out.alloc hz7 _).trans (hM.chg.below (by simp; omega) (fun g hg => (HLS7.out.lt g (ob_sub HLS7.out g hg)).1)))
          have hap : ∀ g, g ∈ GY7 → g ∉ GS := fun g hg e => by
            rcases HGY7.out g hg with h | h
            · exact HD.out g h e
            · have := (HLSe.out.lt g e).2; omega
          have HLY9 : Hid (Lst 4 1 w9 w6.heap.size (.slice ay7 (k + 1) cy7) (k + 1) ((yesL x1 x2 x3 y0 y1 cs (k + 1)).map .b) GY7) := Lib.hid (by
            have h9 := (HLY7.out.below (below_alloc w7 (.cells #[.bool (decide (0 < CH.length))] 4))).keep hM.chg (fun g hg e => hap g hg (ob_sub HLS7.out g e))
            rw [yesL_succ, ← HYV.out, List.map_append]
            exact h9)
          have HLS9 : Hid (Lst 4 1 w9 w6.heap.size (.slice as9 (k + 1) cs9) (k + 1) ((someL x1 x2 x3 y0 y1 (k + 1)).map .b) GS9) := Lib.hid (by
            have h9 := hM.lst
            rw [someL_succ, HSOME.out, List.map_append]
            exact h9)
          have HD9 : Hid (∀ g, g ∈ GY7 → g ∉ GS9) := Lib.hid (fun g hg e => by
            rcases hM.mem g e with h | h | h
            · exact hap g hg h
            · simp at h
            · have := (HLY7.out.lt g hg).2; simp at h; omega)
          clear hM hap
          go_wp2
          go_roundw
          case rel => exact ⟨k + 1, _, _, by omega, by simp, HB9, HLY9, HLS9, HD9⟩
          case measure => simp [intOf]; omega
      · rw [hcs] at CI CS
        replace CI := Lib.hid CI
        clear hcs hin
        go_wp2_with fail
        refine CI.out.mono ?_
        rintro e wa ⟨va, Fa, rfl, hba, hoa, _, _⟩
        obtain ⟨aa, ca, rfl⟩ := Ow.valII hoa
        have HSA := Lib.hid (Ow.argII hoa)
        have HSYa := Lib.hid (HSYr.out.below hba)
        have HBa := Lib.hid (bnext HB.out hba (Nat.le_refl _))
        have C := Lib.hid (CS.out wa HSYa.out)
        clear hba hoa CI q0 q1 q2 q3 t0 t1
        have q0 := HSYa.out.p0
        have q1 := HSYa.out.p1
        have q2 := HSYa.out.p2
        have q3 := HSYa.out.p3
        have t0 := HSYa.out.t0
        have t1 := HSYa.out.t1
        go_wp2_with fail
        refine C.out.mono ?_
        rintro e wb ⟨vb, Fb, rfl, hbb, hob, _, _⟩
        obtain ⟨ab, cb, rfl⟩ := Ow.valII hob
        have HSB := Lib.hid (Ow.argII hob)
        have HSYb := Lib.hid (HSYa.out.below hbb)
        have HBb := Lib.hid (bnext HBa.out hbb (Nat.le_refl _))
        have HSAb := Lib.hid (HSA.out.below hbb)
        have C := Lib.hid (CC.out wb HSYb.out)
        clear hbb hob CS q0 q1 q2 q3 t0 t1
        have q0 := HSYb.out.p0
        have q1 := HSYb.out.p1
        have q2 := HSYb.out.p2
        have q3 := HSYb.out.p3
        have t0 := HSYb.out.t0
        have t1 := HSYb.out.t1
        go_wp2_with fail
        refine C.out.mono ?_
        rintro e wc ⟨rfl, hbc⟩
        have HBc := Lib.hid (bnext HBb.out hbc (Nat.le_refl _))
        have CR := Lib.hid (f6rowsV_c aa ab ca cb [] wc (HSAb.out.below hbc) (HSB.out.below hbc))
        clear hbc CC q0 q1 q2 q3 t0 t1 C
        cases yv
        · go_wp2_with fail
          refine CR.out.mono ?_
          rintro e wd ⟨rfl, hbd⟩
          have HBd := Lib.hid (HB6.out.trans ((bnext HBc.out hbd (Nat.le_refl _)).mono HB6.out.size))
          clear hbd
          go_wp2
          go_ret
          exact ⟨rfl, HBd.out⟩
        · have hft2 := hyf rfl
          subst hft2
          go_wp2_with fail
          refine CR.out.mono ?_
          rintro e wd ⟨rfl, hbd⟩
          have HBd := Lib.hid (HB6.out.trans ((bnext HBc.out hbd (Nat.le_refl _)).mono HB6.out.size))
          clear hbd
          go_wp2
          go_ret
          exact ⟨rfl, HBd.out⟩
    · have hlt' : ¬ (k : Int) + 1 ≤ 3 := by omega
      obtain rfl : k = 3 := by omega
      obtain ⟨w8, hw8⟩ : ∃ w8 : World, w8 = wr := ⟨_, rfl⟩
      subst hw8
      obtain ⟨FY, hoY, _, _⟩ := HLY.out.ow (by omega) (by unfold maxLen; omega)
      obtain ⟨FS, hoS, _, _⟩ := HLS.out.ow (by omega) (by unfold maxLen; omega)
      have HRY : Hid (SlB Any w8 ay (yesL x1 x2 x3 y0 y1 cs 3)) := Lib.hid (Ow.argB (show Ow w8 (dB (yesL x1 x2 x3 y0 y1 cs 3)) _ FY from hoY))
      have HRS : Hid (SlB Any w8 asp (someL x1 x2 x3 y0 y1 3)) := Lib.hid (Ow.argB (show Ow w8 (dB (someL x1 x2 x3 y0 y1 3)) _ FS from hoS))
      have HEL := Lib.hid (end_law (cs := cs) HPS.out HST.out)
      have HCP : Hid (∀ (q : Nat) wx (sy : Sys wx w2.heap.size (w2.heap.size + 1) K' x1 x2 x3 y0 y1 a1 a2 a3 b0 b1 c1 c2 c3 d0 d1 cs bc cc), q < x3.length → Calls Try.prog 14 #[.agg #[.int .i64 K', .slice a1 x1.length c1, .slice a2 x2.length c2, .slice a3 x3.length c3], .agg #[.slice b0 y0.length d0, .slice b1 y1.length d1], .int .i64 q] wx (RetV wx (.tuple #[.bool (fitsB x1 x2 x3 (bagsS y0 y1) ((List.replicate x3.length 0).set q 1)), .int .i64 0]))) := Lib.hid (fun q wx sy hq => by
        have h9 := implCanPass_c K' x1 x2 x3 y0 y1 a1 a2 a3 b0 b1 c1 c2 c3 d0 d1 q wx sy.h1 sy.hc1 sy.h2 sy.h3 sy.k0 sy.k1
        have e : canPassS K' x1 x2 x3 y0 y1 (q : Int) = (fitsB x1 x2 x3 (bagsS y0 y1) ((List.replicate x3.length 0).set q 1), 0) := by
          have hr : inRg (q : Int) 0 ((x3.length : Int) - 1) = true := by simp [inRg]; omega
          rw [canPassS, if_pos HST0.out, if_pos hr, Int.toNat_natCast]
        rwa [e] at h9)
      clear hoY hoS HLY HLS HD
      go_wp2
      go_loopw [21, 22, 23, 24] (fun an i _ _ wr => ∃ q : Nat, q ≤ x3.length ∧ an = .bool (anyS x1 x2 x3 y0 y1 q) ∧ i = .int .i64 q ∧ Hid (Below w8.heap.size w8 wr)) (fun _ i _ _ _ => x3.length - (intOf i).toNat)
      case atStart => exact ⟨0, Nat.zero_le _, by simp [anyS], rfl, Lib.hid (Below.refl _ _)⟩
      case round =>
        obtain ⟨q, hq, rfl, rfl, HBq⟩ := hrel
        have HSYq := Lib.hid (HSYr.out.below HBq.out)
        clear q0 q1 q2 q3 t0 t1
        have q0 := HSYq.out.p0
        have q1 := HSYq.out.p1
        have q2 := HSYq.out.p2
        have q3 := HSYq.out.p3
        have t0 := HSYq.out.t0
        have t1 := HSYq.out.t1
        by_cases hqm : q < x3.length
        · have hqm' : (q : Int) < x3.length := by omega
          have C := HCP.out q wr HSYq.out hqm
          obtain ⟨fv, hfv⟩ : ∃ fv, fv = fitsB x1 x2 x3 (bagsS y0 y1) ((List.replicate x3.length 0).set q 1) := ⟨_, rfl⟩
          rw [← hfv] at C
          replace C := Lib.hid C
          have hsc := anyS_succ x1 x2 x3 y0 y1 q
          rw [← hfv] at hsc
          obtain ⟨av, hav⟩ : ∃ av, av = anyS x1 x2 x3 y0 y1 q := ⟨_, rfl⟩
          rw [← hav] at hsc ⊢
          have HSC := Lib.hid hsc
          clear hfv hsc hav
          cases av
          · go_wp2_with fail
            refine C.out.mono ?_
            rintro e wd ⟨rfl, hbd⟩
            have HBd := Lib.hid (bnext HBq.out hbd (Nat.le_refl _))
            clear hbd C
            go_wp2
            go_roundw
            case rel => exact ⟨q + 1, by omega, by rw [HSC.out]; simp, by go_num, HBd⟩
            case measure => simp [intOf]; omega
          · go_wp2_with fail
            refine C.out.mono ?_
            rintro e wd ⟨rfl, hbd⟩
            have HBd := Lib.hid (bnext HBq.out hbd (Nat.le_refl _))
            clear hbd C
            go_wp2
            go_roundw
            case rel => exact ⟨q + 1, by omega, by rw [HSC.out]; simp, by go_num, HBd⟩
            case measure => simp [intOf]; omega
        · obtain rfl : q = x3.length := by omega
          obtain ⟨eY, e1, e2, e3⟩ := HEL.out
          have iy := HRY.out.ix tabB.under tabB.size cy
          have is := HRS.out.ix tabB.under tabB.size csp
          have iy0 := fun w' => iy 0 w' (by omega) (by simp [yesL])
          have iy1 := fun w' => iy 1 w' (by omega) (by simp [yesL])
          have is0 := fun w' => is 0 w' (by omega) (by simp [someL])
          have is1 := fun w' => is 1 w' (by omega) (by simp [someL])
          have is2 := fun w' => is 2 w' (by omega) (by simp [someL])
          have hyl : (yesL x1 x2 x3 y0 y1 cs 3).length = 3 := by simp [yesL]
          have hsl : (someL x1 x2 x3 y0 y1 3).length = 3 := by simp [someL]
          rw [hyl] at iy0 iy1
          rw [hsl] at is0 is1 is2
          have gy0 : _ = some (Value.bool (yesS x1 x2 x3 y0 y1 cs 1)) := (HRY.out.below HBq.out).cell 0 (by omega)
          have gy1 : _ = some (Value.bool (yesS x1 x2 x3 y0 y1 cs 2)) := (HRY.out.below HBq.out).cell 1 (by omega)
          have gs0 : _ = some (Value.bool (someS x1 x2 x3 y0 y1 1)) := (HRS.out.below HBq.out).cell 0 (by omega)
          have gs1 : _ = some (Value.bool (someS x1 x2 x3 y0 y1 2)) := (HRS.out.below HBq.out).cell 1 (by omega)
          have gs2 : _ = some (Value.bool (someS x1 x2 x3 y0 y1 3)) := (HRS.out.below HBq.out).cell 2 (by omega)
          rw [e1] at gs0
          rw [e2] at gs1
          rw [e3] at gs2
          obtain ⟨av, hav⟩ : ∃ av, av = anyS x1 x2 x3 y0 y1 x3.length := ⟨_, rfl⟩
          obtain ⟨Y1, hY1⟩ : ∃ Y1, Y1 = yesS x1 x2 x3 y0 y1 cs 1 := ⟨_, rfl⟩
          obtain ⟨Y2, hY2⟩ : ∃ Y2, Y2 = yesS x1 x2 x3 y0 y1 cs 2 := ⟨_, rfl⟩
          rw [← hav] at gs0 gs1 gs2 ⊢
          rw [← hY1] at gy0 eY
          rw [← hY2] at gy1 eY
          have HBF : Hid (Below w.heap.size w wr) := Lib.hid (HB6.out.trans ((HB.out.trans (HBq.out.mono HB.out.size)).mono HB6.out.size))
          have qy0 := wat_cell gy0
          have qy1 := wat_cell gy1
          have qs0 := wat_cell gs0
          have qs1 := wat_cell gs1
          have qs2 := wat_cell gs2
          have hqm' : ¬ (x3.length : Int) < x3.length := by omega
          clear iy is hyl hsl gy0 gy1 gs0 gs1 gs2 hav hY1 hY2 e1 e2 e3
          cases Y1 <;> cases Y2 <;> cases av
          case true.false.false => exact absurd (eY rfl) (by decide)
          case true.false.true => exact absurd (eY rfl) (by decide)
          all_goals
            clear eY
            go_wp2
            refine wp_quiet_wd (by kernel_rfl) (by kernel_rfl) ?_
            repeat (go_big_quiet_step (fail))
            refine wpQuiet_nil ?_
            rintro _ ⟨wq, rfl⟩
            go_wp2
            go_ret
            exact ⟨rfl, bnext HBF.out (wat_below wq) (Nat.le_refl _)⟩
set_option maxRecDepth 100000 in
theorem lifted (os : Os) (started : os.Started) (H : Type) (enc : TypeId × Value → H) :
    ReturnsInHanded {} Try.checked os 3 .any (Rows.fnPassChoicesSpec.pre6 enc Try.prog Try.f3 Rows.fnPassChoicesRow.domain false) (Rows.fnPassChoicesSpec.post enc Try.prog Try.f3 false true false false) :=
  lift Try.func3 (by kernel_rfl) rfl rfl (by kernel_rfl : Try.prog.underlying 4 = some .bool) (by kernel_rfl) (fun ds h => by match ds, h with | [d0, d1], _ => rfl) started
    (ChangeSpec.witness6 (enc := enc) (C := Try.checked) false ⟨#[], #[.slice none 0 0, .slice none 0 0], []⟩ 8 (by kernel_rfl) (by kernel_rfl) (by kernel_rfl) (by kernel_rfl))
    (fun W base args ds p hval hA => by
      rw [Try.params3] at hA hval
      obtain ⟨v0, vs0, d0, ds0, p0, q0, hargs0, rfl, rfl, g0, r0⟩ := ChangeShapes.trodAll_cons hA
      obtain ⟨v1, vs1, d1, ds1, p1, q1, hargs1, rfl, rfl, g1, r1⟩ := ChangeShapes.trodAll_cons r0
      obtain ⟨hnil, rfl, rfl⟩ := ChangeShapes.trodAll_nil r1
      obtain rfl : args = #[v0, v1] := by cases args; simp_all
      obtain ⟨a0, n0, c0, rfl, h0⟩ := open_U Try.underlying22 Try.underlying5 (by kernel_rfl) (hval 0 _ _ rfl rfl) g0
      obtain ⟨a1, n1, c1, rfl, h1⟩ := open_U Try.underlying22 Try.underlying5 (by kernel_rfl) (hval 1 _ _ rfl rfl) g1
      exact walk a0 n0 c0 a1 n1 c1 W h0 h1)
end Go.Proofs.Ytkjmehpehopncaa.lawPassChoices

/- FnPassChoices: whatever the input, the law returns true. No condition: the statement. -/
namespace Go.Proofs.Ytkjmehpehopncaa.lawPassChoices
open Go.ChangeShapes Go.WideShapes Go.ChangeAt Go.RowKit
theorem proved : Rows.FnPassChoicesSaid :=
  OpenClaim.holds_of_wide 3 Try.f3 rfl rfl rfl rfl rfl rfl rfl ⟨rfl, rfl, rfl, rfl, rfl⟩ rfl rfl rfl rfl rfl (by kernel_rfl) Try.func3 (by kernel_rfl)
    (of_decide_eq_true (by kernel_rfl)) (by unfold Func.isWrapper; first | (rw [if_pos (by decide +kernel)]; kernel_rfl) | (rw [if_neg (by decide +kernel)]; exact ⟨rfl, rfl⟩))
    (fun os started H enc _ => lifted os started H enc)
end Go.Proofs.Ytkjmehpehopncaa.lawPassChoices
