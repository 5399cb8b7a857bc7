/- Drawn passing systems: l06Draw. Written by mkva.py. -/
import Derived.Test.YtkjmehpehopncaaZ8
import Derived.Test.YtkjmehpehopncaaZ1
import Derived.Test.YtkjmehpehopncaaZ2
import Derived.Test.YtkjmehpehopncaaZ3
namespace Go.Proofs.Ytkjmehpehopncaa
open Go.RowKit
/-- Where a region goes on; it has no other way out. -/
def normV (K : Act → World → Prop) : Exit → Act → World → Prop
  | .normal, a, w => K a w
  | _, _, _ => False
theorem objs_c (s m kk : Nat) (w : World) (h : SrcE w s m) (hm : m ≤ 1000000000) (hk : kk ≤ 2) :
    Calls Try.prog 17 #[.pointer (some ⟨s, 0, none⟩), .int .i64 (1 + (kk : Int)), .int .i64 2] w (RetL w s (m + 6) fun xs => xs.length = kk + 1 ∧ ∀ j, 0 ≤ nth xs j ∧ nth xs j ≤ 2) := by
  have h9 := l06Objects_c s m (kk + 1) 2 w h hm (by omega) (by omega)
  rw [show ((kk + 1 : Nat) : Int) = 1 + (kk : Int) by omega, show ((2 : Nat) : Int) = 2 from rfl] at h9
  refine h9.mono ?_
  rintro e w' ⟨xs, v, F, h1, h2, h3, h4, h5, ⟨h6, h7⟩, h8⟩
  exact ⟨xs, v, F, h1, h2, h3, h4, h5, ⟨h6, h7⟩, h8.more (by omega)⟩
set_option maxHeartbeats 8000000 in
set_option maxRecDepth 100000 in
theorem l06Draw_c (s m : Nat) (w : World) (h : SrcE w s m) (hm : m ≤ 1000000) :
    Calls Try.prog 16 #[.pointer (some ⟨s, 0, none⟩)] w (RetDP w s (m + 100)) := by
  have hsz := h.lt
  have HP := Lib.hid (fun (m : Nat) (n : Int) wx h (hm : m ≤ 4000000000) (hn : n ≤ 40000) => pick_c s m n wx h hm hn)
  have HO := Lib.hid (fun (m : Nat) wx h (hm : m ≤ 4000000000) => one_c s m 4 wx h hm (by omega))
  have HS0 := Lib.hid (h.below (below_alloc w (.cells #[.int .i64 0, .slice none 0 0, .slice none 0 0, .slice none 0 0] 28)) hsz)
  have HRP := Lib.hid (callFunc_run (P := Try.prog) Try.func18 (by kernel_rfl) rfl)
  have HRO := Lib.hid (callFunc_run (P := Try.prog) Try.func20 (by kernel_rfl) rfl)
  clear h
  go_enter Try.func16, Try.ntmps16
  go_wp2_with fail
  refine (HP.out m 3 _ HS0.out (by omega) (by omega)).mono ?_
  rintro e w1 ⟨x, rfl, hx, he1, hs1⟩
  have hz1 : w1.heap.size = w.heap.size + 1 := by rw [he1.size]; simp
  obtain ⟨kk, rfl⟩ : ∃ k : Nat, x = (k : Int) := ⟨x.toNat, by omega⟩
  have hkk : kk ≤ 2 := by omega
  have hw1 : IntKind.i64.wrap (1 + (kk : Int)) = 1 + (kk : Int) := by rw [wrap_64]; unfold wrap64; omega
  have HD : Hid (DrC w s (m + 2) (1 + (kk : Int)) ((w1.alloc (.cells #[.int .i64 (-1)] 2)).alloc (.cells #[.int .i64 (1 + (kk : Int)), .slice (some ⟨w.heap.size + 1, 0, none⟩) 1 1, .slice none 0 0, .slice none 0 0] 28)) (.slice (some ⟨w.heap.size + 1, 0, none⟩) 1 1) (.slice none 0 0) (.slice none 0 0)) := Lib.hid (by
    have hb := ((below_alloc w1 (.cells #[.int .i64 (-1)] 2)).alloc (by simp) (.cells #[.int .i64 (1 + (kk : Int)), .slice (some ⟨w.heap.size + 1, 0, none⟩) 1 1, .slice none 0 0, .slice none 0 0] 28))
    have hr : ∀ i, i < 4 → ∃ u, w1.cell? ⟨w.heap.size, i, none⟩ = some u := fun i hi => by
      rw [exc_cellV he1 (by omega)]
      match i, hi with
      | 0, _ => exact ⟨_, by simp [go_sem]; rfl⟩
      | 1, _ => exact ⟨_, by simp [go_sem]; rfl⟩
      | 2, _ => exact ⟨_, by simp [go_sem]; rfl⟩
      | 3, _ => exact ⟨_, by simp [go_sem]; rfl⟩
    have hzr : ∀ i, w1.frozen? ⟨w.heap.size, i, none⟩ = false := fun i => (World.frozen?_of_block (he1.block w.heap.size (by simp; omega))).trans (by simp [go_sem])
    have hq : w.heap.size + 1 + 1 = (w1.alloc (.cells #[.int .i64 (-1)] 2)).heap.size := by simp; omega
    refine ⟨((Chg.ofBelow (below_alloc w _)).trans he1.chg).compV (Chg.ofBelow (F := []) hb) (by simp), hs1.below hb (by omega), hsz, by simp; omega, fun i hi => ?_, fun i => (hb.frozen (p := ⟨w.heap.size, i, none⟩) (by simp; omega)).trans (hzr i), ?_, ?_, ?_, ?_, fun i => ?_⟩
    · obtain ⟨u, hu⟩ := hr i hi
      exact ⟨u, (bcell1 hb (by omega)).trans hu⟩
    all_goals (rw [hq]; simp [go_sem]))
  have HL1 : Hid (Lst 2 1 ((w1.alloc (.cells #[.int .i64 (-1)] 2)).alloc (.cells #[.int .i64 (1 + (kk : Int)), .slice (some ⟨w.heap.size + 1, 0, none⟩) 1 1, .slice none 0 0, .slice none 0 0] 28)) (w.heap.size + 1) (.slice (some ⟨w.heap.size + 1, 0, none⟩) 1 1) 1 [.i (-1)] [w.heap.size + 1]) := Lib.hid (by
    have h5 : Lst 2 1 (w1.alloc (.cells #[.int .i64 (-1)] 2)) (w.heap.size + 1) (.slice (some ⟨w.heap.size + 1, 0, none⟩) 1 1) 1 [.i (-1)] [w.heap.size + 1] := by
      have h6 := heap_alloc_new w1 (.cells #[.int .i64 (-1)] 2)
      rw [hz1] at h6
      exact ⟨[.int .i64 (-1)], [], ⟨by simp, .inr ⟨w.heap.size + 1, 1, #[.int .i64 (-1)], rfl, Nat.le_refl _, h6, by omega, by simp [maxLen], by simp, by simp⟩⟩, ⟨[], [], ⟨rfl, rfl⟩, rfl, rfl⟩, by simp, by simp, by simp, by simp [ob, Value.ownBlock]⟩
    exact h5.below (below_alloc _ _))
  clear hs1 he1 HS0
  go_wp2_with fail
  refine (HP.out (m + 2) 3 _ HD.out.src (by omega) (by omega)).mono ?_
  rintro e w2 ⟨x, rfl, hx, he2, hs2⟩
  have HD2 := Lib.hid (HD.out.exc he2 hs2)
  have HL2 := Lib.hid (HL1.out.keep he2.chg (fun g hg => by simp at hg ⊢; omega))
  obtain ⟨n1, rfl⟩ : ∃ n1 : Nat, x = (n1 : Int) := ⟨x.toNat, by omega⟩
  have hn1 : n1 ≤ 2 := by omega
  clear he2 hs2 hz1 HD HL1 hx
  go_wp2
  go_loopw [4] (fun i wr => ∃ (r : Nat) (x1 : List Int) (v1 : Value) (G1 : List Nat), r ≤ n1 ∧ i = .int .i64 r ∧ Hid (x1.length + r = n1 + 1) ∧ Hid (1 ≤ x1.length ∧ nth x1 0 = -1 ∧ parsOk x1 = true) ∧ Hid (DrC w s (m + 4 + 2 * (n1 - r)) (1 + (kk : Int)) wr v1 (.slice none 0 0) (.slice none 0 0)) ∧ Hid (Lst 2 1 wr (w.heap.size + 1) v1 x1.length (x1.map .i) G1) ∧ Hid (w.heap.size + 1 + 1 ∉ G1)) (fun i _ => (intOf i).toNat)
  case atStart => exact ⟨n1, [-1], _, _, Nat.le_refl _, rfl, Lib.hid (by simp; omega), Lib.hid (by simp [nth, parsOk]), Lib.hid (HD2.out.more (by omega)), HL2, Lib.hid (by simp)⟩
  case round =>
    obtain ⟨r, x1, v1, G1, hr, rfl, HLN, HPK, HD, HL, HQ⟩ := hrel
    by_cases h0r : 0 < r
    · have h0i : (0 : Int) < r := by omega
      obtain ⟨_, av, cv, rfl⟩ := HL.out.val
      have hs0 : wr.drew.cell? ⟨w.heap.size + 1 + 1, 1, none⟩ = some (.slice av x1.length cv) := HD.out.c1
      have hxl : x1.length ≤ 3 := by have := HLN.out; omega
      have hD0 : DrC w s (m + 4 + 2 * (n1 - r)) (1 + (kk : Int)) wr.drew (.slice av x1.length cv) (.slice none 0 0) (.slice none 0 0) := HD.out.below (Below.refl _ _).drew
      have C := Lib.hid (HP.out _ x1.length wr.drew hD0.src (by omega) (by omega))
      have HD0 := Lib.hid hD0
      have HL0 := Lib.hid (HL.out.below (Below.refl _ _).drew)
      clear hD0
      go_wp2
      rename_i K9 hK9
      refine Code.wp_mono (Q := normV K9) (fun e a w h => by cases e <;> first | exact h | exact h.elim) ?_
      refine wp_region_C (n := 11) (l := #[false, false, false, false, false, false, false, false, false, false, false]) (fun wx => wx.cell? ⟨w.heap.size + 1 + 1, 1, none⟩ = some (.slice av x1.length cv)) [10] (by kernel_rfl) rfl rfl ?_
      refine wpC_take (i := 0) (v := ?v0_1) (l' := #[true, false, false, false, false, false, false, false, false, false, false]) [1, 8, 9, 10] rfl (by kernel_rfl) (by kernel_rfl) (by kernel_rfl) (by kernel_rfl) (by kernel_rfl) rfl (fun _ _ _ h => h) (by rfl) (fun wx hS => ?q0_1) (by assumption) ?_
      case q0_1 => (go_simp; try with_reducible rfl)
      try simp only [List.getElem_toArray, List.getElem_cons_zero, Act.put, List.setIfInBounds_toArray, List.set_cons_zero, List.set_cons_succ]
      refine wpC_take (i := 1) (v := ?v1_2) (l' := #[true, true, false, false, false, false, false, false, false, false, false]) [8, 9, 10] rfl (by kernel_rfl) (by kernel_rfl) (by kernel_rfl) (by kernel_rfl) (by kernel_rfl) rfl (fun _ _ _ h => h) (by rfl) (fun wx hS => ?q1_2) (by assumption) ?_
      case q1_2 => (go_simp; try with_reducible rfl)
      try simp only [List.getElem_toArray, List.getElem_cons_succ, List.getElem_cons_zero, Act.put, List.setIfInBounds_toArray, List.set_cons_zero, List.set_cons_succ]
      refine wpC_take (i := 2) (v := ?v2_3) (l' := #[true, true, true, false, false, false, false, false, false, false, false]) [6, 7, 8, 9, 10] rfl (by kernel_rfl) (by kernel_rfl) (by kernel_rfl) (by kernel_rfl) (by kernel_rfl) rfl (fun _ _ _ h => h) (by rfl) (fun wx hS => ?q2_3) (by assumption) ?_
      case q2_3 => (go_simp; try with_reducible rfl)
      try simp only [List.getElem_toArray, List.getElem_cons_succ, List.getElem_cons_zero, Act.put, List.setIfInBounds_toArray, List.set_cons_zero, List.set_cons_succ]
      refine wpC_take (i := 3) (v := ?v3_4) (l' := #[true, true, true, true, false, false, false, false, false, false, false]) [4, 5, 6, 7, 8, 9, 10] rfl (by kernel_rfl) (by kernel_rfl) (by kernel_rfl) (by kernel_rfl) (by kernel_rfl) rfl (fun _ _ _ h => h) (by rfl) (fun wx hS => ?q3_4) (by assumption) ?_
      case q3_4 => (go_simp; try with_reducible rfl)
      try simp only [List.getElem_toArray, List.getElem_cons_succ, List.getElem_cons_zero, Act.put, List.setIfInBounds_toArray, List.set_cons_zero, List.set_cons_succ]
      refine wpC_take (i := 4) (v := ?v4_5) (l' := #[true, true, true, true, true, false, false, false, false, false, false]) [5, 6, 7, 8, 9, 10] rfl (by kernel_rfl) (by kernel_rfl) (by kernel_rfl) (by kernel_rfl) (by kernel_rfl) rfl (fun _ _ _ h => h) (by rfl) (fun wx hS => ?q4_5) (by assumption) ?_
      case q4_5 => (go_simp; try with_reducible rfl)
      try simp only [List.getElem_toArray, List.getElem_cons_succ, List.getElem_cons_zero, Act.put, List.setIfInBounds_toArray, List.set_cons_zero, List.set_cons_succ]
      refine wpC_take (i := 5) (v := ?v5_6) (l' := #[true, true, true, true, true, true, false, false, false, false, false]) [6, 7, 8, 9, 10] rfl (by kernel_rfl) (by kernel_rfl) (by kernel_rfl) (by kernel_rfl) (by kernel_rfl) rfl (fun _ _ _ h => h) (by rfl) (fun wx hS => ?q5_6) (by assumption) ?_
      case q5_6 => (go_simp; try with_reducible rfl)
      try simp only [List.getElem_toArray, List.getElem_cons_succ, List.getElem_cons_zero, Act.put, List.setIfInBounds_toArray, List.set_cons_zero, List.set_cons_succ]
      refine wpC_one (i := 6) (l' := #[true, true, true, true, true, true, true, false, false, false, false]) (by kernel_rfl) rfl rfl (by rfl) (fun Kr hKr => ?_)
      refine step_callV rfl 18 #[.tmp 21, .tmp 24] _ rfl HRP.out #[.pointer (some ⟨s, 0, none⟩), .int .i64 x1.length] (by first | rfl | (simp [Act.eval]; done) | (simp [Act.eval]; rfl) | (simp [Act.eval]; repeat' constructor)) C.out ?_
      rintro e wA ⟨x, rfl, hx, heA, hsA⟩
      refine ⟨_, rfl, ?_⟩
      have HDA := Lib.hid (HD0.out.exc heA hsA)
      have HLA := Lib.hid (HL0.out.keep heA.chg (fun g hg => by have := (HL0.out.lt g hg).1; simp; omega))
      have hA1 := HDA.out.c1
      refine hKr _ _ (fun _ => hA1) ?_
      clear hKr Kr
      try simp only [List.getElem_toArray, List.getElem_cons_succ, List.getElem_cons_zero, Act.put, List.setIfInBounds_toArray, List.set_cons_zero, List.set_cons_succ]
      refine wpC_one (i := 7) (l' := #[true, true, true, true, true, true, true, true, false, false, false]) (by kernel_rfl) rfl rfl (by rfl) (fun Kr hKr => ?_)
      go_simp
      refine hKr _ _ (fun _ => ((HDA.out.below (below_alloc wA _)).c1)) ?_
      clear hKr Kr
      try simp only [List.getElem_toArray, List.getElem_cons_succ, List.getElem_cons_zero, Act.put, List.setIfInBounds_toArray, List.set_cons_zero, List.set_cons_succ]
      refine wpC_one (i := 8) (l' := #[true, true, true, true, true, true, true, true, true, false, false]) (by kernel_rfl) rfl rfl (by rfl) (fun Kr hKr => ?_)
      refine step_lst rfl (.tmp 20) (.tmp 26) 24 rfl tabI rfl (by omega) (by decide) (w.heap.size + 1) (.slice av x1.length cv) x1.length (x1.map .i) [.i x] G1 [] [.int .i64 x] rfl (HLA.out.below (below_alloc wA _)) wA.heap.size rfl ⟨⟨[], [], ⟨rfl, rfl⟩, rfl, rfl⟩, rfl, by simp, by simp, by simp, fun j u hu => by match j, hu with | 0, hu => (simp at hu; subst hu; simp [go_sem]), by simp [Value.oneCell']⟩ (by omega) (by have := HDA.out.hz; simp; omega) ?_
      intro v7 w7 G7 hN
      obtain ⟨hl7, a7, c7, rfl⟩ := hN.lst.val
      have hDB := HDA.out.below (below_alloc wA (.cells #[.int .i64 x] 2))
      obtain ⟨p1, p2, p3, p4, p5⟩ := Lst.putC (q := w.heap.size + 1 + 1) (i := 1) (HLA.out.below (below_alloc wA _)) hN HQ.out (by simp) (by have := hDB.hz; omega)
      have h71 := (hN.chg.cell (by have := hDB.hz; omega) p5 1).trans hDB.c1
      have h7z := (hN.chg.frozen (by have := hDB.hz; omega) p5 1).trans (hDB.zc 1)
      refine hKr _ _ (fun _ => h71) ?_
      clear hKr Kr
      try simp only [List.getElem_toArray, List.getElem_cons_succ, List.getElem_cons_zero, Act.put, List.setIfInBounds_toArray, List.set_cons_zero, List.set_cons_succ]
      have hs8 := And.intro h71 h7z
      refine wpC_take (i := 9) (v := ?v9_7) (l' := #[true, true, true, true, true, true, true, true, true, true, false]) [10] rfl (by kernel_rfl) (by kernel_rfl) (by kernel_rfl) (by kernel_rfl) (by kernel_rfl) rfl (fun _ _ _ h => h) (by rfl) (fun wx hS => ?q9_7) (by assumption) ?_
      case q9_7 => (go_simp; try with_reducible rfl)
      try simp only [List.getElem_toArray, List.getElem_cons_succ, List.getElem_cons_zero, Act.put, List.setIfInBounds_toArray, List.set_cons_zero, List.set_cons_succ]
      refine wpC_one (i := 10) (l' := #[true, true, true, true, true, true, true, true, true, true, true]) (by kernel_rfl) rfl rfl (by rfl) (fun Kr hKr => ?_)
      go_simp
      refine hKr _ _ (fun h => absurd (by decide) h) ?_
      clear hKr Kr
      try simp only [List.getElem_toArray, List.getElem_cons_succ, List.getElem_cons_zero, Act.put, List.setIfInBounds_toArray, List.set_cons_zero, List.set_cons_succ]
      refine wpC_done (by kernel_rfl) ?_ _
      skip
      refine hK9 _ _ ?_
      have hF7 : ∀ g, g ∈ ob (Value.slice av x1.length cv) → g = s ∨ (w.heap.size + 1 ≤ g ∧ g ≠ w.heap.size + 1 + 1) := fun g hg => .inr ⟨(HL.out.lt g (ob_sub HL.out g hg)).1, fun e => HQ.out (e ▸ ob_sub HL.out g hg)⟩
      have hS7 : SrcE w7 s (m + 4 + 2 * (n1 - (r - 1))) := (hDB.src.chg hN.chg (fun g hg => by have := (HL.out.lt g (ob_sub HL.out g hg)).1; omega)).more (by omega)
      have HD9 := Lib.hid ((hDB.go hN.chg hS7 hF7).set1 (.slice a7 (x1.length + 1) c7))
      have HL9 : Hid (Lst 2 1 (w7.setCell ⟨w.heap.size + 1 + 1, 1, none⟩ (.slice a7 (x1.length + 1) c7)) (w.heap.size + 1) (.slice a7 (x1.length + 1) c7) (x1 ++ [x]).length ((x1 ++ [x]).map .i) G7) := Lib.hid (by simpa using p1)
      have HQ9 := Lib.hid p4
      have HP9 : Hid (1 ≤ (x1 ++ [x]).length ∧ nth (x1 ++ [x]) 0 = -1 ∧ parsOk (x1 ++ [x]) = true) := Lib.hid (by
        obtain ⟨q1, q2, q3⟩ := HPK.out
        exact ⟨by simp, by rw [snoc_nth, if_neg (by omega)]; exact q2, pars_snoc q3 q1 (by omega)⟩)
      have HN9 : Hid ((x1 ++ [x]).length + (r - 1) = n1 + 1) := Lib.hid (by have := HLN.out; simp; omega)
      clear hF7 hS7 hN hDB p1 p2 p3 p4 p5 h71 h7z hs8 hs0 hA1 hK9 heA hsA hl7
      go_wp2
      go_roundw
      case rel => exact ⟨r - 1, x1 ++ [x], _, G7, by omega, by go_num, HN9, HP9, HD9, HL9, HQ9⟩
      case measure => simp [intOf]; omega
    · have h0i : ¬ (0 : Int) < r := by omega
      obtain ⟨_, av, cv, rfl⟩ := HL.out.val
      obtain ⟨u2, hu2⟩ : ∃ u2 : World, u2 = wr := ⟨_, rfl⟩
      subst hu2
      have hx1 : x1.length = n1 + 1 := by have := HLN.out; omega
      obtain ⟨F1, hO1, hn1', hF1⟩ := HL.out.ow (by omega) (by unfold maxLen; omega)
      have HF1 : Hid (∀ g, g ∈ F1 → w.heap.size + 1 ≤ g ∧ g ≠ w.heap.size + 1 + 1 ∧ g < u2.heap.size) := Lib.hid (fun g hg => ⟨(HL.out.lt g (hF1 g hg)).1, fun e => HQ.out (e ▸ hF1 g hg), (HL.out.lt g (hF1 g hg)).2⟩)
      have HO1 : Hid (Ow u2 (dI x1) (.slice av x1.length cv) F1) := Lib.hid hO1
      have HU2 : Hid (w.heap.size + 1 + 1 + 1 ≤ u2.heap.size) := Lib.hid HD.out.hz
      have HD1 : Hid (DrC w s (m + 8) (1 + (kk : Int)) u2 (.slice av x1.length cv) (.slice none 0 0) (.slice none 0 0)) := Lib.hid (HD.out.more (by omega))
      have HX1 := Lib.hid hx1
      have hxl : x1.length ≤ 3 := by omega
      clear hO1 hn1' hF1 HD hx1 HL HQ
      go_wp2
      go_loopw [5] (fun i wr => ∃ (k : Nat) (x2 : List Bool) (v2 : Value) (G2 : List Nat), k ≤ kk + 1 ∧ i = .int .i64 k ∧ Hid (x2.length = k) ∧ Hid (DrC w s (m + 8 + 2 * k) (1 + (kk : Int)) wr (.slice av x1.length cv) v2 (.slice none 0 0)) ∧ Hid (Ow wr (dI x1) (.slice av x1.length cv) F1) ∧ Hid (Lst 4 1 wr u2.heap.size v2 x2.length (x2.map .b) G2) ∧ u2.heap.size ≤ wr.heap.size) (fun i _ => kk + 1 - (intOf i).toNat)
      case atStart => exact ⟨0, [], _, _, Nat.zero_le _, rfl, Lib.hid rfl, HD1, HO1, Lib.hid (Lst.nil _ _ _ _), Nat.le_refl _⟩
      case round =>
        obtain ⟨k, x2, v2, G2, hk, rfl, HLN2, HD, HOW1, HL, hu2z⟩ := hrel
        have q0 := HD.out.c0
        obtain ⟨_, bv, dv, rfl⟩ := HL.out.val
        by_cases hlt : k < kk + 1
        · have hlt' : (k : Int) < 1 + (kk : Int) := by omega
          have hs0 : wr.drew.cell? ⟨w.heap.size + 1 + 1, 2, none⟩ = some (.slice bv x2.length dv) := HD.out.c2
          have hxl2 : x2.length ≤ 3 := by have := HLN2.out; omega
          have hD0 : DrC w s (m + 8 + 2 * k) (1 + (kk : Int)) wr.drew (.slice av x1.length cv) (.slice bv x2.length dv) (.slice none 0 0) := HD.out.below (Below.refl _ _).drew
          have C := Lib.hid (HO.out _ wr.drew hD0.src (by omega))
          have HD0 := Lib.hid hD0
          have HL0 := Lib.hid (HL.out.below (Below.refl _ _).drew)
          clear hD0
          go_wp2
          rename_i K9 hK9
          refine Code.wp_mono (Q := normV K9) (fun e a w h => by cases e <;> first | exact h | exact h.elim) ?_
          refine wp_region_C (n := 8) (l := #[false, false, false, false, false, false, false, false]) (fun wx => wx.cell? ⟨w.heap.size + 1 + 1, 2, none⟩ = some (.slice bv x2.length dv)) [7] (by kernel_rfl) rfl rfl ?_
          refine wpC_take (i := 0) (v := ?v0_8) (l' := #[true, false, false, false, false, false, false, false]) [1, 5, 6, 7] rfl (by kernel_rfl) (by kernel_rfl) (by kernel_rfl) (by kernel_rfl) (by kernel_rfl) rfl (fun _ _ _ h => h) (by rfl) (fun wx hS => ?q0_8) (by assumption) ?_
          case q0_8 => (go_simp; try with_reducible rfl)
          try simp only [List.getElem_toArray, List.getElem_cons_zero, Act.put, List.setIfInBounds_toArray, List.set_cons_zero, List.set_cons_succ]
          refine wpC_take (i := 1) (v := ?v1_9) (l' := #[true, true, false, false, false, false, false, false]) [5, 6, 7] rfl (by kernel_rfl) (by kernel_rfl) (by kernel_rfl) (by kernel_rfl) (by kernel_rfl) rfl (fun _ _ _ h => h) (by rfl) (fun wx hS => ?q1_9) (by assumption) ?_
          case q1_9 => (go_simp; try with_reducible rfl)
          try simp only [List.getElem_toArray, List.getElem_cons_succ, List.getElem_cons_zero, Act.put, List.setIfInBounds_toArray, List.set_cons_zero, List.set_cons_succ]
          refine wpC_take (i := 2) (v := ?v2_10) (l' := #[true, true, true, false, false, false, false, false]) [3, 4, 5, 6, 7] rfl (by kernel_rfl) (by kernel_rfl) (by kernel_rfl) (by kernel_rfl) (by kernel_rfl) rfl (fun _ _ _ h => h) (by rfl) (fun wx hS => ?q2_10) (by assumption) ?_
          case q2_10 => (go_simp; try with_reducible rfl)
          try simp only [List.getElem_toArray, List.getElem_cons_succ, List.getElem_cons_zero, Act.put, List.setIfInBounds_toArray, List.set_cons_zero, List.set_cons_succ]
          refine wpC_one (i := 3) (l' := #[true, true, true, true, false, false, false, false]) (by kernel_rfl) rfl rfl (by rfl) (fun Kr hKr => ?_)
          refine step_callV rfl 20 #[.tmp 37, .const (.int .i64 4)] _ rfl HRO.out #[.pointer (some ⟨s, 0, none⟩), .int .i64 4] (by first | rfl | (simp [Act.eval]; done) | (simp [Act.eval]; rfl) | (simp [Act.eval]; repeat' constructor)) C.out ?_
          rintro e wA ⟨b, rfl, heA, hsA⟩
          refine ⟨_, rfl, ?_⟩
          have HDA := Lib.hid (HD0.out.exc heA hsA)
          have HLA := Lib.hid (HL0.out.keep heA.chg (fun g hg => by have := (HL0.out.lt g hg).1; have := HU2.out; simp; omega))
          have hA1 := HDA.out.c2
          refine hKr _ _ (fun _ => hA1) ?_
          clear hKr Kr
          try simp only [List.getElem_toArray, List.getElem_cons_succ, List.getElem_cons_zero, Act.put, List.setIfInBounds_toArray, List.set_cons_zero, List.set_cons_succ]
          refine wpC_one (i := 4) (l' := #[true, true, true, true, true, false, false, false]) (by kernel_rfl) rfl rfl (by rfl) (fun Kr hKr => ?_)
          go_simp
          refine hKr _ _ (fun _ => ((HDA.out.below (below_alloc wA _)).c2)) ?_
          clear hKr Kr
          try simp only [List.getElem_toArray, List.getElem_cons_succ, List.getElem_cons_zero, Act.put, List.setIfInBounds_toArray, List.set_cons_zero, List.set_cons_succ]
          refine wpC_one (i := 5) (l' := #[true, true, true, true, true, true, false, false]) (by kernel_rfl) rfl rfl (by rfl) (fun Kr hKr => ?_)
          refine step_lst rfl (.tmp 36) (.tmp 39) 25 rfl tabB rfl (by omega) (by decide) u2.heap.size (.slice bv x2.length dv) x2.length (x2.map .b) [.b b] G2 [] [.bool b] rfl (HLA.out.below (below_alloc wA _)) wA.heap.size rfl ⟨⟨[], [], ⟨rfl, rfl⟩, rfl, rfl⟩, rfl, by simp, by simp, by simp, fun j u hu => by match j, hu with | 0, hu => (simp at hu; subst hu; simp [go_sem]), by simp [Value.oneCell']⟩ (by omega) (by have := heA.size; have := hu2z; simp at *; omega) ?_
          intro v7 w7 G7 hN
          obtain ⟨hl7, a7, c7, rfl⟩ := hN.lst.val
          have hDB := HDA.out.below (below_alloc wA (.cells #[.bool b] 4))
          obtain ⟨p1, p2, p3, p4, p5⟩ := Lst.putC (q := w.heap.size + 1 + 1) (i := 2) (HLA.out.below (below_alloc wA _)) hN (fun e => by have := (HL0.out.lt _ e).1; have := HU2.out; omega) (by simp) (by have := hDB.hz; omega)
          have h71 := (hN.chg.cell (by have := hDB.hz; omega) p5 2).trans hDB.c2
          have h7z := (hN.chg.frozen (by have := hDB.hz; omega) p5 2).trans (hDB.zc 2)
          refine hKr _ _ (fun _ => h71) ?_
          clear hKr Kr
          try simp only [List.getElem_toArray, List.getElem_cons_succ, List.getElem_cons_zero, Act.put, List.setIfInBounds_toArray, List.set_cons_zero, List.set_cons_succ]
          have hs8 := And.intro h71 h7z
          refine wpC_take (i := 6) (v := ?v6_11) (l' := #[true, true, true, true, true, true, true, false]) [7] rfl (by kernel_rfl) (by kernel_rfl) (by kernel_rfl) (by kernel_rfl) (by kernel_rfl) rfl (fun _ _ _ h => h) (by rfl) (fun wx hS => ?q6_11) (by assumption) ?_
          case q6_11 => (go_simp; try with_reducible rfl)
          try simp only [List.getElem_toArray, List.getElem_cons_succ, List.getElem_cons_zero, Act.put, List.setIfInBounds_toArray, List.set_cons_zero, List.set_cons_succ]
          refine wpC_one (i := 7) (l' := #[true, true, true, true, true, true, true, true]) (by kernel_rfl) rfl rfl (by rfl) (fun Kr hKr => ?_)
          go_simp
          refine hKr _ _ (fun h => absurd (by decide) h) ?_
          clear hKr Kr
          try simp only [List.getElem_toArray, List.getElem_cons_succ, List.getElem_cons_zero, Act.put, List.setIfInBounds_toArray, List.set_cons_zero, List.set_cons_succ]
          refine wpC_done (by kernel_rfl) ?_ _
          skip
          refine hK9 _ _ ?_
          have hF7 : ∀ g, g ∈ ob (Value.slice bv x2.length dv) → g = s ∨ (w.heap.size + 1 ≤ g ∧ g ≠ w.heap.size + 1 + 1) := fun g hg => .inr (by have := (HL.out.lt g (ob_sub HL.out g hg)).1; have := HU2.out; omega)
          have hS7 : SrcE w7 s (m + 8 + 2 * (k + 1)) := (hDB.src.chg hN.chg (fun g hg => by have := (HL.out.lt g (ob_sub HL.out g hg)).1; have := HU2.out; omega)).more (by omega)
          have HD9 := Lib.hid ((hDB.go hN.chg hS7 hF7).set2 (.slice a7 (x2.length + 1) c7))
          have HL9 : Hid (Lst 4 1 (w7.setCell ⟨w.heap.size + 1 + 1, 2, none⟩ (.slice a7 (x2.length + 1) c7)) u2.heap.size (.slice a7 (x2.length + 1) c7) (x2 ++ [b]).length ((x2 ++ [b]).map .b) G7) := Lib.hid (by simpa using p1)
          have HN9 : Hid ((x2 ++ [b]).length = k + 1) := Lib.hid (by have := HLN2.out; simp; omega)
          have hz9 : u2.heap.size ≤ (w7.setCell ⟨w.heap.size + 1 + 1, 2, none⟩ (.slice a7 (x2.length + 1) c7)).heap.size := Nat.le_trans (by have := heA.size; simp at this ⊢; omega) p2.size
          have HO9 : Hid (Ow (w7.setCell ⟨w.heap.size + 1 + 1, 2, none⟩ (.slice a7 (x2.length + 1) c7)) (dI x1) (.slice av x1.length cv) F1) := Lib.hid (p2.ow (((heA.chg).ow (HOW1.out.below (Below.refl _ _).drew) (fun g hg => by have := HF1.out g hg; simp; omega)).below (below_alloc wA _)) (fun g hg => by
            have h5 := HF1.out g hg
            simp only [List.mem_cons]
            rintro (e | e)
            · omega
            · have := (HL.out.lt g (ob_sub HL.out g e)).1; omega))
          clear hF7 hS7 hN hDB p1 p2 p3 p4 p5 h71 h7z hs8 hs0 hA1 hK9 heA hsA hl7 q0
          go_wp2
          go_roundw
          case rel => exact ⟨k + 1, x2 ++ [b], _, G7, by omega, by go_num, HN9, HD9, HO9, HL9, hz9⟩
          case measure => simp [intOf]; omega
        · have hlt' : ¬ (k : Int) < 1 + (kk : Int) := by omega
          obtain ⟨u3, hu3⟩ : ∃ u3 : World, u3 = wr := ⟨_, rfl⟩
          subst hu3
          have hx2 : x2.length = kk + 1 := by have := HLN2.out; omega
          obtain ⟨F2, hO2, _, hF2⟩ := HL.out.ow (by omega) (by unfold maxLen; omega)
          have HF2 : Hid ((∀ g, g ∈ F1 → w.heap.size + 1 ≤ g ∧ g ≠ w.heap.size + 1 + 1 ∧ g < u3.heap.size) ∧ (∀ g, g ∈ F2 → w.heap.size + 1 ≤ g ∧ g ≠ w.heap.size + 1 + 1 ∧ g < u3.heap.size)) := Lib.hid ⟨fun g hg => by have := HF1.out g hg; omega, fun g hg => by have := HL.out.lt g (hF2 g hg); have := HU2.out; omega⟩
          have HO2 : Hid (Ow u3 (dB x2) (.slice bv x2.length dv) F2) := Lib.hid hO2
          have HU3 : Hid (w.heap.size + 1 + 1 + 1 ≤ u3.heap.size) := Lib.hid HD.out.hz
          have hkl : k ≤ 3 := by omega
          have HD1 : Hid (DrC w s (m + 14) (1 + (kk : Int)) u3 (.slice av x1.length cv) (.slice bv x2.length dv) (.slice none 0 0)) := Lib.hid (HD.out.more (by omega))
          have HX2 := Lib.hid hx2
          have hxl2 : x2.length ≤ 3 := by omega
          have C := Lib.hid (HP.out (m + 14) 4 u3 HD1.out.src (by omega) (by omega))
          clear hO2 hF2 hx2 HD HL hu2z
          go_wp2_with fail
          refine C.out.mono ?_
          rintro e w4 ⟨x, rfl, hx, he4, hs4⟩
          obtain ⟨n3, rfl⟩ : ∃ n3 : Nat, x = (n3 : Int) := ⟨x.toNat, by omega⟩
          have hn3 : n3 ≤ 3 := by omega
          have hw3 : IntKind.i64.wrap (1 + (n3 : Int)) = 1 + (n3 : Int) := by rw [wrap_64]; unfold wrap64; omega
          have HD4 := Lib.hid (HD1.out.exc he4 hs4)
          have hsF : ∀ g, g ∈ F1 ++ F2 → g ≠ s := fun g hg => by
            rcases List.mem_append.1 hg with hg | hg
            · have := HF2.out.1 g hg; omega
            · have := HF2.out.2 g hg; omega
          have HSF := Lib.hid hsF
          have HO14 := Lib.hid (he4.chg.ow HOW1.out (fun g hg => by have := hsF g (by simp [hg]); simpa using this))
          have HO24 := Lib.hid (he4.chg.ow HO2.out (fun g hg => by have := hsF g (by simp [hg]); simpa using this))
          have HZ4 := Lib.hid he4.size
          clear he4 hs4 hx C HD1 HO2 HOW1 hsF q0
          go_wp2
          go_loopw [6, 7] (fun i _ wr => ∃ (r : Nat) (x3 : List PR) (v3 : Value) (G3 : List Nat), r ≤ n3 + 1 ∧ i = .int .i64 r ∧ Hid (x3.length + r ≤ n3 + 1) ∧ Hid (allPR (ruleOk (1 + (kk : Int)) x1.length x2) x3 = true) ∧ Hid (DrC w s (m + 16 + 14 * (n3 + 1 - r)) (1 + (kk : Int)) wr (.slice av x1.length cv) (.slice bv x2.length dv) v3) ∧ Hid (Ow wr (dI x1) (.slice av x1.length cv) F1) ∧ Hid (Ow wr (dB x2) (.slice bv x2.length dv) F2) ∧ Hid (Lst 68 3 wr u3.heap.size v3 x3.length (x3.flatMap PR.ds) G3) ∧ Hid (u3.heap.size ≤ wr.heap.size)) (fun i _ _ => (intOf i).toNat)
          case atStart => exact ⟨n3 + 1, [], _, _, Nat.le_refl _, by go_num, Lib.hid (by simp), Lib.hid (by simp [allPR]), Lib.hid (HD4.out.more (by omega)), HO14, HO24, Lib.hid (Lst.nil _ _ _ _), Lib.hid (Nat.le_of_eq HZ4.out.symm)⟩
          case round =>
            obtain ⟨r, x3, v3, G3, hr, rfl, HLN3, HPR, HD, HA1, HA2, HL, HZ⟩ := hrel
            obtain ⟨_, tv, ev, rfl⟩ := HL.out.val
            have hxl3 : x3.length ≤ 4 := by have := HLN3.out; omega
            by_cases h0r : 0 < r
            · have h0i : (0 : Int) < r := by omega
              have q1 := HD.out.c1
              have C := Lib.hid (HP.out _ x1.length wr HD.out.src (by omega) (by omega))
              go_wp2_with fail
              refine C.out.mono ?_
              rintro e wa ⟨x, rfl, hx, hea, hsa⟩
              have HDb := Lib.hid ((HD.out.exc hea hsa).below (below_alloc wa (.cells #[.int .i64 x, .slice none 0 0, .slice none 0 0] 68)))
              have HCb : Hid (Chg [s] wr (wa.alloc (.cells #[.int .i64 x, .slice none 0 0, .slice none 0 0] 68))) := Lib.hid (hea.chg.trans (Chg.ofBelow (below_alloc wa _)))
              have HZa := Lib.hid hea.size
              have c0b := HDb.out.c0
              have HB := objs_c s _ kk _ HDb.out.src (by omega) hkk
              replace HB := Lib.hid HB
              have hxb : 0 ≤ x ∧ x < x1.length := by have := HX1.out; omega
              have HXB := Lib.hid hxb
              clear hea hsa C q1 hx hxb
              go_wp2_with fail
              refine HB.out.mono ?_
              rintro e wc ⟨o, vo, Fo, rfl, hcc, hoo, hno, hlo, hol, hsc⟩
              obtain ⟨ao, co, rfl⟩ := hoo.val
              have hzb : (wa.alloc (.cells #[.int .i64 x, .slice none 0 0, .slice none 0 0] 68)).heap.size = wa.heap.size + 1 := by simp
              have hsw : s < wa.heap.size := by have := HZa.out; have := HD.out.hz; omega
              have rc : ∀ i, wc.cell? ⟨wa.heap.size, i, none⟩ = (wa.alloc (.cells #[.int .i64 x, .slice none 0 0, .slice none 0 0] 68)).cell? ⟨wa.heap.size, i, none⟩ := fun i => hcc.cell (by omega) (by simp; omega) i
              have r0 : wc.cell? ⟨wa.heap.size, 0, none⟩ = some (.int .i64 x) := (rc 0).trans (by simp [go_sem])
              have r1 : wc.cell? ⟨wa.heap.size, 1, none⟩ = some (.slice none 0 0) := (rc 1).trans (by simp [go_sem])
              have r2 : wc.cell? ⟨wa.heap.size, 2, none⟩ = some (.slice none 0 0) := (rc 2).trans (by simp [go_sem])
              have rz : ∀ i, wc.frozen? ⟨wa.heap.size, i, none⟩ = false := fun i => (hcc.frozen (by omega) (by simp; omega) i).trans (by simp [go_sem])
              have hrb : ∀ (wx : World) (v : Value) (j : Nat), Chg [wa.heap.size] wx (wx.setCell ⟨wa.heap.size, j, none⟩ v) := fun wx v j => chg_set wx ⟨wa.heap.size, j, none⟩ v _ (by simp)
              have hbF : ∀ g, g ∈ [wa.heap.size] → g = s ∨ (w.heap.size + 1 ≤ g ∧ g ≠ w.heap.size + 1 + 1) := fun g hg => by simp at hg; have := HZa.out; have := HD.out.hz; omega
              have HDc := Lib.hid (HDb.out.go hcc hsc (fun g hg => .inl (by simpa using hg)))
              have hsd : SrcE (wc.setCell ⟨wa.heap.size, 1, none⟩ (.slice ao o.length co)) s (m + 16 + 14 * (n3 + 1 - r) + 2 + 6) := hsc.chg (hrb _ _ _) (fun g hg => by simp at hg; omega)
              have HDd := Lib.hid (HDc.out.go (hrb wc (.slice ao o.length co) 1) hsd hbF)
              have HCd : Hid (Chg [s, wa.heap.size] wr (wc.setCell ⟨wa.heap.size, 1, none⟩ (.slice ao o.length co))) := Lib.hid (((HCb.out.trans hcc).wider (by simp)).trans ((hrb _ _ _).wider (by simp)))
              have d0 : (wc.setCell ⟨wa.heap.size, 1, none⟩ (.slice ao o.length co)).cell? ⟨wa.heap.size, 0, none⟩ = some (.int .i64 x) := (World.cell?_setCell_other _ _ _ _ (by simp)).trans r0
              have d1 : (wc.setCell ⟨wa.heap.size, 1, none⟩ (.slice ao o.length co)).cell? ⟨wa.heap.size, 1, none⟩ = some (.slice ao o.length co) := World.cell?_setCell_same _ _ _ r1
              have d2 : (wc.setCell ⟨wa.heap.size, 1, none⟩ (.slice ao o.length co)).cell? ⟨wa.heap.size, 2, none⟩ = some (.slice none 0 0) := (World.cell?_setCell_other _ _ _ _ (by simp)).trans r2
              have HZD : Hid ((wc.setCell ⟨wa.heap.size, 1, none⟩ (.slice ao o.length co)).heap.size = wc.heap.size ∧ wa.heap.size + 1 ≤ wc.heap.size) := Lib.hid ⟨(Exc.setCell _ _ _).size, by have := hcc.size; omega⟩
              have HOO : Hid (Ow (wc.setCell ⟨wa.heap.size, 1, none⟩ (.slice ao o.length co)) (dI o) (.slice ao o.length co) Fo) := Lib.hid ((hrb _ _ _).ow hoo (fun g hg => by have := hlo g hg; simp; omega))
              have HLO : Hid (∀ g, g ∈ Fo → wa.heap.size + 1 ≤ g ∧ g < wc.heap.size) := Lib.hid (fun g hg => ⟨by have := hlo g hg; omega, Ow.lt _ _ _ hoo g hg⟩)
              have HOL := Lib.hid hol
              have HB2 := Lib.hid (objs_c s _ kk _ hsd (by omega) hkk)
              have c0d := HDd.out.c0
              have rz1 := rz 1
              have rzd : ∀ i, (wc.setCell ⟨wa.heap.size, 1, none⟩ (.slice ao o.length co)).frozen? ⟨wa.heap.size, i, none⟩ = false := fun i => by rw [World.frozen?_setCell]; exact rz i
              have RZD := Lib.hid rzd
              clear hcc hoo hlo hol hsc rc r0 r2 rz hsd c0b HB rzd hzb
              go_wp2_with fail
              refine HB2.out.mono ?_
              rintro e we ⟨n, vi, Fi, rfl, hce, hoi, hni, hli, hil, hse⟩
              obtain ⟨ai, ci, rfl⟩ := hoi.val
              obtain ⟨hzd, hzc⟩ := HZD.out
              have ec := fun i => hce.cell (b := wa.heap.size) (by omega) (by simp; omega) i
              have y0 := (ec 0).trans d0
              have y1 := (ec 1).trans d1
              have y2 := (ec 2).trans d2
              have yz := (hce.frozen (b := wa.heap.size) (by omega) (by simp; omega) 2).trans (RZD.out 2)
              have HDe := Lib.hid (HDd.out.go hce hse (fun g hg => .inl (by simpa using hg)))
              have hsf : SrcE (we.setCell ⟨wa.heap.size, 2, none⟩ (.slice ai n.length ci)) s (m + 16 + 14 * (n3 + 1 - (r - 1))) := (hse.chg (hrb _ _ _) (fun g hg => by simp at hg; omega)).more (by omega)
              have HDf := Lib.hid (HDe.out.go (hrb we (.slice ai n.length ci) 2) hsf hbF)
              have HCf : Hid (Chg [s, wa.heap.size] wr (we.setCell ⟨wa.heap.size, 2, none⟩ (.slice ai n.length ci))) := Lib.hid ((HCd.out.trans (hce.wider (by simp))).trans ((hrb _ _ _).wider (by simp)))
              have f0 : (we.setCell ⟨wa.heap.size, 2, none⟩ (.slice ai n.length ci)).cell? ⟨wa.heap.size, 0, none⟩ = some (.int .i64 x) := (World.cell?_setCell_other _ _ _ _ (by simp)).trans y0
              have f1 : (we.setCell ⟨wa.heap.size, 2, none⟩ (.slice ai n.length ci)).cell? ⟨wa.heap.size, 1, none⟩ = some (.slice ao o.length co) := (World.cell?_setCell_other _ _ _ _ (by simp)).trans y1
              have f2 : (we.setCell ⟨wa.heap.size, 2, none⟩ (.slice ai n.length ci)).cell? ⟨wa.heap.size, 2, none⟩ = some (.slice ai n.length ci) := World.cell?_setCell_same _ _ _ y2
              have hno1 : ∀ g, g ∈ Fo → g ∉ [s] := fun g hg => by have := HLO.out g hg; simp; omega
              have HOf : Hid (Ow (we.setCell ⟨wa.heap.size, 2, none⟩ (.slice ai n.length ci)) (dI o) (.slice ao o.length co) Fo) := Lib.hid ((hrb _ _ _).ow (hce.ow HOO.out hno1) (fun g hg => by have := HLO.out g hg; simp; omega))
              have HIf : Hid (Ow (we.setCell ⟨wa.heap.size, 2, none⟩ (.slice ai n.length ci)) (dI n) (.slice ai n.length ci) Fi) := Lib.hid ((hrb _ _ _).ow hoi (fun g hg => by have := hli g hg; simp; omega))
              have HLI : Hid (∀ g, g ∈ Fi → wa.heap.size + 1 ≤ g ∧ wc.heap.size ≤ g) := Lib.hid (fun g hg => by have := hli g hg; omega)
              have hnF : ∀ g, g ∈ F1 ++ F2 → g ∉ [s, wa.heap.size] := fun g hg => by
                have h9 := HSF.out g hg
                have h8 : g < u3.heap.size := by
                  rcases List.mem_append.1 hg with hg | hg
                  · exact (HF2.out.1 g hg).2.2
                  · exact (HF2.out.2 g hg).2.2
                have := HZ.out; have := HZa.out
                simp; omega
              have HB1 := Lib.hid (HCf.out.ow HA1.out (fun g hg => hnF g (by simp [hg])))
              have HB2' := Lib.hid (HCf.out.ow HA2.out (fun g hg => hnF g (by simp [hg])))
              have HLf := Lib.hid (HL.out.keep HCf.out (fun g hg => by have := HL.out.lt g hg; have := HZa.out; have := HZ.out; have := HU3.out; simp; omega))
              have HRC := l06Rule_c (1 + (kk : Int)) x1.length x3.length x2 ⟨x, o, n⟩ ao ai av bv tv co ci cv dv ev (w.heap.size + 1 + 1) wa.heap.size 0 (we.setCell ⟨wa.heap.size, 2, none⟩ (.slice ai n.length ci)) HOf.out.arg HIf.out.arg HB2'.out.argB HDf.out.c0 HDf.out.c1 HDf.out.c2 HDf.out.c3 f0 f1 f2 (by omega) (by omega) (by have := HX2.out; omega)
              have HZW : Hid ((we.setCell ⟨wa.heap.size, 2, none⟩ (.slice ai n.length ci)).heap.size = we.heap.size ∧ wr.heap.size + 1 ≤ we.heap.size ∧ wa.heap.size < we.heap.size) := Lib.hid ⟨(Exc.setCell _ _ _).size, by have := hce.size; have := HZa.out; omega, by have := hce.size; omega⟩
              clear hce hoi hli hil hse ec y0 y1 hsf d0 d1 d2 c0d rz1 HOO HB2 hno1 hnF HDd HDe HCd hrb
              cases hok : ruleOk (1 + (kk : Int)) x1.length x2 ⟨x, o, n⟩
              · rw [hok] at HRC
                replace HRC := Lib.hid HRC
                go_wp2_with fail
                refine HRC.out.mono ?_
                rintro e wg ⟨rfl, hbg⟩
                have HD9 := Lib.hid (HDf.out.below hbg)
                have HA19 := Lib.hid (HB1.out.below hbg)
                have HA29 := Lib.hid (HB2'.out.below hbg)
                have HL9 := Lib.hid (HLf.out.below hbg)
                have HZ9 : Hid (u3.heap.size ≤ wg.heap.size) := Lib.hid (by have := HZ.out; have := hbg.size; have := HZW.out; omega)
                have HN9 : Hid (x3.length + (r - 1) ≤ n3 + 1) := Lib.hid (by have := HLN3.out; omega)
                clear hbg HRC f0 f1 f2
                go_wp2
                go_roundw
                case rel => exact ⟨r - 1, x3, _, G3, by omega, by go_num, HN9, HPR, HD9, HA19, HA29, HL9, HZ9⟩
                case measure => simp [intOf]; omega
              · rw [hok] at HRC
                replace HRC := Lib.hid HRC
                go_wp2_with fail
                refine HRC.out.mono ?_
                rintro e wg ⟨rfl, hbg⟩
                have hbw : wa.heap.size < (we.setCell ⟨wa.heap.size, 2, none⟩ (.slice ai n.length ci)).heap.size := by have := HZW.out; omega
                have g0 := (bcell1 (i := 0) hbg hbw).trans f0
                have g1 := (bcell1 (i := 1) hbg hbw).trans f1
                have g2 := (bcell1 (i := 2) hbg hbw).trans f2
                have HDg := Lib.hid (HDf.out.below hbg)
                have HLg := Lib.hid (HLf.out.below hbg)
                have HOg := Lib.hid (HOf.out.below hbg)
                have HIg := Lib.hid (HIf.out.below hbg)
                have HZg : Hid (u3.heap.size + 1 ≤ wg.heap.size) := Lib.hid (by have := HZ.out; have := hbg.size; have := HZW.out; omega)
                have c3g := HDg.out.c3
                have HROW := Lib.hid (RowAt.prV (B := u3.heap.size) (w4 := wc) (w5 := wg) (E := 68) (x := x) (G := G3) HOg.out HIg.out hno hni (fun g hg => by have := HLO.out g hg; have := HZa.out; have := HZ.out; omega) (fun g hg => by have := HLI.out g hg; have := HZa.out; have := HZ.out; omega) (fun g hg e => by
                  have h9 := (HL.out.lt g e).2
                  rcases List.mem_append.1 hg with hg | hg
                  · have := HLO.out g hg; have := HZa.out; omega
                  · have := HLI.out g hg; have := HZa.out; omega))
                have hbg' := hbg
                clear hbg HRC f0 f1 f2 hbw
                go_wp2_with (at_builtin; refine app_lst rfl _ _ 26 rfl tabPassRuleSM rfl (by omega) (by decide) u3.heap.size _ x3.length (x3.flatMap PR.ds) (PR.mk x o n).ds G3 (Fo ++ Fi) [.int .i64 x, .slice ao o.length co, .slice ai n.length ci] rfl (HLg.out.below (below_alloc _ _)) wg.heap.size rfl HROW.out (by omega) (by have := HZg.out; simp; omega) ?_)
                intro v7 w7 G7 hN
                obtain ⟨_, a7, c7, rfl⟩ := hN.lst.val
                have hDB := HDg.out.below (below_alloc wg (.cells #[.int .i64 x, .slice ao o.length co, .slice ai n.length ci] 68))
                obtain ⟨p1, p2, p3, p4, p5⟩ := Lst.putC (q := w.heap.size + 1 + 1) (i := 3) (HLg.out.below (below_alloc wg _)) hN (fun e => by have := (HLg.out.lt _ e).1; have := HU3.out; omega) (fun e => by
                  rcases List.mem_append.1 e with e | e
                  · have := HLO.out _ e; have := HZa.out; have := HZ.out; have := HU3.out; omega
                  · have := HLI.out _ e; have := HZa.out; have := HZ.out; have := HU3.out; omega) (by have := hDB.hz; omega)
                have h71 := (hN.chg.cell (by have := hDB.hz; omega) p5 3).trans hDB.c3
                have h7z := (hN.chg.frozen (by have := hDB.hz; omega) p5 3).trans (hDB.zc 3)
                have hob : ∀ g, g ∈ ob (Value.slice tv x3.length ev) → u3.heap.size ≤ g := fun g hg => (HL.out.lt g (ob_sub HL.out g hg)).1
                have hF7 : ∀ g, g ∈ ob (Value.slice tv x3.length ev) → g = s ∨ (w.heap.size + 1 ≤ g ∧ g ≠ w.heap.size + 1 + 1) := fun g hg => .inr (by have := hob g hg; have := HU3.out; omega)
                have hS7 := hDB.src.chg hN.chg (fun g hg => by have := hob g hg; have := HU3.out; omega)
                have HD9 := Lib.hid ((hDB.go hN.chg hS7 hF7).set3 (.slice a7 (x3.length + 1) c7))
                have HL9 : Hid (Lst 68 3 (w7.setCell ⟨w.heap.size + 1 + 1, 3, none⟩ (.slice a7 (x3.length + 1) c7)) u3.heap.size (.slice a7 (x3.length + 1) c7) (x3 ++ [PR.mk x o n]).length ((x3 ++ [PR.mk x o n]).flatMap PR.ds) G7) := Lib.hid (by simpa using p1)
                have HN9 : Hid ((x3 ++ [PR.mk x o n]).length + (r - 1) ≤ n3 + 1) := Lib.hid (by have := HLN3.out; simp; omega)
                have hcw : Chg ((w.heap.size + 1 + 1) :: ob (Value.slice tv x3.length ev)) (wg.alloc (.cells #[.int .i64 x, .slice ao o.length co, .slice ai n.length ci] 68)) (w7.setCell ⟨w.heap.size + 1 + 1, 3, none⟩ (.slice a7 (x3.length + 1) c7)) := p2
                have hnF : ∀ g, g ∈ F1 ++ F2 → g ∉ ((w.heap.size + 1 + 1) :: ob (Value.slice tv x3.length ev)) := fun g hg => by
                  have h8 : g ≠ w.heap.size + 1 + 1 ∧ g < u3.heap.size := by
                    rcases List.mem_append.1 hg with hg | hg
                    · exact (HF2.out.1 g hg).2
                    · exact (HF2.out.2 g hg).2
                  simp only [List.mem_cons]
                  rintro (e | e)
                  · exact h8.1 e
                  · have := hob g e; omega
                have HAg1 := Lib.hid (hcw.ow ((HB1.out.below hbg').below (below_alloc wg _)) (fun g hg => hnF g (by simp [hg])))
                have HAg2 := Lib.hid (hcw.ow ((HB2'.out.below hbg').below (below_alloc wg _)) (fun g hg => hnF g (by simp [hg])))
                have HZ9 : Hid (u3.heap.size ≤ (w7.setCell ⟨w.heap.size + 1 + 1, 3, none⟩ (.slice a7 (x3.length + 1) c7)).heap.size) := Lib.hid (by have h4 := hcw.size; have h5 := HZg.out; rw [show (wg.alloc (.cells #[.int .i64 x, .slice ao o.length co, .slice ai n.length ci] 68)).heap.size = wg.heap.size + 1 by simp] at h4; omega)
                have HPR9 := Lib.hid (allPR_snoc HPR.out hok)
                clear hN hDB p1 p2 p3 p4 p5 hob hF7 hS7 hcw hnF hbg' hok g0 g1 g2 c3g
                go_wp2
                go_roundw
                case rel => exact ⟨r - 1, x3 ++ [PR.mk x o n], _, G7, by omega, by go_num, HN9, HPR9, HD9, HAg1, HAg2, HL9, HZ9⟩
                case measure => simp [intOf]; omega
            · have h0i : ¬ (0 : Int) < r := by omega
              obtain ⟨F3, hO3, _, hF3⟩ := HL.out.ow (by omega) (by unfold maxLen; omega)
              have hRET := HD.out.ret HA1.out HA2.out hO3 (fun g hg => by
                rcases List.mem_append.1 hg with hg | hg
                · rcases List.mem_append.1 hg with hg | hg
                  · exact (HF2.out.1 g hg).1
                  · exact (HF2.out.2 g hg).1
                · have := (HL.out.lt g (hF3 g hg)).1; have := HU3.out; omega) (by
                have hh : passHead (1 + (kk : Int)) x1 x2 x3 = true := by
                  have := HX1.out; have := HX2.out; have := HPK.out.2.1
                  simp [passHead, inRg]; omega
                rw [okPass, hh, HPK.out.2.2, HPR.out]; rfl) hkk
              have HRET := Lib.hid hRET
              have q0 := HD.out.c0
              have q1 := HD.out.c1
              have q2 := HD.out.c2
              have q3 := HD.out.c3
              obtain ⟨u0, hu0⟩ := HD.out.r 0 (by omega)
              obtain ⟨u1, hu1⟩ := HD.out.r 1 (by omega)
              obtain ⟨u2', hu2⟩ := HD.out.r 2 (by omega)
              obtain ⟨u3', hu3⟩ := HD.out.r 3 (by omega)
              have z0 := HD.out.zr 0
              have z1 := HD.out.zr 1
              have z2 := HD.out.zr 2
              have z3 := HD.out.zr 3
              have sA := set4 wr w.heap.size (.int .i64 (1 + (kk : Int))) (.slice av x1.length cv) (.slice bv x2.length dv) (.slice tv x3.length ev) hu0 hu1 hu2 hu3
              clear hO3 hF3 hRET
              go_wp2
              refine bodyPost_ret (v := .agg #[.int .i64 (1 + (kk : Int)), .slice av x1.length cv, .slice bv x2.length dv, .slice tv x3.length ev]) (by simp [results, Try.results16, go_sem, sA]) rfl ?_
              obtain ⟨K', y1, y2, y3, w1', w2', w3', E1, E2, E3, g1, g2, g3, g4, g5, g6, g7, g8, g9⟩ := HRET.out
              exact ⟨K', y1, y2, y3, w1', w2', w3', E1, E2, E3, g1, g2, g3.more (by omega), g4, g5, g6, g7, g8, g9⟩
end Go.Proofs.Ytkjmehpehopncaa

/- Contracts of the functions on programs: valid, equal, copied, compared. -/
namespace Go.Proofs.Ytkjmehpehopncaa
open Go.RowKit
end Go.Proofs.Ytkjmehpehopncaa

/- Contracts of the reference's and the laws' functions on programs. -/
namespace Go.Proofs.Ytkjmehpehopncaa
open Go.RowKit

theorem l00In_v {a b c : Int} {v : Bool} (h : inRg a b c = v) (w : World) : Calls Try.prog 51 #[.int .i64 a, .int .i64 b, .int .i64 c] w (RetP w (.bool v)) := by
  subst h; exact l00In_c a b c w
end Go.Proofs.Ytkjmehpehopncaa

/- Configs, as data. Written by rowtype.py. No program is in sight. -/
namespace Go.Proofs.Ytkjmehpehopncaa
open Go.RowKit

/-- A config. -/
structure Cfg where
  pc : Int
  regs : List Int
def Cfg.ds (r : Cfg) : List D := [.i r.pc, dI r.regs]
def zCfg : Cfg := ⟨0, []⟩
def nthCfg (rs : List Cfg) (i : Nat) : Cfg := rs.getD i zCfg
theorem nthCfg_lt {rs : List Cfg} {i : Nat} (h : i < rs.length) : nthCfg rs i = rs[i] := by simp [nthCfg, h]
theorem nthCfg_get {rs : List Cfg} {i : Nat} (h : i < rs.length) : rs[i]? = some (nthCfg rs i) := by simp [nthCfg, h]
def dCS (rs : List Cfg) : D := .l 2 (rs.flatMap Cfg.ds)
/-- The cells of a list of them. -/
structure SlCS (S : Nat → Prop) (w : World) (a : Option Addr) (rs : List Cfg) : Prop where
  len : rs.length ≤ maxLen
  ptr : 0 < rs.length → ∃ g o, a = some ⟨g, o, none⟩
  c0 : ∀ i, i < rs.length → w.cell? (adr a (i * 2)) = some (.int .i64 (nthCfg rs i).pc)
  c1 : ∀ i, i < rs.length → ∃ a' c', w.cell? (adr a (i * 2 + 1)) = some (.slice a' (nthCfg rs i).regs.length c') ∧ SlI S w a' (nthCfg rs i).regs
theorem dCS_len (rs : List Cfg) : (rs.flatMap Cfg.ds).length = rs.length * 2 := row_len Cfg.ds 2 (fun _ => rfl) rs
theorem Rd_CS {S : Nat → Prop} {w : World} {rs : List Cfg} {v : Value} (h : Rd S w (dCS rs) v) : ∃ a c, v = .slice a rs.length c ∧ SlCS S w a rs := by
  obtain ⟨a, c, rfl, hm, hp, HG⟩ := h.row (dCS_len rs) (by omega)
  have key : ∀ i j d, i < rs.length → j < 2 → (nthCfg rs i).ds[j]? = some d → ∃ u, w.cell? (adr a (i * 2 + j)) = some u ∧ Rd S w d u := fun i j d hi hj hd => HG.out w (Below.refl _ _) _ _ (by rw [row_get Cfg.ds 2 (fun _ => rfl) rs i j _ (nthCfg_get hi) hj]; exact hd)
  refine ⟨a, c, rfl, hm, hp, fun i hi => ?_, fun i hi => ?_⟩
  · obtain ⟨u, h1, h2⟩ := key i 0 _ hi (by omega) rfl
    rw [show u = _ from h2] at h1; exact h1
  · obtain ⟨u, h1, h2⟩ := key i 1 _ hi (by omega) rfl
    obtain ⟨a', c', rfl, h3⟩ := Rd_I.1 h2
    exact ⟨a', c', h1, h3⟩
theorem fitD_CS {d : D} (h : Fit (.l [.i, .l [.i]]) d) : ∃ rs, d = dCS rs := by
  obtain ⟨rows, rfl, hr⟩ := h
  have key : ∀ rows : List (List D), (∀ r, r ∈ rows → FitL [.i, .l [.i]] r) → ∃ rs : List Cfg, rows.flatten = rs.flatMap Cfg.ds := by
    intro rows
    induction rows with
    | nil => intro _; exact ⟨[], rfl⟩
    | cons r rows ih =>
      intro h
      obtain ⟨rs, e⟩ := ih (fun r hr => h r (by simp [hr]))
      obtain ⟨_, r0, e0, ⟨n0, rfl⟩, h0⟩ := h r (by simp)
      subst e0
      obtain ⟨_, r1, e1, f1, h1⟩ := h0
      subst e1
      obtain ⟨n1, rfl⟩ := fitD_I f1
      rw [show r1 = [] from h1]
      exact ⟨⟨n0, n1⟩ :: rs, by simp [e, Cfg.ds]⟩
  obtain ⟨rs, e⟩ := key rows hr
  exact ⟨rs, by rw [e]; rfl⟩
theorem fit_dCS (rs : List Cfg) : Fit (.l [.i, .l [.i]]) (dCS rs) := by
  refine ⟨rs.map Cfg.ds, ?_, fun r hr => ?_⟩
  · simp only [dCS]; congr 1
  · obtain ⟨x, _, rfl⟩ := List.mem_map.1 hr
    exact ⟨_, _, rfl, ⟨_, rfl⟩, ⟨_, _, rfl, fit_dI _, rfl⟩⟩
end Go.Proofs.Ytkjmehpehopncaa

/- The laws' functions on orders, programs and configs: by shape. Written by tygen.py. -/
namespace Go.Proofs.Ytkjmehpehopncaa
open Go.RowKit
end Go.Proofs.Ytkjmehpehopncaa

/- The greedy packing: both functions. -/
namespace Go.Proofs.Ytkjmehpehopncaa
open Go.RowKit

theorem codeS_zeros (kinds : Int) (ps : List (List Int)) : codeS kinds ps (List.replicate ps.length 0) = askS kinds ps := by
  have h : cntsOk ps.length (List.replicate ps.length 0) = true := cntsOk_true (by simp) (fun j hj => by simp [nth, hj, cntOk, inRg])
  unfold codeS
  rw [if_pos h]
  split
  · rename_i h2; rw [h2]
  · rfl
theorem len_of_volII {xs : List (List Int)} (h : vol (dII xs) ≤ 16777216) : xs.length ≤ 16777216 := by
  have := volL_len (xs.map dI)
  simp only [List.length_map] at this
  exact Nat.le_trans this h
end Go.Proofs.Ytkjmehpehopncaa

/- Orders: which data are such a list. -/
namespace Go.Proofs.Ytkjmehpehopncaa
open Go.RowKit

theorem fitD_O {d : D} (h : Fit (.l [.i, .i, .i, .i]) d) : ∃ rs, d = dO rs := by
  obtain ⟨rows, rfl, hr⟩ := h
  have key : ∀ rows : List (List D), (∀ r, r ∈ rows → FitL [.i, .i, .i, .i] r) → ∃ rs : List Ord, rows.flatten = rs.flatMap Ord.ds := by
    intro rows
    induction rows with
    | nil => intro _; exact ⟨[], rfl⟩
    | cons r rows ih =>
      intro h
      obtain ⟨rs, e⟩ := ih (fun r hr => h r (by simp [hr]))
      obtain ⟨_, r0, e0, ⟨n0, rfl⟩, h0⟩ := h r (by simp)
      subst e0
      obtain ⟨_, r1, e1, ⟨n1, rfl⟩, h1⟩ := h0
      subst e1
      obtain ⟨_, r2, e2, ⟨n2, rfl⟩, h2⟩ := h1
      subst e2
      obtain ⟨_, r3, e3, ⟨n3, rfl⟩, h3⟩ := h2
      subst e3
      rw [show r3 = [] from h3]
      exact ⟨⟨n0, n1, n2, n3⟩ :: rs, by simp [e, Ord.ds]⟩
  obtain ⟨rs, e⟩ := key rows hr
  exact ⟨rs, by rw [e]; rfl⟩
theorem fit_dO (rs : List Ord) : Fit (.l [.i, .i, .i, .i]) (dO rs) := by
  refine ⟨rs.map Ord.ds, ?_, fun r hr => ?_⟩
  · simp only [dO]; congr 1
  · obtain ⟨x, _, rfl⟩ := List.mem_map.1 hr
    exact ⟨_, _, rfl, ⟨_, rfl⟩, ⟨_, _, rfl, ⟨_, rfl⟩, ⟨_, _, rfl, ⟨_, rfl⟩, ⟨_, _, rfl, ⟨_, rfl⟩, rfl⟩⟩⟩⟩
end Go.Proofs.Ytkjmehpehopncaa

/- Configs that follow: what they are, and what is looked at. -/
namespace Go.Proofs.Ytkjmehpehopncaa
open Go.RowKit

def haltS (os : List Ord) (at_ : Int) : Bool := (at_ == (os.length : Int)) || ((nthO os at_.toNat).op == 3)
def regsOk (R : Int) (regs : List Int) : Bool := ((regs.length : Int) == R) && allB cntOk regs
def confOk (R : Int) (n : Nat) (pc : Int) (regs : List Int) : Bool := inRg pc 0 n && regsOk R regs
/-- The configs that can follow by an order, and a code. -/
def nextO (o : Ord) (regs : List Int) : List Cfg × Int :=
  if o.op = 2 then (if 0 < nth regs o.reg.toNat then ([⟨o.to, regs.set o.reg.toNat (nth regs o.reg.toNat - 1)⟩], 0) else ([⟨o.els, regs⟩], 0))
  else if nth regs o.reg.toNat = 1000 then ([], 3)
  else (if o.els = o.to then [⟨o.to, regs.set o.reg.toNat (nth regs o.reg.toNat + 1)⟩] else [⟨o.to, regs.set o.reg.toNat (nth regs o.reg.toNat + 1)⟩, ⟨o.els, regs.set o.reg.toNat (nth regs o.reg.toNat + 1)⟩], 0)
def nextS (os : List Ord) (pc : Int) (regs : List Int) : List Cfg × Int := if haltS os pc = true then ([], 0) else nextO (nthO os pc.toNat) regs
def nextConfigsS (R : Int) (os : List Ord) (pc : Int) (regs : List Int) : List Cfg × Int :=
  if validProgS R os = true then (if confOk R os.length pc regs = true then nextS os pc regs else ([], 2)) else ([], 1)
theorem regsOk_ok {R : Int} {regs : List Int} (h : regsOk R regs = true) : (regs.length : Int) = R ∧ small regs := by
  simp only [regsOk, Bool.and_eq_true] at h
  refine ⟨by simpa using h.1, fun j hj => ?_⟩
  have := allB_at h.2 hj
  simpa [cntOk, inRg] using this
/- Configs that follow: the program's functions. -/
/-- A number in a list of one's own is replaced. -/
theorem OwI.set {w : World} {a : Option Addr} {xs : List Int} {F : List Nat} (h : OwI w a xs F) {i : Nat} (hi : i < xs.length) (x : Int) : OwI (w.setCell (adr a i) (.int .i64 x)) a (xs.set i x) F := by
  refine ⟨by simpa using h.len, ?_, fun j hj => ?_, fun j hj => by rw [World.frozen?_setCell]; exact h.free j (by simpa using hj)⟩
  · rcases h.foot with ⟨rfl, _⟩ | ⟨h1, h2, h3⟩
    · simp at hi
    · exact .inr ⟨fun e => h1 (List.eq_nil_of_length_eq_zero (by have := congrArg List.length e; simpa using this)), h2, h3⟩
  · simp only [List.length_set] at hj
    by_cases e : j = i
    · subst e
      rw [World.cell?_setCell_same _ _ _ (h.cell j hj)]
      simp [nth, hj]
    · rw [World.cell?_setCell_other _ _ _ _ (by intro e'; simp [adr] at e'; omega), h.cell j hj]
      simp [nth, Ne.symm e]
theorem OwI.blk {w : World} {a : Option Addr} {xs : List Int} {F : List Nat} (h : OwI w a xs F) (h0 : 0 < xs.length) : (∃ g o, a = some ⟨g, o, none⟩) ∧ F = [blk a] := by
  rcases h.foot with ⟨rfl, _⟩ | ⟨_, h2, h3⟩
  · simp at h0
  · exact ⟨h2, h3⟩
/- Configs that follow: the program's function. -/
theorem Lst.cfg1 {E : TypeId} {w3 : World} {B : Nat} {sl : Value} {xs : List Int} {F : List Nat} (ho : Ow w3 (dI xs) sl F) (hn : F.Nodup) (hF : ∀ g, g ∈ F → B ≤ g) (hB : B ≤ w3.heap.size) (a : Int) :
    Lst E 2 (w3.alloc (.cells #[.int .i64 a, sl] E)) B (.slice (some ⟨w3.heap.size, 0, none⟩) 1 1) 1 [.i a, dI xs] (w3.heap.size :: F) := by
  refine ⟨[.int .i64 a, sl], F, ⟨by simp, .inr ⟨w3.heap.size, 1, #[.int .i64 a, sl], rfl, hB, heap_alloc_new w3 _, by omega, by simp [maxLen], by simp, by simp⟩⟩, ⟨[], F, ⟨rfl, rfl⟩, ⟨F, [], ho.below (below_alloc _ _), rfl, by simp⟩, by simp⟩, hn, hF, fun g hg hg2 => ?_, rfl⟩
  have h1 := Ow.lt _ _ _ ho g hg2
  have h2 : g = w3.heap.size := by simpa [ob, Value.ownBlock] using hg
  omega
theorem RetDC.noneC {w w' : World} (a : Option Addr) (c : Nat) (code : Int) (hb : Below w.heap.size w w') : RetDC w (dCS []) code (.returned (.tuple #[.slice a 0 c, .int .i64 code])) w' :=
  ⟨_, [], rfl, hb, Ow_empty _ _ _ _, by simp, by simp⟩
theorem RetDC.ofLst {E : TypeId} {w w' : World} {v : Value} {n : Nat} {ds : List D} {G : List Nat} {cs : List Cfg} (code : Int) (h : Lst E 2 w' w.heap.size v n ds G) (_hn : n = cs.length) (hds : ds = cs.flatMap Cfg.ds) (hb : Below w.heap.size w w') (hl : n ≤ maxLen := by simp [maxLen]) : RetDC w (dCS cs) code (.returned (.tuple #[v, .int .i64 code])) w' := by
  obtain ⟨G', ho, hN, hS⟩ := h.ow (by omega) hl
  subst hds
  exact ⟨v, G', rfl, hb, ho, hN, fun g hg => (h.lt g (hS g hg)).1⟩
theorem set_same {xs : List Int} {i : Nat} (h : i < xs.length) : xs.set i (nth xs i) = xs := by
  rw [nth_lt h]; exact List.set_getElem_self h
/- Configs that follow: the exported function, and what the reference looks at. -/
/- Configs that follow: the reference's functions. -/
/-- The call returns a datum in memory of its own, and says whether all is well. -/
def RetDB (w : World) (d : D) (ok : Bool) (e : Ending) (w' : World) : Prop := ∃ v F, e = .returned (.tuple #[v, .bool ok]) ∧ Below w.heap.size w w' ∧ Ow w' d v F ∧ F.Nodup ∧ ∀ g, g ∈ F → w.heap.size ≤ g
theorem RetDB.none {w w' : World} (a : Option Addr) (c : Nat) (ok : Bool) (hb : Below w.heap.size w w') : RetDB w (dCS []) ok (.returned (.tuple #[.slice a 0 c, .bool ok])) w' :=
  ⟨_, [], rfl, hb, Ow_empty _ _ _ _, by simp, by simp⟩
theorem RetDB.ofLst {E : TypeId} {w w' : World} {v : Value} {n : Nat} {ds : List D} {G : List Nat} {cs : List Cfg} (ok : Bool) (h : Lst E 2 w' w.heap.size v n ds G) (hds : ds = cs.flatMap Cfg.ds) (hb : Below w.heap.size w w') (hl : n ≤ maxLen := by simp [maxLen]) : RetDB w (dCS cs) ok (.returned (.tuple #[v, .bool ok])) w' := by
  obtain ⟨G', ho, hN, hS⟩ := h.ow (by omega) hl
  subst hds
  exact ⟨v, G', rfl, hb, ho, hN, fun g hg => (h.lt g (hS g hg)).1⟩
/- Configs that follow: the reference's exported function, and how much a result holds. -/
theorem nextO_code (o : Ord) (regs : List Int) : (nextO o regs).2 = 0 ∨ ((nextO o regs).1 = [] ∧ (nextO o regs).2 = 3) := by
  unfold nextO
  split
  · split <;> simp
  · split <;> simp
theorem nextS_code (os : List Ord) (pc : Int) (regs : List Int) : (nextS os pc regs).2 = 0 ∨ ((nextS os pc regs).1 = [] ∧ (nextS os pc regs).2 = 3) := by
  unfold nextS
  split
  · simp
  · exact nextO_code _ _
theorem cfgs_cnt : ∀ (cs : List Cfg) (m : Nat), (∀ c, c ∈ cs → c.regs.length ≤ m) → cnt (dCS cs) ≤ cs.length * (m + 1)
  | [], m, _ => by simp [dCS, cnt, cntL]
  | c :: cs, m, h => by
    have h1 := cfgs_cnt cs m fun x hx => h x (by simp [hx])
    have h2 := h c (by simp)
    have h3 : cnt (dCS (c :: cs)) = 1 + (c.regs.length + cnt (dCS cs)) := by
      simp only [dCS, cnt, List.flatMap_cons, Cfg.ds, List.cons_append, List.nil_append, cntL, cntL_ints, dI] <;> omega
    rw [h3]
    simp only [List.length_cons, Nat.add_mul]
    omega
theorem nextO_small (o : Ord) (regs : List Int) : (nextO o regs).1.length ≤ 2 ∧ ∀ c, c ∈ (nextO o regs).1 → c.regs.length = regs.length := by
  unfold nextO
  split
  · split <;> simp
  · split
    · simp
    · split <;> simp
theorem nextS_small (os : List Ord) (pc : Int) (regs : List Int) : (nextS os pc regs).1.length ≤ 2 ∧ ∀ c, c ∈ (nextS os pc regs).1 → c.regs.length = regs.length := by
  unfold nextS
  split
  · simp
  · exact nextO_small _ _
theorem nextConfigs_cnt (R : Int) (os : List Ord) (pc : Int) (regs : List Int) : cnt (dCS (nextConfigsS R os pc regs).1) ≤ 16777216 := by
  unfold nextConfigsS
  split
  · rename_i hv
    split
    · rename_i hc
      have hR : 1 ≤ R ∧ R ≤ 3 := by simp [validProgS, inRg] at hv; omega
      have hRg := regsOk_ok (show regsOk R regs = true by simp only [confOk, Bool.and_eq_true] at hc; exact hc.2)
      have h1 := nextS_small os pc regs
      have h2 := cfgs_cnt (nextS os pc regs).1 3 fun c hcx => by have := h1.2 c hcx; omega
      omega
    · simp [dCS, cnt, cntL]
  · simp [dCS, cnt, cntL]
end Go.Proofs.Ytkjmehpehopncaa

/- Runs of a program: what they are. -/
namespace Go.Proofs.Ytkjmehpehopncaa
open Go.RowKit

/-- An order that leaves a choice. -/
def choice (o : Ord) : Bool := (o.op == 1) && (o.to != o.els)
/-- The first config that can follow. -/
def firstS (os : List Ord) (c : Cfg) : Cfg := (nextS os c.pc c.regs).1.headD zCfg
/-- The configs that a run meets, and a code. -/
def runC (os : List Ord) : Nat → Cfg → List Cfg × Int
  | 0, c => ([c], 0)
  | k + 1, c => if haltS os c.pc = true then ([c], 0) else if choice (nthO os c.pc.toNat) = true then ([c], 4)
      else if (nextS os c.pc c.regs).2 = 0 then (c :: (runC os k (firstS os c)).1, (runC os k (firstS os c)).2) else ([c], 3)
/-- The last config, how many steps, and a code. -/
def runE (os : List Ord) : Nat → Nat → Cfg → Cfg × Int × Int
  | 0, n, c => (c, n, 0)
  | k + 1, n, c => if haltS os c.pc = true then (c, n, 0) else if choice (nthO os c.pc.toNat) = true then (zCfg, 0, 4)
      else if (nextS os c.pc c.regs).2 = 0 then runE os k (n + 1) (firstS os c) else (zCfg, 0, 3)
theorem runC_pos (os : List Ord) : ∀ (k : Nat) (c : Cfg), 0 < (runC os k c).1.length
  | 0, _ => by simp [runC]
  | k + 1, c => by unfold runC; repeat (split <;> try simp)
theorem runC_len (os : List Ord) : ∀ (k : Nat) (c : Cfg), (runC os k c).1.length ≤ k + 1
  | 0, _ => by simp [runC]
  | k + 1, c => by
    have := runC_len os k (firstS os c)
    unfold runC
    repeat (split <;> try (simp; done))
    simp; omega
theorem runE_runC (os : List Ord) : ∀ (k n : Nat) (c : Cfg), runE os k n c = if (runC os k c).2 = 0 then ((runC os k c).1.getLastD zCfg, (n : Int) + ((runC os k c).1.length : Int) - 1, 0) else (zCfg, 0, (runC os k c).2)
  | 0, n, c => by simp [runE, runC]
  | k + 1, n, c => by
    unfold runE runC
    by_cases h1 : haltS os c.pc = true
    · simp [h1]
    · by_cases h2 : choice (nthO os c.pc.toNat) = true
      · simp [h1, h2]
      · by_cases h3 : (nextS os c.pc c.regs).2 = 0
        · have ih := runE_runC os k (n + 1) (firstS os c)
          have hp := runC_pos os k (firstS os c)
          simp only [h1, h2, h3, if_true, ih]
          by_cases h4 : (runC os k (firstS os c)).2 = 0
          · simp only [h4, if_true]
            have e1 : (c :: (runC os k (firstS os c)).1).getLastD zCfg = (runC os k (firstS os c)).1.getLastD zCfg := by
              match h : (runC os k (firstS os c)).1, hp with
              | x :: l, _ => simp [List.getLastD]
            simp only [Bool.false_eq_true, if_false, e1, List.length_cons]
            congr 2
            omega
          · simp [h4]
        · simp [h1, h2, h3]
/-- A valid program never leaves itself. -/
theorem set_cnt {regs : List Int} {i : Nat} {v : Int} {R : Int} (h : regsOk R regs = true) (hv : 0 ≤ v ∧ v ≤ 1000) : regsOk R (regs.set i v) = true := by
  simp only [regsOk, Bool.and_eq_true] at h ⊢
  refine ⟨by simpa using h.1, ?_⟩
  rw [allB, List.all_eq_true] at *
  intro x hx
  rcases List.mem_or_eq_of_mem_set hx with hx | rfl
  · exact h.2 x hx
  · simp [cntOk, inRg]; omega
theorem nextS_ok {R : Int} {os : List Ord} {pc : Int} {regs : List Int} (hvp : validProgS R os = true) (hcf : confOk R os.length pc regs = true) :
    ∀ c, c ∈ (nextS os pc regs).1 → confOk R os.length c.pc c.regs = true := by
  unfold nextS
  split
  · simp
  · rename_i hh
    have hR : 1 ≤ R ∧ R ≤ 3 ∧ 1 ≤ os.length ∧ os.length ≤ 6 := by simp [validProgS, inRg] at hvp; omega
    have hP : 0 ≤ pc ∧ pc ≤ os.length := by simp [confOk, inRg] at hcf; omega
    have hRg' : regsOk R regs = true := by simp only [confOk, Bool.and_eq_true] at hcf; exact hcf.2
    have hRg := regsOk_ok hRg'
    have hne : pc ≠ os.length ∧ (nthO os pc.toNat).op ≠ 3 := by simp [haltS] at hh; exact hh
    have hlt : pc < os.length := by omega
    have hok : okOrd R os.length (nthO os pc.toNat) = true := by
      simp only [validProgS, Bool.and_eq_true] at hvp
      have h := hvp.2
      rw [allO, List.all_eq_true] at h
      rw [nthO_lt (by omega)]; exact h _ (List.getElem_mem (by omega))
    have hop : ((nthO os pc.toNat).op = 1 ∨ (nthO os pc.toNat).op = 2) ∧ (0 ≤ (nthO os pc.toNat).reg ∧ (nthO os pc.toNat).reg < R) ∧ (0 ≤ (nthO os pc.toNat).to ∧ (nthO os pc.toNat).to ≤ os.length) ∧ (0 ≤ (nthO os pc.toNat).els ∧ (nthO os pc.toNat).els ≤ os.length) := by
      unfold okOrd at hok
      split at hok
      · rename_i h; simp [inRg] at hok; exact ⟨h, by omega, by omega, by omega⟩
      · simp at hok; exact absurd hok.1 hne.2
    have hvv := hRg.2 (nthO os pc.toNat).reg.toNat (by omega)
    have ht : inRg (nthO os pc.toNat).to 0 os.length = true := by simp [inRg]; omega
    have he : inRg (nthO os pc.toNat).els 0 os.length = true := by simp [inRg]; omega
    unfold nextO
    split
    · split
      · intro c hc
        simp at hc; subst hc
        simp only [confOk, ht, Bool.true_and]
        exact set_cnt hRg' (by omega)
      · intro c hc
        simp at hc; subst hc
        simp only [confOk, he, Bool.true_and]
        exact hRg'
    · split
      · simp
      · split
        · intro c hc
          simp at hc; subst hc
          simp only [confOk, ht, Bool.true_and]
          exact set_cnt hRg' (by omega)
        · intro c hc
          simp at hc
          rcases hc with rfl | rfl
          · simp only [confOk, ht, Bool.true_and]
            exact set_cnt hRg' (by omega)
          · simp only [confOk, he, Bool.true_and]
            exact set_cnt hRg' (by omega)
theorem nextS_some {os : List Ord} {pc : Int} {regs : List Int} (hh : haltS os pc = false) (h0 : (nextS os pc regs).2 = 0) : 0 < (nextS os pc regs).1.length := by
  unfold nextS at *
  rw [if_neg (by rw [hh]; simp)] at *
  unfold nextO at *
  split
  · split <;> simp
  · rename_i h2
    rw [if_neg h2] at h0
    split
    · rename_i h3
      rw [if_pos h3] at h0
      simp at h0
    · split <;> simp
theorem firstS_get {os : List Ord} {c : Cfg} (h : 0 < (nextS os c.pc c.regs).1.length) : firstS os c = nthCfg (nextS os c.pc c.regs).1 0 ∧ firstS os c ∈ (nextS os c.pc c.regs).1 := by
  unfold firstS nthCfg
  match (nextS os c.pc c.regs).1, h with
  | x :: l, _ => simp
theorem firstS_ok {R : Int} {os : List Ord} {c : Cfg} (hvp : validProgS R os = true) (hcf : confOk R os.length c.pc c.regs = true) (hh : haltS os c.pc = false) (h0 : (nextS os c.pc c.regs).2 = 0) : confOk R os.length (firstS os c).pc (firstS os c).regs = true :=
  nextS_ok hvp hcf _ (firstS_get (nextS_some hh h0)).2
theorem runE_halt {os : List Ord} {k n : Nat} {c : Cfg} (h : haltS os c.pc = true) : runE os k n c = (c, (n : Int), 0) := by cases k <;> simp [runE, h]
theorem runE_choice {os : List Ord} {k n : Nat} {c : Cfg} (h : haltS os c.pc = false) (h2 : choice (nthO os c.pc.toNat) = true) : runE os (k + 1) n c = (zCfg, 0, 4) := by simp [runE, h, h2]
theorem runE_stuck {os : List Ord} {k n : Nat} {c : Cfg} (h : haltS os c.pc = false) (h2 : choice (nthO os c.pc.toNat) = false) (h3 : (nextS os c.pc c.regs).2 = 3) : runE os (k + 1) n c = (zCfg, 0, 3) := by simp [runE, h, h2, h3]
theorem runE_step {os : List Ord} {k n : Nat} {c : Cfg} (h : haltS os c.pc = false) (h2 : choice (nthO os c.pc.toNat) = false) (h3 : (nextS os c.pc c.regs).2 = 0) : runE os (k + 1) n c = runE os k (n + 1) (firstS os c) := by simp [runE, h, h2, h3]
/-- What the registers and the steps are refused for. -/
def askRun (R : Int) (os : List Ord) (regs : List Int) (steps : Int) : Int := if validProgS R os = true then (if regsOk R regs = true ∧ inRg steps 0 200 = true then 0 else 2) else 1
def runP (R : Int) (os : List Ord) (regs : List Int) (steps : Int) : Cfg × Int × Int :=
  if askRun R os regs steps = 0 then runE os steps.toNat 0 ⟨0, regs⟩ else (zCfg, 0, askRun R os regs steps)
/-- The call returns a row in memory of its own, a number and a code. -/
def RetACC (w : World) (ds : List D) (n code : Int) (e : Ending) (w' : World) : Prop := ∃ vs F, e = .returned (.tuple #[.agg ⟨vs⟩, .int .i64 n, .int .i64 code]) ∧ Below w.heap.size w w' ∧ OwA w' ds vs F ∧ F.Nodup ∧ ∀ g, g ∈ F → w.heap.size ≤ g
theorem RetACC.zero {w w' : World} (n code : Int) (hb : Below w.heap.size w w') : RetACC w zCfg.ds n code (.returned (.tuple #[.agg #[.int .i64 0, .slice none 0 0], .int .i64 n, .int .i64 code])) w' :=
  ⟨[.int .i64 0, .slice none 0 0], [], rfl, hb, ⟨[], _, ⟨rfl, rfl⟩, ⟨[], [], Ow_empty _ _ _ _, rfl, rfl⟩, rfl⟩, by simp, by simp⟩
theorem start_ok {R : Int} {os : List Ord} {regs : List Int} (h : regsOk R regs = true) : confOk R os.length 0 regs = true := by simp [confOk, inRg, h]

/- Runs of a program: the program's. Written by mknj.py. -/
theorem Ow.cfgAt {w : World} {cs : List Cfg} {v : Value} {F : List Nat} (h : Ow w (dCS cs) v F) (hn : F.Nodup) {i : Nat} (hi : i < cs.length) :
    ∃ g o c a' c' F', v = .slice (some ⟨g, o, none⟩) cs.length c ∧ w.cell? ⟨g, o + i * 2, none⟩ = some (.int .i64 (nthCfg cs i).pc) ∧ w.cell? ⟨g, o + (i * 2 + 1), none⟩ = some (.slice a' (nthCfg cs i).regs.length c') ∧
      Ow w (dI (nthCfg cs i).regs) (.slice a' (nthCfg cs i).regs.length c') F' ∧ F'.Nodup ∧ ∀ x, x ∈ F' → x ∈ F := by
  obtain ⟨a, m, c, rfl, hl, _, hr⟩ := h
  rw [dCS_len] at hl
  obtain rfl : m = cs.length := by omega
  rcases hr with ⟨h0, _⟩ | ⟨g, o, F0, rfl, _, rfl, hr⟩
  · have := dCS_len cs; rw [h0] at this; simp at this; omega
  · have hg : g ∉ F0 := (List.nodup_cons.1 hn).1
    have hn0 : F0.Nodup := (List.nodup_cons.1 hn).2
    have key : ∀ j, j < 2 → (cs.flatMap Cfg.ds)[i * 2 + j]? = (nthCfg cs i).ds[j]? := fun j hj => row_get Cfg.ds 2 (fun _ => rfl) cs i j _ (nthCfg_get hi) hj
    obtain ⟨v0, f0, c0, _, o0, _⟩ := OwL.at _ _ _ _ hr hg hn0 (i * 2) (.i (nthCfg cs i).pc) (by have := key 0 (by omega); simpa [Cfg.ds] using this)
    obtain ⟨v1, f1, c1, _, o1, n1, s1, _⟩ := OwL.at _ _ _ _ hr hg hn0 (i * 2 + 1) (dI (nthCfg cs i).regs) (by have := key 1 (by omega); simpa [Cfg.ds] using this)
    obtain ⟨a', c', rfl, _⟩ := Ow_I.1 o1
    obtain ⟨rfl, _⟩ := o0
    exact ⟨g, o, c, a', c', f1, rfl, c0, c1, o1, n1, fun x hx => by simp [s1 x hx]⟩
theorem setA (w : World) (b : Nat) (v0 v1 : Value) {u0 u1 : Value} (h0 : w.cell? ⟨b, 0, none⟩ = some u0) (h1 : w.cell? ⟨b, 1, none⟩ = some u1) :
    ((w.setCell ⟨b, 0, none⟩ v0).setCell ⟨b, 1, none⟩ v1).cell? ⟨b, 0, none⟩ = some v0 ∧ ((w.setCell ⟨b, 0, none⟩ v0).setCell ⟨b, 1, none⟩ v1).cell? ⟨b, 1, none⟩ = some v1 ∧ (w.setCell ⟨b, 0, none⟩ v0).cell? ⟨b, 0, none⟩ = some v0 := by
  have e0 : (w.setCell ⟨b, 0, none⟩ v0).cell? ⟨b, 0, none⟩ = some v0 := World.cell?_setCell_same _ _ _ h0
  have e1 : (w.setCell ⟨b, 0, none⟩ v0).cell? ⟨b, 1, none⟩ = some u1 := by rw [World.cell?_setCell_other _ _ _ _ (by simp)]; exact h1
  exact ⟨by rw [World.cell?_setCell_other _ _ _ _ (by simp)]; exact e0, World.cell?_setCell_same _ _ _ e1, e0⟩
theorem bfroz1 {B b i : Nat} {w w' : World} (h : Below B w w') (hb : b < B) : w'.frozen? ⟨b, i, none⟩ = w.frozen? ⟨b, i, none⟩ := h.frozen hb
theorem RetACC.put {w wr : World} {b : Nat} {pc n code : Int} {regs : List Int} {v : Value} {F : List Nat} (hb : Below w.heap.size w wr) (hbb : w.heap.size ≤ b) (ho : Ow wr (dI regs) v F) (hF : b ∉ F) (hn : F.Nodup) (hf : ∀ g, g ∈ F → w.heap.size ≤ g) :
    RetACC w [.i pc, dI regs] n code (.returned (.tuple #[.agg #[.int .i64 pc, v], .int .i64 n, .int .i64 code])) ((wr.setCell ⟨b, 0, none⟩ (.int .i64 pc)).setCell ⟨b, 1, none⟩ v) := by
  have e1 := (Exc.setCell wr ⟨b, 0, none⟩ (.int .i64 pc)).chg
  have e2 := (Exc.setCell (wr.setCell ⟨b, 0, none⟩ (.int .i64 pc)) ⟨b, 1, none⟩ v).chg
  have ho' := e2.ow (e1.ow ho (fun g hg h => by simp at h; subst h; exact hF hg)) (fun g hg h => by simp at h; subst h; exact hF hg)
  exact ⟨[.int .i64 pc, v], F, rfl, (hb.setCell hbb _).setCell hbb _, ⟨[], F, ⟨rfl, rfl⟩, ⟨F, [], ho', rfl, by simp⟩, by simp⟩, hn, hf⟩
/- Runs of a program: what is refused, and the program's exported function. -/
theorem askRun_bad {R : Int} {os : List Ord} {regs : List Int} {steps : Int} (h : validProgS R os = false) : askRun R os regs steps = 1 := by simp [askRun, h]
theorem askRun_two {R : Int} {os : List Ord} {regs : List Int} {steps : Int} (h : validProgS R os = true) (h2 : regsOk R regs = false ∨ inRg steps 0 200 = false) : askRun R os regs steps = 2 := by
  rcases h2 with h2 | h2 <;> simp [askRun, h, h2]
theorem askRun_zero {R : Int} {os : List Ord} {regs : List Int} {steps : Int} (h : validProgS R os = true) (h2 : regsOk R regs = true) (h3 : inRg steps 0 200 = true) : askRun R os regs steps = 0 := by simp [askRun, h, h2, h3]
theorem askRun_ok {R : Int} {os : List Ord} {regs : List Int} {steps : Int} (h : askRun R os regs steps = 0) : validProgS R os = true ∧ regsOk R regs = true ∧ 0 ≤ steps ∧ steps ≤ 200 := by
  unfold askRun at h
  split at h
  · rename_i h1
    split at h
    · rename_i h2
      exact ⟨h1, h2.1, by have := h2.2; simp [inRg] at this; omega⟩
    · simp at h
  · simp at h
theorem RetACC.cfg {w w' : World} {c : Cfg} {n code : Int} {e : Ending} (h : RetACC w c.ds n code e w') : ∃ a1 c1 F, e = .returned (.tuple #[.agg #[.int .i64 c.pc, .slice a1 c.regs.length c1], .int .i64 n, .int .i64 code]) ∧ Below w.heap.size w w' ∧ Ow w' (dI c.regs) (.slice a1 c.regs.length c1) F ∧ F.Nodup ∧ ∀ g, g ∈ F → w.heap.size ≤ g := by
  obtain ⟨vs, F, rfl, hb, ho, hn, hF⟩ := h
  match vs, ho with
  | [v0, v1], ⟨G0, _, ⟨h0, h0'⟩, ⟨G1, _, h1, h2, h3⟩, h4⟩ =>
    subst h0 h0'
    have h2' : _ = [] := h2
    subst h2' h3
    simp only [List.append_nil, List.nil_append] at h4
    subst h4
    obtain ⟨a1, c1, rfl⟩ := h1.val
    exact ⟨a1, c1, _, rfl, hb, h1, hn, hF⟩
/- Runs of a program: the reference's. Written by mknl.py. -/
theorem runC_halt {os : List Ord} {k : Nat} {c : Cfg} (h : haltS os c.pc = true) : runC os k c = ([c], 0) := by cases k <;> simp [runC, h]
theorem runC_choice {os : List Ord} {k : Nat} {c : Cfg} (h : haltS os c.pc = false) (h2 : choice (nthO os c.pc.toNat) = true) : runC os (k + 1) c = ([c], 4) := by simp [runC, h, h2]
theorem runC_stuck {os : List Ord} {k : Nat} {c : Cfg} (h : haltS os c.pc = false) (h2 : choice (nthO os c.pc.toNat) = false) (h3 : (nextS os c.pc c.regs).2 = 3) : runC os (k + 1) c = ([c], 3) := by simp [runC, h, h2, h3]
theorem runC_step {os : List Ord} {k : Nat} {c : Cfg} (h : haltS os c.pc = false) (h2 : choice (nthO os c.pc.toNat) = false) (h3 : (nextS os c.pc c.regs).2 = 0) : runC os (k + 1) c = (c :: (runC os k (firstS os c)).1, (runC os k (firstS os c)).2) := by simp [runC, h, h2, h3]
theorem nthCfg_last (pre : List Cfg) (c : Cfg) : nthCfg (pre ++ [c]) pre.length = c := by simp [nthCfg]
/- Runs of a program: the reference's exported function. -/
theorem runP_bad {R : Int} {os : List Ord} {regs : List Int} {steps : Int} (h : askRun R os regs steps ≠ 0) : runP R os regs steps = (zCfg, 0, askRun R os regs steps) := by rw [runP, if_neg h]
theorem runP_err {R : Int} {os : List Ord} {regs : List Int} {m : Nat} (h : askRun R os regs m = 0) (h2 : (runC os m ⟨0, regs⟩).2 ≠ 0) : runP R os regs m = (zCfg, 0, (runC os m ⟨0, regs⟩).2) := by
  rw [runP, if_pos h]; simp only [Int.toNat_natCast]; rw [runE_runC, if_neg h2]
theorem runP_fine {R : Int} {os : List Ord} {regs : List Int} {m n : Nat} (h : askRun R os regs m = 0) (h2 : (runC os m ⟨0, regs⟩).2 = 0) (hn : (runC os m ⟨0, regs⟩).1.length = n + 1) : runP R os regs m = (nthCfg (runC os m ⟨0, regs⟩).1 n, (n : Int), 0) := by
  rw [runP, if_pos h]; simp only [Int.toNat_natCast]; rw [runE_runC, if_pos h2, hn]
  have e : (runC os m ⟨0, regs⟩).1.getLastD zCfg = nthCfg (runC os m ⟨0, regs⟩).1 n := by
    rw [List.getLastD_eq_getLast?, List.getLast?_eq_getElem?, hn, nthCfg, List.getD_eq_getElem?_getD]; rfl
  rw [e]
  congr 2
  omega
end Go.Proofs.Ytkjmehpehopncaa
