/- The rules that a program becomes: the program's function. Written by mkmd.py. -/
import Derived.Test.YtncndnholheemaaMD
namespace Go.Proofs.Ytncndnholheemaa
open Go.RowKit

theorem size_rul_c (a : Option Addr) (n c : Nat) (w : World) (_hn : n ≤ maxLen) : Calls Try.prog 130 #[.slice a n c] w (RetP w (.int .i64 n)) := by
  go_enter Try.func130, Try.ntmps130
  go_wp2
  go_ret
  exact ⟨rfl, rfl⟩
set_option maxHeartbeats 4000000 in
set_option maxRecDepth 100000 in
theorem build_c (R : Nat) (ao : Option Addr) (co : Nat) (os : List Ord) (mode : Int) (w : World) (ho : SlO Any w ao os) (hc : os.length ≤ co) (hpg : PgOk R os) (hm : 1 ≤ mode ∧ mode ≤ 3) :
    Calls Try.prog 91 #[.agg #[.int .i64 R, .slice ao os.length co], .int .i64 mode] w (fun e w' => ∃ gb v G vf Gf, e = .returned (.pointer (some ⟨gb, 0, none⟩)) ∧ Bst (w.heap.size + 1) w' gb (kindsN R os mode) (rulesS R os mode) v G (firstTo R os mode (kindsN R os mode) os.length) vf Gf ∧ Below w.heap.size w w') := by
  obtain ⟨wp, hwp⟩ : ∃ wz, wz = w.alloc (.cells #[.int .i64 R, .slice ao os.length co] 52) := ⟨_, rfl⟩
  have hbw : Below w.heap.size w wp := by rw [hwp]; exact below_alloc _ _
  have zpw : wp.heap.size = w.heap.size + 1 := by rw [hwp]; simp
  have p0 : wp.cell? ⟨w.heap.size, 0, none⟩ = some (.int .i64 R) := by rw [hwp]; simp [go_sem]
  have p1 : wp.cell? ⟨w.heap.size, 1, none⟩ = some (.slice ao os.length co) := by rw [hwp]; simp [go_sem]
  have HO := Lib.hid (ho.below hbw)
  have HK := Lib.hid (kinds_c R ao co os mode (w.alloc (.cells #[.int .i64 R, .slice ao os.length co] 52)) (ho.below (below_alloc _ _)) hc hpg)
  have HBW := Lib.hid hbw
  have h3 := hpg.r3
  have h1 := hpg.r1
  have h6 := hpg.n6
  have hn1 := hpg.n1
  have lo := ho.len
  unfold maxLen at lo
  have i1 := ixO (ho.below hbw) co
  obtain ⟨hk1, hk2⟩ := kindsN_le hpg mode
  obtain ⟨K, hKe⟩ : ∃ K, K = kindsN R os mode := ⟨_, rfl⟩
  rw [← hKe] at HK hk1 hk2 ⊢
  have HKE := Lib.hid hKe
  have HPG := Lib.hid hpg
  have hKp : 0 < K := by omega
  clear hKe hbw hpg ho
  go_enter Try.func91, Try.ntmps91
  have HWP := Lib.hid hwp
  clear hwp
  go_wp2_with fail
  refine HK.out.mono ?_
  rintro e w1 ⟨rfl, hb1⟩
  rw [← HWP.out] at hb1
  have q0 := (bcell1 (b := w.heap.size) (i := 0) hb1 (by omega)).trans p0
  have q1 := (bcell1 (b := w.heap.size) (i := 1) hb1 (by omega)).trans p1
  have hz1 : w.heap.size < w1.heap.size := by have := hb1.size; omega
  have HB1 := Lib.hid hb1
  have HS0 : Hid (Bst (w.heap.size + 1) (w1.alloc (.cells #[.int .i64 K, .slice none 0 0, .slice none 0 0] 134)) w1.heap.size K (rulesTo R os mode K 0) (.slice none 0 0) [] (firstTo R os mode K 0) (.slice none 0 0) []) := Lib.hid (Bst.start (by omega))
  have HBA : Hid (Below (w.heap.size + 1) wp (w1.alloc (.cells #[.int .i64 K, .slice none 0 0, .slice none 0 0] 134))) := Lib.hid ((hb1.mono (by omega)).alloc (by omega) _)
  clear hb1
  go_wp2
  go_loopw [24] (fun i wr => ∃ (k : Nat) (v : Value) (G : List Nat) (vf : Value) (Gf : List Nat), k ≤ os.length ∧ i = .int .i64 k ∧ Bst (w.heap.size + 1) wr w1.heap.size K (rulesTo R os mode K k) v G (firstTo R os mode K k) vf Gf ∧ Below (w.heap.size + 1) wp wr) (fun i _ => os.length - (intOf i).toNat)
  case atStart => exact ⟨0, _, _, _, _, Nat.zero_le _, rfl, HS0.out, HBA.out⟩
  case round =>
    obtain ⟨k, v, G, vf, Gf, hk, rfl, hst, hbr⟩ := hrel
    clear HS0 HBA
    by_cases hlt : k < os.length
    · obtain ⟨_, av, cv, rfl⟩ := hst.mr.lst.val
      obtain ⟨_, af, cf, rfl⟩ := hst.fl.val
      have HOR := Lib.hid (HO.out.below (hbr.mono (by omega)))
      have g0 := HOR.out.c0 k hlt
      have g1 := HOR.out.c1 k hlt
      have g2 := HOR.out.c2 k hlt
      have g3 := HOR.out.c3 k hlt
      have hAT := HPG.out.at hlt
      have r0 := (bcell1 (b := w.heap.size) (i := 0) hbr (by omega)).trans p0
      have r1 := (bcell1 (b := w.heap.size) (i := 1) hbr (by omega)).trans p1
      have hgz := hst.mr.hg
      have HST := Lib.hid hst
      have HBR := Lib.hid hbr
      have hlr := rulesTo_len R os mode K k
      have HSIZ := Lib.hid (fun w => size_rul_c av (rulesTo R os mode K k).length cv w (by unfold maxLen; omega))
      have HLF := Lib.hid (firstTo_len R os mode K k)
      have hlt' : (k : Int) < os.length := by omega
      obtain ⟨wA, hwA⟩ : ∃ wz, wz = wr.alloc (.cells #[.int .i64 (nthO os k).op, .int .i64 (nthO os k).reg, .int .i64 (nthO os k).to, .int .i64 (nthO os k).els] 125) := ⟨_, rfl⟩
      have HIT : Hid (Bit (w.heap.size + 1) wp wA w1.heap.size K (rulesTo R os mode K k) (.slice av (rulesTo R os mode K k).length cv) G (firstTo R os mode K k) (.slice af (firstTo R os mode K k).length cf) Gf w.heap.size wr.heap.size R ao os.length co (nthO os k)) := Lib.hid (by
        rw [hwA]
        have al := below_alloc wr (.cells #[.int .i64 (nthO os k).op, .int .i64 (nthO os k).reg, .int .i64 (nthO os k).to, .int .i64 (nthO os k).els] 125)
        exact ⟨hst.keep al, ⟨(bcell1 al (by omega)).trans r0, (bcell1 al (by omega)).trans r1, by simp [go_sem], by simp [go_sem], by simp [go_sem], by simp [go_sem]⟩, by omega, fun e => by have := (hst.mr.lst.lt _ e).2; omega, fun e => by have := (hst.fl.lt _ e).2; omega, by omega, hbr.alloc (by omega) _⟩)
      clear hst hbr
      have HBX := Lib.hid HIT.out.bx
      have b0 := HIT.out.bx.p0
      have b1 := HIT.out.bx.p1
      have b2 := HIT.out.bx.o1
      have zA := HIT.out.st.mr.hg.2
      have e1 := HIT.out.st.mr.c1
      have e2 := HIT.out.st.c2
      go_wp2
      rw [← hwA]
      have HWA := Lib.hid hwA
      clear hwA g0 g1 g2 g3 r0 r1
      have hs0 : wA.drew.cell? ⟨w1.heap.size, 1, none⟩ = some (.slice av (rulesTo R os mode K k).length cv) ∧ wA.drew.cell? ⟨w1.heap.size, 2, none⟩ = some (.slice af (firstTo R os mode K k).length cf) := ⟨e1, e2⟩
      have hrunS := callFunc_run Try.func130 (by kernel_rfl) rfl
      refine wp_region_C (n := 15) (l := #[false, false, false, false, false, false, false, false, false, false, false, false, false, false, false]) (fun wx => wx.cell? ⟨w1.heap.size, 1, none⟩ = some (.slice av (rulesTo R os mode K k).length cv) ∧ wx.cell? ⟨w1.heap.size, 2, none⟩ = some (.slice af (firstTo R os mode K k).length cf)) [14] (by kernel_rfl) rfl rfl ?_
      refine wpC_take (i := 0) (v := ?v0_1) (l' := #[true, false, false, false, false, false, false, false, false, false, false, false, false, false, false]) [12, 13, 14] rfl (by kernel_rfl) (by kernel_rfl) (by kernel_rfl) (by kernel_rfl) (by kernel_rfl) rfl (fun _ _ _ h => h) (by rfl) (fun wx hS => ?q0_1) (by assumption) ?_
      case q0_1 => (go_simp; try with_reducible rfl)
      try simp only [List.getElem_toArray, List.getElem_cons_zero, Act.put, List.setIfInBounds_toArray, List.set_cons_zero, List.set_cons_succ]
      refine wpC_take (i := 1) (v := ?v1_2) (l' := #[true, true, false, false, false, false, false, false, false, false, false, false, false, false, false]) [2, 3, 4, 11, 12, 13, 14] rfl (by kernel_rfl) (by kernel_rfl) (by kernel_rfl) (by kernel_rfl) (by kernel_rfl) rfl (fun _ _ _ h => h) (by rfl) (fun wx hS => ?q1_2) (by assumption) ?_
      case q1_2 => (go_simp; try with_reducible rfl)
      try simp only [List.getElem_toArray, List.getElem_cons_succ, List.getElem_cons_zero, Act.put, List.setIfInBounds_toArray, List.set_cons_zero, List.set_cons_succ]
      refine wpC_take (i := 2) (v := ?v2_3) (l' := #[true, true, true, false, false, false, false, false, false, false, false, false, false, false, false]) [3, 4, 11, 12, 13, 14] rfl (by kernel_rfl) (by kernel_rfl) (by kernel_rfl) (by kernel_rfl) (by kernel_rfl) rfl (fun _ _ _ h => h) (by rfl) (fun wx hS => ?q2_3) (by assumption) ?_
      case q2_3 => (go_simp; try with_reducible rfl)
      try simp only [List.getElem_toArray, List.getElem_cons_succ, List.getElem_cons_zero, Act.put, List.setIfInBounds_toArray, List.set_cons_zero, List.set_cons_succ]
      refine wpC_take (i := 3) (v := ?v3_4) (l' := #[true, true, true, true, false, false, false, false, false, false, false, false, false, false, false]) [4, 11, 12, 13, 14] rfl (by kernel_rfl) (by kernel_rfl) (by kernel_rfl) (by kernel_rfl) (by kernel_rfl) rfl (fun _ _ _ h => h) (by rfl) (fun wx hS => ?q3_4) (by assumption) ?_
      case q3_4 => (go_simp; try with_reducible rfl)
      try simp only [List.getElem_toArray, List.getElem_cons_succ, List.getElem_cons_zero, Act.put, List.setIfInBounds_toArray, List.set_cons_zero, List.set_cons_succ]
      refine wpC_take (i := 4) (v := ?v4_5) (l' := #[true, true, true, true, true, false, false, false, false, false, false, false, false, false, false]) [11, 12, 13, 14] rfl (by kernel_rfl) (by kernel_rfl) (by kernel_rfl) (by kernel_rfl) (by kernel_rfl) rfl (fun _ _ _ h => h) (by rfl) (fun wx hS => ?q4_5) (by assumption) ?_
      case q4_5 => ((try dsimp only at hS); obtain ⟨hS1, hS2⟩ := hS; go_simp; try with_reducible rfl)
      try simp only [List.getElem_toArray, List.getElem_cons_succ, List.getElem_cons_zero, Act.put, List.setIfInBounds_toArray, List.set_cons_zero, List.set_cons_succ]
      refine wpC_take (i := 5) (v := ?v5_6) (l' := #[true, true, true, true, true, true, false, false, false, false, false, false, false, false, false]) [6, 7, 8, 9, 10, 11, 12, 13, 14] rfl (by kernel_rfl) (by kernel_rfl) (by kernel_rfl) (by kernel_rfl) (by kernel_rfl) rfl (fun _ _ _ h => h) (by rfl) (fun wx hS => ?q5_6) (by assumption) ?_
      case q5_6 => (go_simp; try with_reducible rfl)
      try simp only [List.getElem_toArray, List.getElem_cons_succ, List.getElem_cons_zero, Act.put, List.setIfInBounds_toArray, List.set_cons_zero, List.set_cons_succ]
      refine wpC_take (i := 6) (v := ?v6_7) (l' := #[true, true, true, true, true, true, true, false, false, false, false, false, false, false, false]) [7, 8, 9, 10, 11, 12, 13, 14] rfl (by kernel_rfl) (by kernel_rfl) (by kernel_rfl) (by kernel_rfl) (by kernel_rfl) rfl (fun _ _ _ h => h) (by rfl) (fun wx hS => ?q6_7) (by assumption) ?_
      case q6_7 => (go_simp; try with_reducible rfl)
      try simp only [List.getElem_toArray, List.getElem_cons_succ, List.getElem_cons_zero, Act.put, List.setIfInBounds_toArray, List.set_cons_zero, List.set_cons_succ]
      refine wpC_take (i := 7) (v := ?v7_8) (l' := #[true, true, true, true, true, true, true, true, false, false, false, false, false, false, false]) [8, 9, 10, 11, 12, 13, 14] rfl (by kernel_rfl) (by kernel_rfl) (by kernel_rfl) (by kernel_rfl) (by kernel_rfl) rfl (fun _ _ _ h => h) (by rfl) (fun wx hS => ?q7_8) (by assumption) ?_
      case q7_8 => (go_simp; try with_reducible rfl)
      try simp only [List.getElem_toArray, List.getElem_cons_succ, List.getElem_cons_zero, Act.put, List.setIfInBounds_toArray, List.set_cons_zero, List.set_cons_succ]
      refine wpC_take (i := 8) (v := ?v8_9) (l' := #[true, true, true, true, true, true, true, true, true, false, false, false, false, false, false]) [9, 10, 11, 12, 13, 14] rfl (by kernel_rfl) (by kernel_rfl) (by kernel_rfl) (by kernel_rfl) (by kernel_rfl) rfl (fun _ _ _ h => h) (by rfl) (fun wx hS => ?q8_9) (by assumption) ?_
      case q8_9 => ((try dsimp only at hS); obtain ⟨hS1, hS2⟩ := hS; go_simp; try with_reducible rfl)
      try simp only [List.getElem_toArray, List.getElem_cons_succ, List.getElem_cons_zero, Act.put, List.setIfInBounds_toArray, List.set_cons_zero, List.set_cons_succ]
      refine wpC_one (i := 9) (l' := #[true, true, true, true, true, true, true, true, true, true, false, false, false, false, false]) (by kernel_rfl) rfl rfl (by rfl) (fun Kr hKr => ?_)
      refine step_callF rfl 130 #[.tmp 37] _ rfl hrunS #[.slice av (rulesTo R os mode K k).length cv] (by first | rfl | (simp [Act.eval]; done) | (simp [Act.eval]; rfl) | (simp [Act.eval]; repeat' constructor)) _ (HSIZ.out _) ?_
      refine hKr _ _ (fun _ => hs0) ?_
      clear hKr Kr
      try simp only [List.getElem_toArray, List.getElem_cons_succ, List.getElem_cons_zero, Act.put, List.setIfInBounds_toArray, List.set_cons_zero, List.set_cons_succ]
      refine wpC_one (i := 10) (l' := #[true, true, true, true, true, true, true, true, true, true, true, false, false, false, false]) (by kernel_rfl) rfl rfl (by rfl) (fun Kr hKr => ?_)
      go_simp
      refine hKr _ _ (fun _ => ⟨(bcell1 (below_alloc _ _) zA).trans e1, (bcell1 (below_alloc _ _) zA).trans e2⟩) ?_
      clear hKr Kr
      try simp only [List.getElem_toArray, List.getElem_cons_succ, List.getElem_cons_zero, Act.put, List.setIfInBounds_toArray, List.set_cons_zero, List.set_cons_succ]
      refine wpC_one (i := 11) (l' := #[true, true, true, true, true, true, true, true, true, true, true, true, false, false, false]) (by kernel_rfl) rfl rfl (by rfl) (fun Kr hKr => ?_)
      refine step_lst rfl (.tmp 33) (.tmp 39) 24 rfl tabI rfl (by omega) (by decide) (w.heap.size + 1) (.slice af (firstTo R os mode K k).length cf) (firstTo R os mode K k).length ((firstTo R os mode K k).map .i) [.i ((rulesTo R os mode K k).length : Int)] Gf [] [.int .i64 ((rulesTo R os mode K k).length : Int)] rfl (HIT.out.keep (Below.drew (below_alloc _ _))).st.fl wA.heap.size rfl (RowAt.one64 (by simp [go_sem])) (by have := HLF.out; omega) (by have := zA; simp; omega) ?_
      intro v7 w7 Gf7 hN
      obtain ⟨z1, z2, hIT7⟩ := HIT.out.first (Below.drew (below_alloc _ _)) hN
      obtain ⟨_, a7, c7, rfl⟩ := hN.lst.val
      refine hKr _ _ (fun _ => ⟨(hN.chg.cell (by have := zA; simp; omega) (fun e => HIT.out.st.d2 (ob_sub HIT.out.st.fl _ e)) 1).trans ((bcell1 (below_alloc _ _) zA).trans e1), z1⟩) ?_
      clear hKr Kr
      try simp only [List.getElem_toArray, List.getElem_cons_succ, List.getElem_cons_zero, Act.put, List.setIfInBounds_toArray, List.set_cons_zero, List.set_cons_succ]
      have hs11 := And.intro ((hN.chg.cell (by have := zA; simp; omega) (fun e => HIT.out.st.d2 (ob_sub HIT.out.st.fl _ e)) 1).trans ((bcell1 (below_alloc _ _) zA).trans e1)) z1
      refine wpC_take (i := 12) (v := ?v12_10) (l' := #[true, true, true, true, true, true, true, true, true, true, true, true, true, false, false]) [13, 14] rfl (by kernel_rfl) (by kernel_rfl) (by kernel_rfl) (by kernel_rfl) (by kernel_rfl) rfl (fun _ _ _ h => h) (by rfl) (fun wx hS => ?q12_10) (by assumption) ?_
      case q12_10 => (go_simp; try with_reducible rfl)
      try simp only [List.getElem_toArray, List.getElem_cons_succ, List.getElem_cons_zero, Act.put, List.setIfInBounds_toArray, List.set_cons_zero, List.set_cons_succ]
      refine wpC_take (i := 13) (v := ?v13_11) (l' := #[true, true, true, true, true, true, true, true, true, true, true, true, true, true, false]) [14] rfl (by kernel_rfl) (by kernel_rfl) (by kernel_rfl) (by kernel_rfl) (by kernel_rfl) rfl (fun _ _ _ h => h) (by rfl) (fun wx hS => ?q13_11) (by assumption) ?_
      case q13_11 => (go_simp; try with_reducible rfl)
      try simp only [List.getElem_toArray, List.getElem_cons_succ, List.getElem_cons_zero, Act.put, List.setIfInBounds_toArray, List.set_cons_zero, List.set_cons_succ]
      refine wpC_one (i := 14) (l' := #[true, true, true, true, true, true, true, true, true, true, true, true, true, true, true]) (by kernel_rfl) rfl rfl (by rfl) (fun Kr hKr => ?_)
      go_simp
      refine hKr _ _ (fun h => absurd (by decide) h) ?_
      clear hKr Kr
      try simp only [List.getElem_toArray, List.getElem_cons_succ, List.getElem_cons_zero, Act.put, List.setIfInBounds_toArray, List.set_cons_zero, List.set_cons_succ]
      refine wpC_done (by kernel_rfl) ?_ _
      skip
      obtain ⟨w8, hw8⟩ : ∃ wz, wz = w7.setCell ⟨w1.heap.size, 2, none⟩ (.slice a7 ((firstTo R os mode K k).length + 1) c7) := ⟨_, rfl⟩
      rw [← hw8] at hIT7 ⊢
      clear hw8
      rw [← firstTo_succ] at hIT7
      have HIT8 := Lib.hid hIT7
      clear hIT7 hN z1 z2 hs11 hs0 HIT HBX b0 b1 b2 e1 e2 HST HBR
      have hbx0 : Bx w8.drew w.heap.size wr.heap.size R ao os.length co (nthO os k) := HIT8.out.bx.keep (below_dr (Below.refl _ _))
      have HRUNL := Lib.hid (callFunc_run Try.func131 (by kernel_rfl) rfl)
      have HRUNR := Lib.hid (callFunc_run Try.func132 (by kernel_rfl) rfl)
      have HRUNW := Lib.hid (callFunc_run Try.func133 (by kernel_rfl) rfl)
      have HKR : Hid ((0 : Int) ≤ k ∧ (k : Int) ≤ 6) := Lib.hid (by omega)
      go_wp2
      refine wp_region_C (n := 7) (l := #[false, false, false, false, false, false, false]) (fun wx => Bx wx w.heap.size wr.heap.size R ao os.length co (nthO os k)) [] (by kernel_rfl) rfl rfl ?_
      refine wpC_take (i := 0) (v := ?v0_12) (l' := #[true, false, false, false, false, false, false]) [2, 5, 6] rfl (by kernel_rfl) (by kernel_rfl) (by kernel_rfl) (by kernel_rfl) (by kernel_rfl) rfl (fun _ _ _ h => h) (by rfl) (fun wx hS => ?q0_12) (by assumption) ?_
      case q0_12 => ((try dsimp only at hS); have s0 := Bx.p0 hS; have s1 := Bx.p1 hS; have s2 := Bx.o0 hS; have s3 := Bx.o1 hS; have s4 := Bx.o2 hS; have s5 := Bx.o3 hS; go_simp; try with_reducible rfl)
      try simp only [List.getElem_toArray, List.getElem_cons_zero, Act.put, List.setIfInBounds_toArray, List.set_cons_zero, List.set_cons_succ]
      refine wpC_take (i := 1) (v := ?v1_13) (l' := #[true, true, false, false, false, false, false]) [2, 5, 6] rfl (by kernel_rfl) (by kernel_rfl) (by kernel_rfl) (by kernel_rfl) (by kernel_rfl) rfl (fun _ _ _ h => h) (by rfl) (fun wx hS => ?q1_13) (by assumption) ?_
      case q1_13 => (go_simp; try with_reducible rfl)
      try simp only [List.getElem_toArray, List.getElem_cons_succ, List.getElem_cons_zero, Act.put, List.setIfInBounds_toArray, List.set_cons_zero, List.set_cons_succ]
      refine wpC_take (i := 3) (v := ?v3_14) (l' := #[true, true, false, true, false, false, false]) [4, 6] rfl (by kernel_rfl) (by kernel_rfl) (by kernel_rfl) (by kernel_rfl) (by kernel_rfl) rfl (fun _ _ _ h => h) (by rfl) (fun wx hS => ?q3_14) (by assumption) ?_
      case q3_14 => (go_simp; try with_reducible rfl)
      try simp only [List.getElem_toArray, List.getElem_cons_succ, List.getElem_cons_zero, Act.put, List.setIfInBounds_toArray, List.set_cons_zero, List.set_cons_succ]
      refine wpC_take (i := 4) (v := ?v4_15) (l' := #[true, true, false, true, true, false, false]) [6] rfl (by kernel_rfl) (by kernel_rfl) (by kernel_rfl) (by kernel_rfl) (by kernel_rfl) rfl (fun _ _ _ h => h) (by rfl) (fun wx hS => ?q4_15) (by assumption) ?_
      case q4_15 => ((try dsimp only at hS); have s0 := Bx.p0 hS; have s1 := Bx.p1 hS; have s2 := Bx.o0 hS; have s3 := Bx.o1 hS; have s4 := Bx.o2 hS; have s5 := Bx.o3 hS; go_simp; try with_reducible rfl)
      try simp only [List.getElem_toArray, List.getElem_cons_succ, List.getElem_cons_zero, Act.put, List.setIfInBounds_toArray, List.set_cons_zero, List.set_cons_succ]
      refine wpC_one (i := 2) (l' := #[true, true, true, true, true, false, false]) (by kernel_rfl) rfl rfl (by rfl) (fun Kr hKr => ?_)
      refine step_callV rfl 131 #[.tmp 43, .tmp 44] _ rfl HRUNL.out #[.agg #[.int .i64 R, .slice ao os.length co], .int .i64 k] (by first | rfl | (simp [Act.eval]; done) | (simp [Act.eval]; rfl) | (simp [Act.eval]; repeat' constructor)) (label_c R (.slice ao os.length co) k _ (by omega) HKR.out) ?_
      rintro e w9 ⟨rfl, hb9⟩
      refine ⟨_, rfl, ?_⟩
      refine hKr _ _ (fun _ => hbx0.keep hb9) ?_
      clear hKr Kr
      try simp only [List.getElem_toArray, List.getElem_cons_succ, List.getElem_cons_zero, Act.put, List.setIfInBounds_toArray, List.set_cons_zero, List.set_cons_succ]
      have hbx9 := hbx0.keep hb9
      refine wpC_take (i := 5) (v := ?v5_16) (l' := #[true, true, true, true, true, true, false]) [6] rfl (by kernel_rfl) (by kernel_rfl) (by kernel_rfl) (by kernel_rfl) (by kernel_rfl) rfl (fun _ _ _ h => h) (by rfl) (fun wx hS => ?q5_16) (by assumption) ?_
      case q5_16 => (go_simp; try with_reducible rfl)
      try simp only [List.getElem_toArray, List.getElem_cons_succ, List.getElem_cons_zero, Act.put, List.setIfInBounds_toArray, List.set_cons_zero, List.set_cons_succ]
      refine wpC_take (i := 6) (v := ?v6_17) (l' := #[true, true, true, true, true, true, true]) [] rfl (by kernel_rfl) (by kernel_rfl) (by kernel_rfl) (by kernel_rfl) (by kernel_rfl) rfl (fun _ _ _ h => h) (by rfl) (fun wx hS => ?q6_17) (by assumption) ?_
      case q6_17 => (go_simp; try with_reducible rfl)
      try simp only [List.getElem_toArray, List.getElem_cons_succ, List.getElem_cons_zero, Act.put, List.setIfInBounds_toArray, List.set_cons_zero, List.set_cons_succ]
      refine wpC_done (by kernel_rfl) ?_ _
      have HIT9 := Lib.hid (HIT8.out.keep ((below_dr (Below.refl _ _)).trans hb9))
      clear hbx0 hbx9 hb9 HIT8
      have hkk : subsTo os k ≤ subsTo os os.length := by have := subsTo_mono os k (os.length - k); rwa [show k + (os.length - k) = os.length by omega] at this
      rcases hAT with ⟨hop, a1, a2, a3, a4, a5, a6⟩ | ⟨hop, _⟩
      · by_cases hp1 : (nthO os k).op = 1
        · have hq1 : ((nthO os k).op == 1) = true := by simpa using hp1
          by_cases hel : (nthO os k).els = (nthO os k).to
          · have hq2 : ((nthO os k).els == (nthO os k).to) = true := by simpa using hel
            have bx0 := HIT9.out.bx.p0
            have bx1 := HIT9.out.bx.p1
            have bx2 := HIT9.out.bx.o0
            have bx3 := HIT9.out.bx.o1
            have bx4 := HIT9.out.bx.o2
            have bx5 := HIT9.out.bx.o3
            have zB : w.heap.size + 1 ≤ w9.heap.size := Nat.le_trans HIT9.out.st.mr.hg.1 (Nat.le_of_lt HIT9.out.st.mr.hg.2)
            have HRS : Hid (rulesTo R os mode K (k + 1) = ((rulesTo R os mode K k) ++ [(rulK K 0 [((R : Int) + (k : Int))] [] [] [(nthO os k).reg, ((R : Int) + (nthO os k).to)])])) := Lib.hid (by rw [rulesTo, ordRules, if_pos hp1, if_pos hel] <;> simp)
            clear hp1 hel hop
            clear bx0 bx1 bx2 bx3 bx4 bx5 zB
            have hs0 := HIT9.out.bx.keep (below_dr (Below.refl _ _))
            have zB : w.heap.size + 1 ≤ w9.heap.size := Nat.le_trans HIT9.out.st.mr.hg.1 (Nat.le_of_lt HIT9.out.st.mr.hg.2)
            have bx2 := HIT9.out.bx.o0
            have bx4 := HIT9.out.bx.o2
            have bx5 := HIT9.out.bx.o3
            go_wp2
            clear bx2 bx4 bx5
            refine wp_region_C (n := 17) (l := #[false, false, false, false, false, false, false, false, false, false, false, false, false, false, false, false, false]) (fun wx => Bx wx w.heap.size wr.heap.size R ao os.length co (nthO os k)) [16] (by kernel_rfl) rfl rfl ?_
            refine wpC_take (i := 0) (v := ?v0_18) (l' := #[true, false, false, false, false, false, false, false, false, false, false, false, false, false, false, false, false]) [4, 5, 6, 7, 11, 12, 13, 14, 15, 16] rfl (by kernel_rfl) (by kernel_rfl) (by kernel_rfl) (by kernel_rfl) (by kernel_rfl) rfl (fun _ _ _ h => h) (by rfl) (fun wx hS => ?q0_18) (by assumption) ?_
            case q0_18 => (go_simp; try with_reducible rfl)
            try simp only [List.getElem_toArray, List.getElem_cons_zero, Act.put, List.setIfInBounds_toArray, List.set_cons_zero, List.set_cons_succ]
            refine wpC_take (i := 1) (v := ?v1_19) (l' := #[true, true, false, false, false, false, false, false, false, false, false, false, false, false, false, false, false]) [4, 5, 6, 7, 11, 12, 13, 14, 15, 16] rfl (by kernel_rfl) (by kernel_rfl) (by kernel_rfl) (by kernel_rfl) (by kernel_rfl) rfl (fun _ _ _ h => h) (by rfl) (fun wx hS => ?q1_19) (by assumption) ?_
            case q1_19 => (go_simp; try with_reducible rfl)
            try simp only [List.getElem_toArray, List.getElem_cons_succ, List.getElem_cons_zero, Act.put, List.setIfInBounds_toArray, List.set_cons_zero, List.set_cons_succ]
            refine wpC_take (i := 2) (v := ?v2_20) (l' := #[true, true, true, false, false, false, false, false, false, false, false, false, false, false, false, false, false]) [3, 4, 5, 6, 7, 11, 12, 13, 14, 15, 16] rfl (by kernel_rfl) (by kernel_rfl) (by kernel_rfl) (by kernel_rfl) (by kernel_rfl) rfl (fun _ _ _ h => h) (by rfl) (fun wx hS => ?q2_20) (by assumption) ?_
            case q2_20 => (go_simp; try with_reducible rfl)
            try simp only [List.getElem_toArray, List.getElem_cons_succ, List.getElem_cons_zero, Act.put, List.setIfInBounds_toArray, List.set_cons_zero, List.set_cons_succ]
            refine wpC_take (i := 8) (v := ?v8_21) (l' := #[true, true, true, false, false, false, false, false, true, false, false, false, false, false, false, false, false]) [11, 12, 13, 14, 15, 16] rfl (by kernel_rfl) (by kernel_rfl) (by kernel_rfl) (by kernel_rfl) (by kernel_rfl) rfl (fun _ _ _ h => h) (by rfl) (fun wx hS => ?q8_21) (by assumption) ?_
            case q8_21 => ((try dsimp only at hS); have s0 := Bx.p0 hS; have s1 := Bx.p1 hS; have s2 := Bx.o0 hS; have s3 := Bx.o1 hS; have s4 := Bx.o2 hS; have s5 := Bx.o3 hS; go_simp; try with_reducible rfl)
            try simp only [List.getElem_toArray, List.getElem_cons_succ, List.getElem_cons_zero, Act.put, List.setIfInBounds_toArray, List.set_cons_zero, List.set_cons_succ]
            refine wpC_take (i := 9) (v := ?v9_22) (l' := #[true, true, true, false, false, false, false, false, true, true, false, false, false, false, false, false, false]) [10, 11, 12, 13, 14, 15, 16] rfl (by kernel_rfl) (by kernel_rfl) (by kernel_rfl) (by kernel_rfl) (by kernel_rfl) rfl (fun _ _ _ h => h) (by rfl) (fun wx hS => ?q9_22) (by assumption) ?_
            case q9_22 => (go_simp; try with_reducible rfl)
            try simp only [List.getElem_toArray, List.getElem_cons_succ, List.getElem_cons_zero, Act.put, List.setIfInBounds_toArray, List.set_cons_zero, List.set_cons_succ]
            refine wpC_take (i := 10) (v := ?v10_23) (l' := #[true, true, true, false, false, false, false, false, true, true, true, false, false, false, false, false, false]) [11, 12, 13, 14, 15, 16] rfl (by kernel_rfl) (by kernel_rfl) (by kernel_rfl) (by kernel_rfl) (by kernel_rfl) rfl (fun _ _ _ h => h) (by rfl) (fun wx hS => ?q10_23) (by assumption) ?_
            case q10_23 => ((try dsimp only at hS); have s0 := Bx.p0 hS; have s1 := Bx.p1 hS; have s2 := Bx.o0 hS; have s3 := Bx.o1 hS; have s4 := Bx.o2 hS; have s5 := Bx.o3 hS; go_simp; try with_reducible rfl)
            try simp only [List.getElem_toArray, List.getElem_cons_succ, List.getElem_cons_zero, Act.put, List.setIfInBounds_toArray, List.set_cons_zero, List.set_cons_succ]
            refine wpC_one (i := 3) (l' := #[true, true, true, true, false, false, false, false, true, true, true, false, false, false, false, false, false]) (by kernel_rfl) rfl rfl (by rfl) (fun Kr hKr => ?_)
            go_simp
            refine hKr _ _ (fun _ => HIT9.out.bx.keep (below_dr (below_alloc _ _))) ?_
            clear hKr Kr
            try simp only [List.getElem_toArray, List.getElem_cons_succ, List.getElem_cons_zero, Act.put, List.setIfInBounds_toArray, List.set_cons_zero, List.set_cons_succ]
            refine wpC_one (i := 4) (l' := #[true, true, true, true, true, false, false, false, true, true, true, false, false, false, false, false, false]) (by kernel_rfl) rfl rfl (by rfl) (fun Kr hKr => ?_)
            refine step_callV rfl 132 #[.tmp 52, .tmp 53, .tmp 55] _ rfl HRUNR.out #[.pointer (some ⟨w1.heap.size, 0, none⟩), .int .i64 (nthO os k).reg, .slice (some ⟨w9.heap.size, 0, none⟩) 1 1] (by first | rfl | (simp [Act.eval]; done) | (simp [Act.eval]; rfl) | (simp [Act.eval]; repeat' constructor)) (rule_c K w1.heap.size (nthO os k).reg (some ⟨w9.heap.size, 0, none⟩) 1 [((R : Int) + (k : Int))] (w.heap.size + 1) (rulesTo R os mode K k) (.slice av (rulesTo R os mode K k).length cv) G _ (HIT9.out.keep (below_dr (below_alloc _ _))).st.mr (by (try simp); omega) (SlI.one (by simp [go_sem])) (by simp) (rng1 (by omega)) (by omega) hk2 (by (try simp); omega)) ?_
            rintro e wY21 ⟨gl21, cl21, G21, rfl, hN⟩
            refine ⟨_, rfl, ?_⟩
            have hITY := (HIT9.out.keep (below_dr (below_alloc _ _))).rule hN
            refine hKr _ _ (fun _ => hITY.bx) ?_
            clear hKr Kr
            try simp only [List.getElem_toArray, List.getElem_cons_succ, List.getElem_cons_zero, Act.put, List.setIfInBounds_toArray, List.set_cons_zero, List.set_cons_succ]
            have hsY := hITY.bx
            obtain ⟨ain, oin, cin, hin⟩ := hITY.st.inner (upd := fun ys => { rulK K 0 [((R : Int) + (k : Int))] [] [] [(nthO os k).reg] with here := ys }) (xs := (bagK K [(nthO os k).reg])) rfl (fun _ => [.i 0, .i 0, dI (bagK K [((R : Int) + (k : Int))]), dI (bagK K []), dI (bagK K [])]) (fun _ => [dI (bagK K []), dInn [], .b false]) 5 (fun ys => rfl) rfl (bagK_len _ _) hKp
            have hL0 : (0 : Int) ≤ ((R : Int) + (nthO os k).to) := by omega
            have hL1 : ((R : Int) + (nthO os k).to) < (K : Int) := by omega
            have hLL : (((R : Int) + (nthO os k).to)).toNat < K := by omega
            have hbd : 0 ≤ nth (bagK K [(nthO os k).reg]) (((R : Int) + (nthO os k).to)).toNat ∧ nth (bagK K [(nthO os k).reg]) (((R : Int) + (nthO os k).to)).toNat ≤ 1 := (bagTo_bd K [(nthO os k).reg] (rng1 (by omega)) 1 (by simp) _)
            have hwr : IntKind.i64.wrap (nth (bagK K [(nthO os k).reg]) (((R : Int) + (nthO os k).to)).toNat + 1) = nth (bagK K [(nthO os k).reg]) (((R : Int) + (nthO os k).to)).toNat + 1 := by rw [IntKind.wrap_i64]; omega
            have i2 := ix_of (P := Try.prog) tabI.under tabI.size (a := some ⟨ain, oin, none⟩) (n := K) (fun _ => ⟨ain, oin, rfl⟩) cin
            simp only [Nat.mul_one, adr, blk, ofs] at i2
            have hcY := hin.cell
            try simp only [List.length_append, List.length_cons, List.length_nil, Nat.zero_add] at hcY
            have zgl : gl21 < wY21.heap.size := (hITY.st.mr.lst.lt _ hN.gl).2
            have zin : ain < wY21.heap.size := (hITY.st.mr.lst.lt _ hin.mem).2
            refine wpC_take (i := 5) (v := ?v5_24) (l' := #[true, true, true, true, true, true, false, false, true, true, true, false, false, false, false, false, false]) [6, 7, 12, 13, 14, 15, 16] rfl (by kernel_rfl) (by kernel_rfl) (by kernel_rfl) (by kernel_rfl) (by kernel_rfl) rfl (fun _ _ _ h => h) (by rfl) (fun wx hS => ?q5_24) (by assumption) ?_
            case q5_24 => (go_simp; try with_reducible rfl)
            try simp only [List.getElem_toArray, List.getElem_cons_succ, List.getElem_cons_zero, Act.put, List.setIfInBounds_toArray, List.set_cons_zero, List.set_cons_succ]
            refine wpC_take (i := 6) (v := ?v6_25) (l' := #[true, true, true, true, true, true, true, false, true, true, true, false, false, false, false, false, false]) [7, 12, 13, 14, 15, 16] rfl (by kernel_rfl) (by kernel_rfl) (by kernel_rfl) (by kernel_rfl) (by kernel_rfl) rfl (fun _ _ _ h => h) (by rfl) (fun wx hS => ?q6_25) (by assumption) ?_
            case q6_25 => (go_simp; try with_reducible rfl)
            try simp only [List.getElem_toArray, List.getElem_cons_succ, List.getElem_cons_zero, Act.put, List.setIfInBounds_toArray, List.set_cons_zero, List.set_cons_succ]
            refine wpC_two (i := 7) (j := 11) (l' := #[true, true, true, true, true, true, true, true, true, true, true, false, false, false, false, false, false]) (l'' := #[true, true, true, true, true, true, true, false, true, true, true, true, false, false, false, false, false]) (by kernel_rfl) rfl rfl rfl rfl (by rfl) (by rfl) (fun Kr hKr => ?_) (fun Kr hKr => ?_)
            · go_simp
              refine hKr _ _ (fun _ => by first | exact hsZ | exact hsY) ?_
              clear hKr Kr
              try simp only [List.getElem_toArray, List.getElem_cons_succ, List.getElem_cons_zero, Act.put, List.setIfInBounds_toArray, List.set_cons_zero, List.set_cons_succ]
              refine wpC_one (i := 11) (l' := #[true, true, true, true, true, true, true, true, true, true, true, true, false, false, false, false, false]) (by kernel_rfl) rfl rfl (by rfl) (fun Kr hKr => ?_)
              refine step_callV rfl 131 #[.tmp 60, .tmp 62] _ rfl HRUNL.out #[.agg #[.int .i64 R, .slice ao os.length co], .int .i64 (nthO os k).to] (by first | rfl | (simp [Act.eval]; done) | (simp [Act.eval]; rfl) | (simp [Act.eval]; repeat' constructor)) (label_c R (.slice ao os.length co) (nthO os k).to _ (by omega) (by omega)) ?_
              rintro e wZ21 ⟨rfl, hbZ⟩
              refine ⟨_, rfl, ?_⟩
              refine hKr _ _ (fun _ => hsY.keep hbZ) ?_
              clear hKr Kr
              try simp only [List.getElem_toArray, List.getElem_cons_succ, List.getElem_cons_zero, Act.put, List.setIfInBounds_toArray, List.set_cons_zero, List.set_cons_succ]
              have hsZ := hsY.keep hbZ
              have hcZ := (bcell1 (b := gl21) hbZ zgl).trans hcY
              have hvZ := (bcell1 (b := ain) hbZ zin).trans (hin.at_ _ hLL).1
              have hfZ := (hbZ.frozen (p := ⟨ain, oin + (((R : Int) + (nthO os k).to)).toNat, none⟩) zin).trans (hin.at_ _ hLL).2
              refine wpC_take (i := 12) (v := ?v12_26) (l' := #[true, true, true, true, true, true, true, true, true, true, true, true, true, false, false, false, false]) [13, 14, 15, 16] rfl (by kernel_rfl) (by kernel_rfl) (by kernel_rfl) (by kernel_rfl) (by kernel_rfl) rfl (fun _ _ _ h => h) (by rfl) (fun wx hS => ?q12_26) (by assumption) ?_
              case q12_26 => (go_simp; try with_reducible rfl)
              try simp only [List.getElem_toArray, List.getElem_cons_succ, List.getElem_cons_zero, Act.put, List.setIfInBounds_toArray, List.set_cons_zero, List.set_cons_succ]
              refine wpC_one (i := 13) (l' := #[true, true, true, true, true, true, true, true, true, true, true, true, true, true, false, false, false]) (by kernel_rfl) rfl rfl (by rfl) (fun Kr hKr => ?_)
              go_simp
              refine hKr _ _ (fun _ => hsZ) ?_
              clear hKr Kr
              try simp only [List.getElem_toArray, List.getElem_cons_succ, List.getElem_cons_zero, Act.put, List.setIfInBounds_toArray, List.set_cons_zero, List.set_cons_succ]
              refine wpC_take (i := 14) (v := ?v14_27) (l' := #[true, true, true, true, true, true, true, true, true, true, true, true, true, true, true, false, false]) [15, 16] rfl (by kernel_rfl) (by kernel_rfl) (by kernel_rfl) (by kernel_rfl) (by kernel_rfl) rfl (fun _ _ _ h => h) (by rfl) (fun wx hS => ?q14_27) (by assumption) ?_
              case q14_27 => (go_simp; try with_reducible rfl)
              try simp only [List.getElem_toArray, List.getElem_cons_succ, List.getElem_cons_zero, Act.put, List.setIfInBounds_toArray, List.set_cons_zero, List.set_cons_succ]
              refine wpC_take (i := 15) (v := ?v15_28) (l' := #[true, true, true, true, true, true, true, true, true, true, true, true, true, true, true, true, false]) [16] rfl (by kernel_rfl) (by kernel_rfl) (by kernel_rfl) (by kernel_rfl) (by kernel_rfl) rfl (fun _ _ _ h => h) (by rfl) (fun wx hS => ?q15_28) (by assumption) ?_
              case q15_28 => (go_simp; try with_reducible rfl)
              try simp only [List.getElem_toArray, List.getElem_cons_succ, List.getElem_cons_zero, Act.put, List.setIfInBounds_toArray, List.set_cons_zero, List.set_cons_succ]
              refine wpC_one (i := 16) (l' := #[true, true, true, true, true, true, true, true, true, true, true, true, true, true, true, true, true]) (by kernel_rfl) rfl rfl (by rfl) (fun Kr hKr => ?_)
              go_simp
              refine hKr _ _ (fun h => absurd (by decide) h) ?_
              clear hKr Kr
              try simp only [List.getElem_toArray, List.getElem_cons_succ, List.getElem_cons_zero, Act.put, List.setIfInBounds_toArray, List.set_cons_zero, List.set_cons_succ]
              refine wpC_done (by kernel_rfl) ?_ _
              have hITE := (hITY.keep hbZ).put hin.mem (hin.put _ hbZ _ hLL)
              obtain ⟨wE21, hwE⟩ : ∃ wz, wz = wZ21.setCell ⟨ain, oin + (((R : Int) + (nthO os k).to)).toNat, none⟩ (.int .i64 (nth (bagK K [(nthO os k).reg]) (((R : Int) + (nthO os k).to)).toNat + 1)) := ⟨_, rfl⟩
              rw [← hwE] at hITE ⊢
              have HIT21 : Hid (Bit (w.heap.size + 1) wp wE21 w1.heap.size K ((rulesTo R os mode K k) ++ [(rulK K 0 [((R : Int) + (k : Int))] [] [] [(nthO os k).reg, ((R : Int) + (nthO os k).to)])]) (.slice (some ⟨gl21, 0, none⟩) ((rulesTo R os mode K k).length + 1) cl21) G21 (firstTo R os mode K (k + 1)) (.slice a7 ((firstTo R os mode K k).length + 1) c7) Gf7 w.heap.size wr.heap.size R ao os.length co (nthO os k)) := Lib.hid hITE
              clear hITE hwE hcZ hvZ hfZ hsZ hbZ hcY hsY hITY hin i2 hbd zgl zin hN hs0 zB
              have bx0 := HIT21.out.bx.p0
              have bx1 := HIT21.out.bx.p1
              have bx2 := HIT21.out.bx.o0
              have bx3 := HIT21.out.bx.o1
              have bx4 := HIT21.out.bx.o2
              have bx5 := HIT21.out.bx.o3
              have zB : w.heap.size + 1 ≤ wE21.heap.size := Nat.le_trans HIT21.out.st.mr.hg.1 (Nat.le_of_lt HIT21.out.st.mr.hg.2)
              go_wp2
              go_roundw
              case rel => exact ⟨k + 1, _, _, _, _, by omega, by go_num, by rw [HRS.out]; exact HIT21.out.st, HIT21.out.hb⟩
              case measure => simp [intOf]; omega
            · refine step_callV rfl 131 #[.tmp 60, .tmp 62] _ rfl HRUNL.out #[.agg #[.int .i64 R, .slice ao os.length co], .int .i64 (nthO os k).to] (by first | rfl | (simp [Act.eval]; done) | (simp [Act.eval]; rfl) | (simp [Act.eval]; repeat' constructor)) (label_c R (.slice ao os.length co) (nthO os k).to _ (by omega) (by omega)) ?_
              rintro e wZ21 ⟨rfl, hbZ⟩
              refine ⟨_, rfl, ?_⟩
              refine hKr _ _ (fun _ => hsY.keep hbZ) ?_
              clear hKr Kr
              try simp only [List.getElem_toArray, List.getElem_cons_succ, List.getElem_cons_zero, Act.put, List.setIfInBounds_toArray, List.set_cons_zero, List.set_cons_succ]
              have hsZ := hsY.keep hbZ
              have hcZ := (bcell1 (b := gl21) hbZ zgl).trans hcY
              have hvZ := (bcell1 (b := ain) hbZ zin).trans (hin.at_ _ hLL).1
              have hfZ := (hbZ.frozen (p := ⟨ain, oin + (((R : Int) + (nthO os k).to)).toNat, none⟩) zin).trans (hin.at_ _ hLL).2
              refine wpC_one (i := 7) (l' := #[true, true, true, true, true, true, true, true, true, true, true, true, false, false, false, false, false]) (by kernel_rfl) rfl rfl (by rfl) (fun Kr hKr => ?_)
              go_simp
              refine hKr _ _ (fun _ => by first | exact hsZ | exact hsY) ?_
              clear hKr Kr
              try simp only [List.getElem_toArray, List.getElem_cons_succ, List.getElem_cons_zero, Act.put, List.setIfInBounds_toArray, List.set_cons_zero, List.set_cons_succ]
              refine wpC_take (i := 12) (v := ?v12_29) (l' := #[true, true, true, true, true, true, true, true, true, true, true, true, true, false, false, false, false]) [13, 14, 15, 16] rfl (by kernel_rfl) (by kernel_rfl) (by kernel_rfl) (by kernel_rfl) (by kernel_rfl) rfl (fun _ _ _ h => h) (by rfl) (fun wx hS => ?q12_29) (by assumption) ?_
              case q12_29 => (go_simp; try with_reducible rfl)
              try simp only [List.getElem_toArray, List.getElem_cons_succ, List.getElem_cons_zero, Act.put, List.setIfInBounds_toArray, List.set_cons_zero, List.set_cons_succ]
              refine wpC_one (i := 13) (l' := #[true, true, true, true, true, true, true, true, true, true, true, true, true, true, false, false, false]) (by kernel_rfl) rfl rfl (by rfl) (fun Kr hKr => ?_)
              go_simp
              refine hKr _ _ (fun _ => hsZ) ?_
              clear hKr Kr
              try simp only [List.getElem_toArray, List.getElem_cons_succ, List.getElem_cons_zero, Act.put, List.setIfInBounds_toArray, List.set_cons_zero, List.set_cons_succ]
              refine wpC_take (i := 14) (v := ?v14_30) (l' := #[true, true, true, true, true, true, true, true, true, true, true, true, true, true, true, false, false]) [15, 16] rfl (by kernel_rfl) (by kernel_rfl) (by kernel_rfl) (by kernel_rfl) (by kernel_rfl) rfl (fun _ _ _ h => h) (by rfl) (fun wx hS => ?q14_30) (by assumption) ?_
              case q14_30 => (go_simp; try with_reducible rfl)
              try simp only [List.getElem_toArray, List.getElem_cons_succ, List.getElem_cons_zero, Act.put, List.setIfInBounds_toArray, List.set_cons_zero, List.set_cons_succ]
              refine wpC_take (i := 15) (v := ?v15_31) (l' := #[true, true, true, true, true, true, true, true, true, true, true, true, true, true, true, true, false]) [16] rfl (by kernel_rfl) (by kernel_rfl) (by kernel_rfl) (by kernel_rfl) (by kernel_rfl) rfl (fun _ _ _ h => h) (by rfl) (fun wx hS => ?q15_31) (by assumption) ?_
              case q15_31 => (go_simp; try with_reducible rfl)
              try simp only [List.getElem_toArray, List.getElem_cons_succ, List.getElem_cons_zero, Act.put, List.setIfInBounds_toArray, List.set_cons_zero, List.set_cons_succ]
              refine wpC_one (i := 16) (l' := #[true, true, true, true, true, true, true, true, true, true, true, true, true, true, true, true, true]) (by kernel_rfl) rfl rfl (by rfl) (fun Kr hKr => ?_)
              go_simp
              refine hKr _ _ (fun h => absurd (by decide) h) ?_
              clear hKr Kr
              try simp only [List.getElem_toArray, List.getElem_cons_succ, List.getElem_cons_zero, Act.put, List.setIfInBounds_toArray, List.set_cons_zero, List.set_cons_succ]
              refine wpC_done (by kernel_rfl) ?_ _
              have hITE := (hITY.keep hbZ).put hin.mem (hin.put _ hbZ _ hLL)
              obtain ⟨wE21, hwE⟩ : ∃ wz, wz = wZ21.setCell ⟨ain, oin + (((R : Int) + (nthO os k).to)).toNat, none⟩ (.int .i64 (nth (bagK K [(nthO os k).reg]) (((R : Int) + (nthO os k).to)).toNat + 1)) := ⟨_, rfl⟩
              rw [← hwE] at hITE ⊢
              have HIT21 : Hid (Bit (w.heap.size + 1) wp wE21 w1.heap.size K ((rulesTo R os mode K k) ++ [(rulK K 0 [((R : Int) + (k : Int))] [] [] [(nthO os k).reg, ((R : Int) + (nthO os k).to)])]) (.slice (some ⟨gl21, 0, none⟩) ((rulesTo R os mode K k).length + 1) cl21) G21 (firstTo R os mode K (k + 1)) (.slice a7 ((firstTo R os mode K k).length + 1) c7) Gf7 w.heap.size wr.heap.size R ao os.length co (nthO os k)) := Lib.hid hITE
              clear hITE hwE hcZ hvZ hfZ hsZ hbZ hcY hsY hITY hin i2 hbd zgl zin hN hs0 zB
              have bx0 := HIT21.out.bx.p0
              have bx1 := HIT21.out.bx.p1
              have bx2 := HIT21.out.bx.o0
              have bx3 := HIT21.out.bx.o1
              have bx4 := HIT21.out.bx.o2
              have bx5 := HIT21.out.bx.o3
              have zB : w.heap.size + 1 ≤ wE21.heap.size := Nat.le_trans HIT21.out.st.mr.hg.1 (Nat.le_of_lt HIT21.out.st.mr.hg.2)
              go_wp2
              go_roundw
              case rel => exact ⟨k + 1, _, _, _, _, by omega, by go_num, by rw [HRS.out]; exact HIT21.out.st, HIT21.out.hb⟩
              case measure => simp [intOf]; omega
          · have hq2 : ((nthO os k).els == (nthO os k).to) = false := by simpa using hel
            have bx0 := HIT9.out.bx.p0
            have bx1 := HIT9.out.bx.p1
            have bx2 := HIT9.out.bx.o0
            have bx3 := HIT9.out.bx.o1
            have bx4 := HIT9.out.bx.o2
            have bx5 := HIT9.out.bx.o3
            have zB : w.heap.size + 1 ≤ w9.heap.size := Nat.le_trans HIT9.out.st.mr.hg.1 (Nat.le_of_lt HIT9.out.st.mr.hg.2)
            have HRS : Hid (rulesTo R os mode K (k + 1) = (((rulesTo R os mode K k) ++ [(rulK K 0 [((R : Int) + (k : Int))] [] [] [(nthO os k).reg, ((R : Int) + (nthO os k).to)])]) ++ [(rulK K 0 [((R : Int) + (k : Int))] [] [] [(nthO os k).reg, ((R : Int) + (nthO os k).els)])])) := Lib.hid (by rw [rulesTo, ordRules, if_pos hp1, if_neg hel] <;> simp)
            clear hp1 hel hop
            clear bx0 bx1 bx2 bx3 bx4 bx5 zB
            have hs0 := HIT9.out.bx.keep (below_dr (Below.refl _ _))
            have zB : w.heap.size + 1 ≤ w9.heap.size := Nat.le_trans HIT9.out.st.mr.hg.1 (Nat.le_of_lt HIT9.out.st.mr.hg.2)
            have bx2 := HIT9.out.bx.o0
            have bx4 := HIT9.out.bx.o2
            have bx5 := HIT9.out.bx.o3
            go_wp2
            clear bx2 bx4 bx5
            refine wp_region_C (n := 17) (l := #[false, false, false, false, false, false, false, false, false, false, false, false, false, false, false, false, false]) (fun wx => Bx wx w.heap.size wr.heap.size R ao os.length co (nthO os k)) [16] (by kernel_rfl) rfl rfl ?_
            refine wpC_take (i := 0) (v := ?v0_32) (l' := #[true, false, false, false, false, false, false, false, false, false, false, false, false, false, false, false, false]) [4, 5, 6, 7, 11, 12, 13, 14, 15, 16] rfl (by kernel_rfl) (by kernel_rfl) (by kernel_rfl) (by kernel_rfl) (by kernel_rfl) rfl (fun _ _ _ h => h) (by rfl) (fun wx hS => ?q0_32) (by assumption) ?_
            case q0_32 => (go_simp; try with_reducible rfl)
            try simp only [List.getElem_toArray, List.getElem_cons_zero, Act.put, List.setIfInBounds_toArray, List.set_cons_zero, List.set_cons_succ]
            refine wpC_take (i := 1) (v := ?v1_33) (l' := #[true, true, false, false, false, false, false, false, false, false, false, false, false, false, false, false, false]) [4, 5, 6, 7, 11, 12, 13, 14, 15, 16] rfl (by kernel_rfl) (by kernel_rfl) (by kernel_rfl) (by kernel_rfl) (by kernel_rfl) rfl (fun _ _ _ h => h) (by rfl) (fun wx hS => ?q1_33) (by assumption) ?_
            case q1_33 => (go_simp; try with_reducible rfl)
            try simp only [List.getElem_toArray, List.getElem_cons_succ, List.getElem_cons_zero, Act.put, List.setIfInBounds_toArray, List.set_cons_zero, List.set_cons_succ]
            refine wpC_take (i := 2) (v := ?v2_34) (l' := #[true, true, true, false, false, false, false, false, false, false, false, false, false, false, false, false, false]) [3, 4, 5, 6, 7, 11, 12, 13, 14, 15, 16] rfl (by kernel_rfl) (by kernel_rfl) (by kernel_rfl) (by kernel_rfl) (by kernel_rfl) rfl (fun _ _ _ h => h) (by rfl) (fun wx hS => ?q2_34) (by assumption) ?_
            case q2_34 => (go_simp; try with_reducible rfl)
            try simp only [List.getElem_toArray, List.getElem_cons_succ, List.getElem_cons_zero, Act.put, List.setIfInBounds_toArray, List.set_cons_zero, List.set_cons_succ]
            refine wpC_take (i := 8) (v := ?v8_35) (l' := #[true, true, true, false, false, false, false, false, true, false, false, false, false, false, false, false, false]) [11, 12, 13, 14, 15, 16] rfl (by kernel_rfl) (by kernel_rfl) (by kernel_rfl) (by kernel_rfl) (by kernel_rfl) rfl (fun _ _ _ h => h) (by rfl) (fun wx hS => ?q8_35) (by assumption) ?_
            case q8_35 => ((try dsimp only at hS); have s0 := Bx.p0 hS; have s1 := Bx.p1 hS; have s2 := Bx.o0 hS; have s3 := Bx.o1 hS; have s4 := Bx.o2 hS; have s5 := Bx.o3 hS; go_simp; try with_reducible rfl)
            try simp only [List.getElem_toArray, List.getElem_cons_succ, List.getElem_cons_zero, Act.put, List.setIfInBounds_toArray, List.set_cons_zero, List.set_cons_succ]
            refine wpC_take (i := 9) (v := ?v9_36) (l' := #[true, true, true, false, false, false, false, false, true, true, false, false, false, false, false, false, false]) [10, 11, 12, 13, 14, 15, 16] rfl (by kernel_rfl) (by kernel_rfl) (by kernel_rfl) (by kernel_rfl) (by kernel_rfl) rfl (fun _ _ _ h => h) (by rfl) (fun wx hS => ?q9_36) (by assumption) ?_
            case q9_36 => (go_simp; try with_reducible rfl)
            try simp only [List.getElem_toArray, List.getElem_cons_succ, List.getElem_cons_zero, Act.put, List.setIfInBounds_toArray, List.set_cons_zero, List.set_cons_succ]
            refine wpC_take (i := 10) (v := ?v10_37) (l' := #[true, true, true, false, false, false, false, false, true, true, true, false, false, false, false, false, false]) [11, 12, 13, 14, 15, 16] rfl (by kernel_rfl) (by kernel_rfl) (by kernel_rfl) (by kernel_rfl) (by kernel_rfl) rfl (fun _ _ _ h => h) (by rfl) (fun wx hS => ?q10_37) (by assumption) ?_
            case q10_37 => ((try dsimp only at hS); have s0 := Bx.p0 hS; have s1 := Bx.p1 hS; have s2 := Bx.o0 hS; have s3 := Bx.o1 hS; have s4 := Bx.o2 hS; have s5 := Bx.o3 hS; go_simp; try with_reducible rfl)
            try simp only [List.getElem_toArray, List.getElem_cons_succ, List.getElem_cons_zero, Act.put, List.setIfInBounds_toArray, List.set_cons_zero, List.set_cons_succ]
            refine wpC_one (i := 3) (l' := #[true, true, true, true, false, false, false, false, true, true, true, false, false, false, false, false, false]) (by kernel_rfl) rfl rfl (by rfl) (fun Kr hKr => ?_)
            go_simp
            refine hKr _ _ (fun _ => HIT9.out.bx.keep (below_dr (below_alloc _ _))) ?_
            clear hKr Kr
            try simp only [List.getElem_toArray, List.getElem_cons_succ, List.getElem_cons_zero, Act.put, List.setIfInBounds_toArray, List.set_cons_zero, List.set_cons_succ]
            refine wpC_one (i := 4) (l' := #[true, true, true, true, true, false, false, false, true, true, true, false, false, false, false, false, false]) (by kernel_rfl) rfl rfl (by rfl) (fun Kr hKr => ?_)
            refine step_callV rfl 132 #[.tmp 52, .tmp 53, .tmp 55] _ rfl HRUNR.out #[.pointer (some ⟨w1.heap.size, 0, none⟩), .int .i64 (nthO os k).reg, .slice (some ⟨w9.heap.size, 0, none⟩) 1 1] (by first | rfl | (simp [Act.eval]; done) | (simp [Act.eval]; rfl) | (simp [Act.eval]; repeat' constructor)) (rule_c K w1.heap.size (nthO os k).reg (some ⟨w9.heap.size, 0, none⟩) 1 [((R : Int) + (k : Int))] (w.heap.size + 1) (rulesTo R os mode K k) (.slice av (rulesTo R os mode K k).length cv) G _ (HIT9.out.keep (below_dr (below_alloc _ _))).st.mr (by (try simp); omega) (SlI.one (by simp [go_sem])) (by simp) (rng1 (by omega)) (by omega) hk2 (by (try simp); omega)) ?_
            rintro e wY22 ⟨gl22, cl22, G22, rfl, hN⟩
            refine ⟨_, rfl, ?_⟩
            have hITY := (HIT9.out.keep (below_dr (below_alloc _ _))).rule hN
            refine hKr _ _ (fun _ => hITY.bx) ?_
            clear hKr Kr
            try simp only [List.getElem_toArray, List.getElem_cons_succ, List.getElem_cons_zero, Act.put, List.setIfInBounds_toArray, List.set_cons_zero, List.set_cons_succ]
            have hsY := hITY.bx
            obtain ⟨ain, oin, cin, hin⟩ := hITY.st.inner (upd := fun ys => { rulK K 0 [((R : Int) + (k : Int))] [] [] [(nthO os k).reg] with here := ys }) (xs := (bagK K [(nthO os k).reg])) rfl (fun _ => [.i 0, .i 0, dI (bagK K [((R : Int) + (k : Int))]), dI (bagK K []), dI (bagK K [])]) (fun _ => [dI (bagK K []), dInn [], .b false]) 5 (fun ys => rfl) rfl (bagK_len _ _) hKp
            have hL0 : (0 : Int) ≤ ((R : Int) + (nthO os k).to) := by omega
            have hL1 : ((R : Int) + (nthO os k).to) < (K : Int) := by omega
            have hLL : (((R : Int) + (nthO os k).to)).toNat < K := by omega
            have hbd : 0 ≤ nth (bagK K [(nthO os k).reg]) (((R : Int) + (nthO os k).to)).toNat ∧ nth (bagK K [(nthO os k).reg]) (((R : Int) + (nthO os k).to)).toNat ≤ 1 := (bagTo_bd K [(nthO os k).reg] (rng1 (by omega)) 1 (by simp) _)
            have hwr : IntKind.i64.wrap (nth (bagK K [(nthO os k).reg]) (((R : Int) + (nthO os k).to)).toNat + 1) = nth (bagK K [(nthO os k).reg]) (((R : Int) + (nthO os k).to)).toNat + 1 := by rw [IntKind.wrap_i64]; omega
            have i2 := ix_of (P := Try.prog) tabI.under tabI.size (a := some ⟨ain, oin, none⟩) (n := K) (fun _ => ⟨ain, oin, rfl⟩) cin
            simp only [Nat.mul_one, adr, blk, ofs] at i2
            have hcY := hin.cell
            try simp only [List.length_append, List.length_cons, List.length_nil, Nat.zero_add] at hcY
            have zgl : gl22 < wY22.heap.size := (hITY.st.mr.lst.lt _ hN.gl).2
            have zin : ain < wY22.heap.size := (hITY.st.mr.lst.lt _ hin.mem).2
            refine wpC_take (i := 5) (v := ?v5_38) (l' := #[true, true, true, true, true, true, false, false, true, true, true, false, false, false, false, false, false]) [6, 7, 12, 13, 14, 15, 16] rfl (by kernel_rfl) (by kernel_rfl) (by kernel_rfl) (by kernel_rfl) (by kernel_rfl) rfl (fun _ _ _ h => h) (by rfl) (fun wx hS => ?q5_38) (by assumption) ?_
            case q5_38 => (go_simp; try with_reducible rfl)
            try simp only [List.getElem_toArray, List.getElem_cons_succ, List.getElem_cons_zero, Act.put, List.setIfInBounds_toArray, List.set_cons_zero, List.set_cons_succ]
            refine wpC_take (i := 6) (v := ?v6_39) (l' := #[true, true, true, true, true, true, true, false, true, true, true, false, false, false, false, false, false]) [7, 12, 13, 14, 15, 16] rfl (by kernel_rfl) (by kernel_rfl) (by kernel_rfl) (by kernel_rfl) (by kernel_rfl) rfl (fun _ _ _ h => h) (by rfl) (fun wx hS => ?q6_39) (by assumption) ?_
            case q6_39 => (go_simp; try with_reducible rfl)
            try simp only [List.getElem_toArray, List.getElem_cons_succ, List.getElem_cons_zero, Act.put, List.setIfInBounds_toArray, List.set_cons_zero, List.set_cons_succ]
            refine wpC_two (i := 7) (j := 11) (l' := #[true, true, true, true, true, true, true, true, true, true, true, false, false, false, false, false, false]) (l'' := #[true, true, true, true, true, true, true, false, true, true, true, true, false, false, false, false, false]) (by kernel_rfl) rfl rfl rfl rfl (by rfl) (by rfl) (fun Kr hKr => ?_) (fun Kr hKr => ?_)
            · go_simp
              refine hKr _ _ (fun _ => by first | exact hsZ | exact hsY) ?_
              clear hKr Kr
              try simp only [List.getElem_toArray, List.getElem_cons_succ, List.getElem_cons_zero, Act.put, List.setIfInBounds_toArray, List.set_cons_zero, List.set_cons_succ]
              refine wpC_one (i := 11) (l' := #[true, true, true, true, true, true, true, true, true, true, true, true, false, false, false, false, false]) (by kernel_rfl) rfl rfl (by rfl) (fun Kr hKr => ?_)
              refine step_callV rfl 131 #[.tmp 60, .tmp 62] _ rfl HRUNL.out #[.agg #[.int .i64 R, .slice ao os.length co], .int .i64 (nthO os k).to] (by first | rfl | (simp [Act.eval]; done) | (simp [Act.eval]; rfl) | (simp [Act.eval]; repeat' constructor)) (label_c R (.slice ao os.length co) (nthO os k).to _ (by omega) (by omega)) ?_
              rintro e wZ22 ⟨rfl, hbZ⟩
              refine ⟨_, rfl, ?_⟩
              refine hKr _ _ (fun _ => hsY.keep hbZ) ?_
              clear hKr Kr
              try simp only [List.getElem_toArray, List.getElem_cons_succ, List.getElem_cons_zero, Act.put, List.setIfInBounds_toArray, List.set_cons_zero, List.set_cons_succ]
              have hsZ := hsY.keep hbZ
              have hcZ := (bcell1 (b := gl22) hbZ zgl).trans hcY
              have hvZ := (bcell1 (b := ain) hbZ zin).trans (hin.at_ _ hLL).1
              have hfZ := (hbZ.frozen (p := ⟨ain, oin + (((R : Int) + (nthO os k).to)).toNat, none⟩) zin).trans (hin.at_ _ hLL).2
              refine wpC_take (i := 12) (v := ?v12_40) (l' := #[true, true, true, true, true, true, true, true, true, true, true, true, true, false, false, false, false]) [13, 14, 15, 16] rfl (by kernel_rfl) (by kernel_rfl) (by kernel_rfl) (by kernel_rfl) (by kernel_rfl) rfl (fun _ _ _ h => h) (by rfl) (fun wx hS => ?q12_40) (by assumption) ?_
              case q12_40 => (go_simp; try with_reducible rfl)
              try simp only [List.getElem_toArray, List.getElem_cons_succ, List.getElem_cons_zero, Act.put, List.setIfInBounds_toArray, List.set_cons_zero, List.set_cons_succ]
              refine wpC_one (i := 13) (l' := #[true, true, true, true, true, true, true, true, true, true, true, true, true, true, false, false, false]) (by kernel_rfl) rfl rfl (by rfl) (fun Kr hKr => ?_)
              go_simp
              refine hKr _ _ (fun _ => hsZ) ?_
              clear hKr Kr
              try simp only [List.getElem_toArray, List.getElem_cons_succ, List.getElem_cons_zero, Act.put, List.setIfInBounds_toArray, List.set_cons_zero, List.set_cons_succ]
              refine wpC_take (i := 14) (v := ?v14_41) (l' := #[true, true, true, true, true, true, true, true, true, true, true, true, true, true, true, false, false]) [15, 16] rfl (by kernel_rfl) (by kernel_rfl) (by kernel_rfl) (by kernel_rfl) (by kernel_rfl) rfl (fun _ _ _ h => h) (by rfl) (fun wx hS => ?q14_41) (by assumption) ?_
              case q14_41 => (go_simp; try with_reducible rfl)
              try simp only [List.getElem_toArray, List.getElem_cons_succ, List.getElem_cons_zero, Act.put, List.setIfInBounds_toArray, List.set_cons_zero, List.set_cons_succ]
              refine wpC_take (i := 15) (v := ?v15_42) (l' := #[true, true, true, true, true, true, true, true, true, true, true, true, true, true, true, true, false]) [16] rfl (by kernel_rfl) (by kernel_rfl) (by kernel_rfl) (by kernel_rfl) (by kernel_rfl) rfl (fun _ _ _ h => h) (by rfl) (fun wx hS => ?q15_42) (by assumption) ?_
              case q15_42 => (go_simp; try with_reducible rfl)
              try simp only [List.getElem_toArray, List.getElem_cons_succ, List.getElem_cons_zero, Act.put, List.setIfInBounds_toArray, List.set_cons_zero, List.set_cons_succ]
              refine wpC_one (i := 16) (l' := #[true, true, true, true, true, true, true, true, true, true, true, true, true, true, true, true, true]) (by kernel_rfl) rfl rfl (by rfl) (fun Kr hKr => ?_)
              go_simp
              refine hKr _ _ (fun h => absurd (by decide) h) ?_
              clear hKr Kr
              try simp only [List.getElem_toArray, List.getElem_cons_succ, List.getElem_cons_zero, Act.put, List.setIfInBounds_toArray, List.set_cons_zero, List.set_cons_succ]
              refine wpC_done (by kernel_rfl) ?_ _
              have hITE := (hITY.keep hbZ).put hin.mem (hin.put _ hbZ _ hLL)
              obtain ⟨wE22, hwE⟩ : ∃ wz, wz = wZ22.setCell ⟨ain, oin + (((R : Int) + (nthO os k).to)).toNat, none⟩ (.int .i64 (nth (bagK K [(nthO os k).reg]) (((R : Int) + (nthO os k).to)).toNat + 1)) := ⟨_, rfl⟩
              rw [← hwE] at hITE ⊢
              have HIT22 : Hid (Bit (w.heap.size + 1) wp wE22 w1.heap.size K ((rulesTo R os mode K k) ++ [(rulK K 0 [((R : Int) + (k : Int))] [] [] [(nthO os k).reg, ((R : Int) + (nthO os k).to)])]) (.slice (some ⟨gl22, 0, none⟩) ((rulesTo R os mode K k).length + 1) cl22) G22 (firstTo R os mode K (k + 1)) (.slice a7 ((firstTo R os mode K k).length + 1) c7) Gf7 w.heap.size wr.heap.size R ao os.length co (nthO os k)) := Lib.hid hITE
              clear hITE hwE hcZ hvZ hfZ hsZ hbZ hcY hsY hITY hin i2 hbd zgl zin hN hs0 zB
              have bx0 := HIT22.out.bx.p0
              have bx1 := HIT22.out.bx.p1
              have bx2 := HIT22.out.bx.o0
              have bx3 := HIT22.out.bx.o1
              have bx4 := HIT22.out.bx.o2
              have bx5 := HIT22.out.bx.o3
              have zB : w.heap.size + 1 ≤ wE22.heap.size := Nat.le_trans HIT22.out.st.mr.hg.1 (Nat.le_of_lt HIT22.out.st.mr.hg.2)
              clear bx0 bx1 bx2 bx3 bx4 bx5 zB
              have hs0 := HIT22.out.bx.keep (below_dr (Below.refl _ _))
              have zB : w.heap.size + 1 ≤ wE22.heap.size := Nat.le_trans HIT22.out.st.mr.hg.1 (Nat.le_of_lt HIT22.out.st.mr.hg.2)
              have bx2 := HIT22.out.bx.o0
              have bx4 := HIT22.out.bx.o2
              have bx5 := HIT22.out.bx.o3
              go_wp2
              clear bx2 bx4 bx5
              refine wp_region_C (n := 17) (l := #[false, false, false, false, false, false, false, false, false, false, false, false, false, false, false, false, false]) (fun wx => Bx wx w.heap.size wr.heap.size R ao os.length co (nthO os k)) [16] (by kernel_rfl) rfl rfl ?_
              refine wpC_take (i := 0) (v := ?v0_43) (l' := #[true, false, false, false, false, false, false, false, false, false, false, false, false, false, false, false, false]) [4, 5, 6, 7, 11, 12, 13, 14, 15, 16] rfl (by kernel_rfl) (by kernel_rfl) (by kernel_rfl) (by kernel_rfl) (by kernel_rfl) rfl (fun _ _ _ h => h) (by rfl) (fun wx hS => ?q0_43) (by assumption) ?_
              case q0_43 => (go_simp; try with_reducible rfl)
              try simp only [List.getElem_toArray, List.getElem_cons_zero, Act.put, List.setIfInBounds_toArray, List.set_cons_zero, List.set_cons_succ]
              refine wpC_take (i := 1) (v := ?v1_44) (l' := #[true, true, false, false, false, false, false, false, false, false, false, false, false, false, false, false, false]) [4, 5, 6, 7, 11, 12, 13, 14, 15, 16] rfl (by kernel_rfl) (by kernel_rfl) (by kernel_rfl) (by kernel_rfl) (by kernel_rfl) rfl (fun _ _ _ h => h) (by rfl) (fun wx hS => ?q1_44) (by assumption) ?_
              case q1_44 => (go_simp; try with_reducible rfl)
              try simp only [List.getElem_toArray, List.getElem_cons_succ, List.getElem_cons_zero, Act.put, List.setIfInBounds_toArray, List.set_cons_zero, List.set_cons_succ]
              refine wpC_take (i := 2) (v := ?v2_45) (l' := #[true, true, true, false, false, false, false, false, false, false, false, false, false, false, false, false, false]) [3, 4, 5, 6, 7, 11, 12, 13, 14, 15, 16] rfl (by kernel_rfl) (by kernel_rfl) (by kernel_rfl) (by kernel_rfl) (by kernel_rfl) rfl (fun _ _ _ h => h) (by rfl) (fun wx hS => ?q2_45) (by assumption) ?_
              case q2_45 => (go_simp; try with_reducible rfl)
              try simp only [List.getElem_toArray, List.getElem_cons_succ, List.getElem_cons_zero, Act.put, List.setIfInBounds_toArray, List.set_cons_zero, List.set_cons_succ]
              refine wpC_take (i := 8) (v := ?v8_46) (l' := #[true, true, true, false, false, false, false, false, true, false, false, false, false, false, false, false, false]) [11, 12, 13, 14, 15, 16] rfl (by kernel_rfl) (by kernel_rfl) (by kernel_rfl) (by kernel_rfl) (by kernel_rfl) rfl (fun _ _ _ h => h) (by rfl) (fun wx hS => ?q8_46) (by assumption) ?_
              case q8_46 => ((try dsimp only at hS); have s0 := Bx.p0 hS; have s1 := Bx.p1 hS; have s2 := Bx.o0 hS; have s3 := Bx.o1 hS; have s4 := Bx.o2 hS; have s5 := Bx.o3 hS; go_simp; try with_reducible rfl)
              try simp only [List.getElem_toArray, List.getElem_cons_succ, List.getElem_cons_zero, Act.put, List.setIfInBounds_toArray, List.set_cons_zero, List.set_cons_succ]
              refine wpC_take (i := 9) (v := ?v9_47) (l' := #[true, true, true, false, false, false, false, false, true, true, false, false, false, false, false, false, false]) [10, 11, 12, 13, 14, 15, 16] rfl (by kernel_rfl) (by kernel_rfl) (by kernel_rfl) (by kernel_rfl) (by kernel_rfl) rfl (fun _ _ _ h => h) (by rfl) (fun wx hS => ?q9_47) (by assumption) ?_
              case q9_47 => (go_simp; try with_reducible rfl)
              try simp only [List.getElem_toArray, List.getElem_cons_succ, List.getElem_cons_zero, Act.put, List.setIfInBounds_toArray, List.set_cons_zero, List.set_cons_succ]
              refine wpC_take (i := 10) (v := ?v10_48) (l' := #[true, true, true, false, false, false, false, false, true, true, true, false, false, false, false, false, false]) [11, 12, 13, 14, 15, 16] rfl (by kernel_rfl) (by kernel_rfl) (by kernel_rfl) (by kernel_rfl) (by kernel_rfl) rfl (fun _ _ _ h => h) (by rfl) (fun wx hS => ?q10_48) (by assumption) ?_
              case q10_48 => ((try dsimp only at hS); have s0 := Bx.p0 hS; have s1 := Bx.p1 hS; have s2 := Bx.o0 hS; have s3 := Bx.o1 hS; have s4 := Bx.o2 hS; have s5 := Bx.o3 hS; go_simp; try with_reducible rfl)
              try simp only [List.getElem_toArray, List.getElem_cons_succ, List.getElem_cons_zero, Act.put, List.setIfInBounds_toArray, List.set_cons_zero, List.set_cons_succ]
              refine wpC_one (i := 3) (l' := #[true, true, true, true, false, false, false, false, true, true, true, false, false, false, false, false, false]) (by kernel_rfl) rfl rfl (by rfl) (fun Kr hKr => ?_)
              go_simp
              refine hKr _ _ (fun _ => HIT22.out.bx.keep (below_dr (below_alloc _ _))) ?_
              clear hKr Kr
              try simp only [List.getElem_toArray, List.getElem_cons_succ, List.getElem_cons_zero, Act.put, List.setIfInBounds_toArray, List.set_cons_zero, List.set_cons_succ]
              refine wpC_one (i := 4) (l' := #[true, true, true, true, true, false, false, false, true, true, true, false, false, false, false, false, false]) (by kernel_rfl) rfl rfl (by rfl) (fun Kr hKr => ?_)
              refine step_callV rfl 132 #[.tmp 73, .tmp 74, .tmp 76] _ rfl HRUNR.out #[.pointer (some ⟨w1.heap.size, 0, none⟩), .int .i64 (nthO os k).reg, .slice (some ⟨wE22.heap.size, 0, none⟩) 1 1] (by first | rfl | (simp [Act.eval]; done) | (simp [Act.eval]; rfl) | (simp [Act.eval]; repeat' constructor)) (rule_c K w1.heap.size (nthO os k).reg (some ⟨wE22.heap.size, 0, none⟩) 1 [((R : Int) + (k : Int))] (w.heap.size + 1) ((rulesTo R os mode K k) ++ [(rulK K 0 [((R : Int) + (k : Int))] [] [] [(nthO os k).reg, ((R : Int) + (nthO os k).to)])]) (.slice (some ⟨gl22, 0, none⟩) ((rulesTo R os mode K k).length + 1) cl22) G22 _ (HIT22.out.keep (below_dr (below_alloc _ _))).st.mr (by (try simp); omega) (SlI.one (by simp [go_sem])) (by simp) (rng1 (by omega)) (by omega) hk2 (by (try simp); omega)) ?_
              rintro e wY23 ⟨gl23, cl23, G23, rfl, hN⟩
              refine ⟨_, rfl, ?_⟩
              have hITY := (HIT22.out.keep (below_dr (below_alloc _ _))).rule hN
              refine hKr _ _ (fun _ => hITY.bx) ?_
              clear hKr Kr
              try simp only [List.getElem_toArray, List.getElem_cons_succ, List.getElem_cons_zero, Act.put, List.setIfInBounds_toArray, List.set_cons_zero, List.set_cons_succ]
              have hsY := hITY.bx
              obtain ⟨ain, oin, cin, hin⟩ := hITY.st.inner (upd := fun ys => { rulK K 0 [((R : Int) + (k : Int))] [] [] [(nthO os k).reg] with here := ys }) (xs := (bagK K [(nthO os k).reg])) rfl (fun _ => [.i 0, .i 0, dI (bagK K [((R : Int) + (k : Int))]), dI (bagK K []), dI (bagK K [])]) (fun _ => [dI (bagK K []), dInn [], .b false]) 5 (fun ys => rfl) rfl (bagK_len _ _) hKp
              have hL0 : (0 : Int) ≤ ((R : Int) + (nthO os k).els) := by omega
              have hL1 : ((R : Int) + (nthO os k).els) < (K : Int) := by omega
              have hLL : (((R : Int) + (nthO os k).els)).toNat < K := by omega
              have hbd : 0 ≤ nth (bagK K [(nthO os k).reg]) (((R : Int) + (nthO os k).els)).toNat ∧ nth (bagK K [(nthO os k).reg]) (((R : Int) + (nthO os k).els)).toNat ≤ 1 := (bagTo_bd K [(nthO os k).reg] (rng1 (by omega)) 1 (by simp) _)
              have hwr : IntKind.i64.wrap (nth (bagK K [(nthO os k).reg]) (((R : Int) + (nthO os k).els)).toNat + 1) = nth (bagK K [(nthO os k).reg]) (((R : Int) + (nthO os k).els)).toNat + 1 := by rw [IntKind.wrap_i64]; omega
              have i2 := ix_of (P := Try.prog) tabI.under tabI.size (a := some ⟨ain, oin, none⟩) (n := K) (fun _ => ⟨ain, oin, rfl⟩) cin
              simp only [Nat.mul_one, adr, blk, ofs] at i2
              have hcY := hin.cell
              try simp only [List.length_append, List.length_cons, List.length_nil, Nat.zero_add] at hcY
              have zgl : gl23 < wY23.heap.size := (hITY.st.mr.lst.lt _ hN.gl).2
              have zin : ain < wY23.heap.size := (hITY.st.mr.lst.lt _ hin.mem).2
              refine wpC_take (i := 5) (v := ?v5_49) (l' := #[true, true, true, true, true, true, false, false, true, true, true, false, false, false, false, false, false]) [6, 7, 12, 13, 14, 15, 16] rfl (by kernel_rfl) (by kernel_rfl) (by kernel_rfl) (by kernel_rfl) (by kernel_rfl) rfl (fun _ _ _ h => h) (by rfl) (fun wx hS => ?q5_49) (by assumption) ?_
              case q5_49 => (go_simp; try with_reducible rfl)
              try simp only [List.getElem_toArray, List.getElem_cons_succ, List.getElem_cons_zero, Act.put, List.setIfInBounds_toArray, List.set_cons_zero, List.set_cons_succ]
              refine wpC_take (i := 6) (v := ?v6_50) (l' := #[true, true, true, true, true, true, true, false, true, true, true, false, false, false, false, false, false]) [7, 12, 13, 14, 15, 16] rfl (by kernel_rfl) (by kernel_rfl) (by kernel_rfl) (by kernel_rfl) (by kernel_rfl) rfl (fun _ _ _ h => h) (by rfl) (fun wx hS => ?q6_50) (by assumption) ?_
              case q6_50 => (go_simp; try with_reducible rfl)
              try simp only [List.getElem_toArray, List.getElem_cons_succ, List.getElem_cons_zero, Act.put, List.setIfInBounds_toArray, List.set_cons_zero, List.set_cons_succ]
              refine wpC_two (i := 7) (j := 11) (l' := #[true, true, true, true, true, true, true, true, true, true, true, false, false, false, false, false, false]) (l'' := #[true, true, true, true, true, true, true, false, true, true, true, true, false, false, false, false, false]) (by kernel_rfl) rfl rfl rfl rfl (by rfl) (by rfl) (fun Kr hKr => ?_) (fun Kr hKr => ?_)
              · go_simp
                refine hKr _ _ (fun _ => by first | exact hsZ | exact hsY) ?_
                clear hKr Kr
                try simp only [List.getElem_toArray, List.getElem_cons_succ, List.getElem_cons_zero, Act.put, List.setIfInBounds_toArray, List.set_cons_zero, List.set_cons_succ]
                refine wpC_one (i := 11) (l' := #[true, true, true, true, true, true, true, true, true, true, true, true, false, false, false, false, false]) (by kernel_rfl) rfl rfl (by rfl) (fun Kr hKr => ?_)
                refine step_callV rfl 131 #[.tmp 81, .tmp 83] _ rfl HRUNL.out #[.agg #[.int .i64 R, .slice ao os.length co], .int .i64 (nthO os k).els] (by first | rfl | (simp [Act.eval]; done) | (simp [Act.eval]; rfl) | (simp [Act.eval]; repeat' constructor)) (label_c R (.slice ao os.length co) (nthO os k).els _ (by omega) (by omega)) ?_
                rintro e wZ23 ⟨rfl, hbZ⟩
                refine ⟨_, rfl, ?_⟩
                refine hKr _ _ (fun _ => hsY.keep hbZ) ?_
                clear hKr Kr
                try simp only [List.getElem_toArray, List.getElem_cons_succ, List.getElem_cons_zero, Act.put, List.setIfInBounds_toArray, List.set_cons_zero, List.set_cons_succ]
                have hsZ := hsY.keep hbZ
                have hcZ := (bcell1 (b := gl23) hbZ zgl).trans hcY
                have hvZ := (bcell1 (b := ain) hbZ zin).trans (hin.at_ _ hLL).1
                have hfZ := (hbZ.frozen (p := ⟨ain, oin + (((R : Int) + (nthO os k).els)).toNat, none⟩) zin).trans (hin.at_ _ hLL).2
                refine wpC_take (i := 12) (v := ?v12_51) (l' := #[true, true, true, true, true, true, true, true, true, true, true, true, true, false, false, false, false]) [13, 14, 15, 16] rfl (by kernel_rfl) (by kernel_rfl) (by kernel_rfl) (by kernel_rfl) (by kernel_rfl) rfl (fun _ _ _ h => h) (by rfl) (fun wx hS => ?q12_51) (by assumption) ?_
                case q12_51 => (go_simp; try with_reducible rfl)
                try simp only [List.getElem_toArray, List.getElem_cons_succ, List.getElem_cons_zero, Act.put, List.setIfInBounds_toArray, List.set_cons_zero, List.set_cons_succ]
                refine wpC_one (i := 13) (l' := #[true, true, true, true, true, true, true, true, true, true, true, true, true, true, false, false, false]) (by kernel_rfl) rfl rfl (by rfl) (fun Kr hKr => ?_)
                go_simp
                refine hKr _ _ (fun _ => hsZ) ?_
                clear hKr Kr
                try simp only [List.getElem_toArray, List.getElem_cons_succ, List.getElem_cons_zero, Act.put, List.setIfInBounds_toArray, List.set_cons_zero, List.set_cons_succ]
                refine wpC_take (i := 14) (v := ?v14_52) (l' := #[true, true, true, true, true, true, true, true, true, true, true, true, true, true, true, false, false]) [15, 16] rfl (by kernel_rfl) (by kernel_rfl) (by kernel_rfl) (by kernel_rfl) (by kernel_rfl) rfl (fun _ _ _ h => h) (by rfl) (fun wx hS => ?q14_52) (by assumption) ?_
                case q14_52 => (go_simp; try with_reducible rfl)
                try simp only [List.getElem_toArray, List.getElem_cons_succ, List.getElem_cons_zero, Act.put, List.setIfInBounds_toArray, List.set_cons_zero, List.set_cons_succ]
                refine wpC_take (i := 15) (v := ?v15_53) (l' := #[true, true, true, true, true, true, true, true, true, true, true, true, true, true, true, true, false]) [16] rfl (by kernel_rfl) (by kernel_rfl) (by kernel_rfl) (by kernel_rfl) (by kernel_rfl) rfl (fun _ _ _ h => h) (by rfl) (fun wx hS => ?q15_53) (by assumption) ?_
                case q15_53 => (go_simp; try with_reducible rfl)
                try simp only [List.getElem_toArray, List.getElem_cons_succ, List.getElem_cons_zero, Act.put, List.setIfInBounds_toArray, List.set_cons_zero, List.set_cons_succ]
                refine wpC_one (i := 16) (l' := #[true, true, true, true, true, true, true, true, true, true, true, true, true, true, true, true, true]) (by kernel_rfl) rfl rfl (by rfl) (fun Kr hKr => ?_)
                go_simp
                refine hKr _ _ (fun h => absurd (by decide) h) ?_
                clear hKr Kr
                try simp only [List.getElem_toArray, List.getElem_cons_succ, List.getElem_cons_zero, Act.put, List.setIfInBounds_toArray, List.set_cons_zero, List.set_cons_succ]
                refine wpC_done (by kernel_rfl) ?_ _
                have hITE := (hITY.keep hbZ).put hin.mem (hin.put _ hbZ _ hLL)
                obtain ⟨wE23, hwE⟩ : ∃ wz, wz = wZ23.setCell ⟨ain, oin + (((R : Int) + (nthO os k).els)).toNat, none⟩ (.int .i64 (nth (bagK K [(nthO os k).reg]) (((R : Int) + (nthO os k).els)).toNat + 1)) := ⟨_, rfl⟩
                rw [← hwE] at hITE ⊢
                have HIT23 : Hid (Bit (w.heap.size + 1) wp wE23 w1.heap.size K (((rulesTo R os mode K k) ++ [(rulK K 0 [((R : Int) + (k : Int))] [] [] [(nthO os k).reg, ((R : Int) + (nthO os k).to)])]) ++ [(rulK K 0 [((R : Int) + (k : Int))] [] [] [(nthO os k).reg, ((R : Int) + (nthO os k).els)])]) (.slice (some ⟨gl23, 0, none⟩) (((rulesTo R os mode K k) ++ [(rulK K 0 [((R : Int) + (k : Int))] [] [] [(nthO os k).reg, ((R : Int) + (nthO os k).to)])]).length + 1) cl23) G23 (firstTo R os mode K (k + 1)) (.slice a7 ((firstTo R os mode K k).length + 1) c7) Gf7 w.heap.size wr.heap.size R ao os.length co (nthO os k)) := Lib.hid hITE
                clear hITE hwE hcZ hvZ hfZ hsZ hbZ hcY hsY hITY hin i2 hbd zgl zin hN hs0 zB
                have bx0 := HIT23.out.bx.p0
                have bx1 := HIT23.out.bx.p1
                have bx2 := HIT23.out.bx.o0
                have bx3 := HIT23.out.bx.o1
                have bx4 := HIT23.out.bx.o2
                have bx5 := HIT23.out.bx.o3
                have zB : w.heap.size + 1 ≤ wE23.heap.size := Nat.le_trans HIT23.out.st.mr.hg.1 (Nat.le_of_lt HIT23.out.st.mr.hg.2)
                go_wp2
                go_roundw
                case rel => exact ⟨k + 1, _, _, _, _, by omega, by go_num, by rw [HRS.out]; exact HIT23.out.st, HIT23.out.hb⟩
                case measure => simp [intOf]; omega
              · refine step_callV rfl 131 #[.tmp 81, .tmp 83] _ rfl HRUNL.out #[.agg #[.int .i64 R, .slice ao os.length co], .int .i64 (nthO os k).els] (by first | rfl | (simp [Act.eval]; done) | (simp [Act.eval]; rfl) | (simp [Act.eval]; repeat' constructor)) (label_c R (.slice ao os.length co) (nthO os k).els _ (by omega) (by omega)) ?_
                rintro e wZ23 ⟨rfl, hbZ⟩
                refine ⟨_, rfl, ?_⟩
                refine hKr _ _ (fun _ => hsY.keep hbZ) ?_
                clear hKr Kr
                try simp only [List.getElem_toArray, List.getElem_cons_succ, List.getElem_cons_zero, Act.put, List.setIfInBounds_toArray, List.set_cons_zero, List.set_cons_succ]
                have hsZ := hsY.keep hbZ
                have hcZ := (bcell1 (b := gl23) hbZ zgl).trans hcY
                have hvZ := (bcell1 (b := ain) hbZ zin).trans (hin.at_ _ hLL).1
                have hfZ := (hbZ.frozen (p := ⟨ain, oin + (((R : Int) + (nthO os k).els)).toNat, none⟩) zin).trans (hin.at_ _ hLL).2
                refine wpC_one (i := 7) (l' := #[true, true, true, true, true, true, true, true, true, true, true, true, false, false, false, false, false]) (by kernel_rfl) rfl rfl (by rfl) (fun Kr hKr => ?_)
                go_simp
                refine hKr _ _ (fun _ => by first | exact hsZ | exact hsY) ?_
                clear hKr Kr
                try simp only [List.getElem_toArray, List.getElem_cons_succ, List.getElem_cons_zero, Act.put, List.setIfInBounds_toArray, List.set_cons_zero, List.set_cons_succ]
                refine wpC_take (i := 12) (v := ?v12_54) (l' := #[true, true, true, true, true, true, true, true, true, true, true, true, true, false, false, false, false]) [13, 14, 15, 16] rfl (by kernel_rfl) (by kernel_rfl) (by kernel_rfl) (by kernel_rfl) (by kernel_rfl) rfl (fun _ _ _ h => h) (by rfl) (fun wx hS => ?q12_54) (by assumption) ?_
                case q12_54 => (go_simp; try with_reducible rfl)
                try simp only [List.getElem_toArray, List.getElem_cons_succ, List.getElem_cons_zero, Act.put, List.setIfInBounds_toArray, List.set_cons_zero, List.set_cons_succ]
                refine wpC_one (i := 13) (l' := #[true, true, true, true, true, true, true, true, true, true, true, true, true, true, false, false, false]) (by kernel_rfl) rfl rfl (by rfl) (fun Kr hKr => ?_)
                go_simp
                refine hKr _ _ (fun _ => hsZ) ?_
                clear hKr Kr
                try simp only [List.getElem_toArray, List.getElem_cons_succ, List.getElem_cons_zero, Act.put, List.setIfInBounds_toArray, List.set_cons_zero, List.set_cons_succ]
                refine wpC_take (i := 14) (v := ?v14_55) (l' := #[true, true, true, true, true, true, true, true, true, true, true, true, true, true, true, false, false]) [15, 16] rfl (by kernel_rfl) (by kernel_rfl) (by kernel_rfl) (by kernel_rfl) (by kernel_rfl) rfl (fun _ _ _ h => h) (by rfl) (fun wx hS => ?q14_55) (by assumption) ?_
                case q14_55 => (go_simp; try with_reducible rfl)
                try simp only [List.getElem_toArray, List.getElem_cons_succ, List.getElem_cons_zero, Act.put, List.setIfInBounds_toArray, List.set_cons_zero, List.set_cons_succ]
                refine wpC_take (i := 15) (v := ?v15_56) (l' := #[true, true, true, true, true, true, true, true, true, true, true, true, true, true, true, true, false]) [16] rfl (by kernel_rfl) (by kernel_rfl) (by kernel_rfl) (by kernel_rfl) (by kernel_rfl) rfl (fun _ _ _ h => h) (by rfl) (fun wx hS => ?q15_56) (by assumption) ?_
                case q15_56 => (go_simp; try with_reducible rfl)
                try simp only [List.getElem_toArray, List.getElem_cons_succ, List.getElem_cons_zero, Act.put, List.setIfInBounds_toArray, List.set_cons_zero, List.set_cons_succ]
                refine wpC_one (i := 16) (l' := #[true, true, true, true, true, true, true, true, true, true, true, true, true, true, true, true, true]) (by kernel_rfl) rfl rfl (by rfl) (fun Kr hKr => ?_)
                go_simp
                refine hKr _ _ (fun h => absurd (by decide) h) ?_
                clear hKr Kr
                try simp only [List.getElem_toArray, List.getElem_cons_succ, List.getElem_cons_zero, Act.put, List.setIfInBounds_toArray, List.set_cons_zero, List.set_cons_succ]
                refine wpC_done (by kernel_rfl) ?_ _
                have hITE := (hITY.keep hbZ).put hin.mem (hin.put _ hbZ _ hLL)
                obtain ⟨wE23, hwE⟩ : ∃ wz, wz = wZ23.setCell ⟨ain, oin + (((R : Int) + (nthO os k).els)).toNat, none⟩ (.int .i64 (nth (bagK K [(nthO os k).reg]) (((R : Int) + (nthO os k).els)).toNat + 1)) := ⟨_, rfl⟩
                rw [← hwE] at hITE ⊢
                have HIT23 : Hid (Bit (w.heap.size + 1) wp wE23 w1.heap.size K (((rulesTo R os mode K k) ++ [(rulK K 0 [((R : Int) + (k : Int))] [] [] [(nthO os k).reg, ((R : Int) + (nthO os k).to)])]) ++ [(rulK K 0 [((R : Int) + (k : Int))] [] [] [(nthO os k).reg, ((R : Int) + (nthO os k).els)])]) (.slice (some ⟨gl23, 0, none⟩) (((rulesTo R os mode K k) ++ [(rulK K 0 [((R : Int) + (k : Int))] [] [] [(nthO os k).reg, ((R : Int) + (nthO os k).to)])]).length + 1) cl23) G23 (firstTo R os mode K (k + 1)) (.slice a7 ((firstTo R os mode K k).length + 1) c7) Gf7 w.heap.size wr.heap.size R ao os.length co (nthO os k)) := Lib.hid hITE
                clear hITE hwE hcZ hvZ hfZ hsZ hbZ hcY hsY hITY hin i2 hbd zgl zin hN hs0 zB
                have bx0 := HIT23.out.bx.p0
                have bx1 := HIT23.out.bx.p1
                have bx2 := HIT23.out.bx.o0
                have bx3 := HIT23.out.bx.o1
                have bx4 := HIT23.out.bx.o2
                have bx5 := HIT23.out.bx.o3
                have zB : w.heap.size + 1 ≤ wE23.heap.size := Nat.le_trans HIT23.out.st.mr.hg.1 (Nat.le_of_lt HIT23.out.st.mr.hg.2)
                go_wp2
                go_roundw
                case rel => exact ⟨k + 1, _, _, _, _, by omega, by go_num, by rw [HRS.out]; exact HIT23.out.st, HIT23.out.hb⟩
                case measure => simp [intOf]; omega
            · refine step_callV rfl 131 #[.tmp 60, .tmp 62] _ rfl HRUNL.out #[.agg #[.int .i64 R, .slice ao os.length co], .int .i64 (nthO os k).to] (by first | rfl | (simp [Act.eval]; done) | (simp [Act.eval]; rfl) | (simp [Act.eval]; repeat' constructor)) (label_c R (.slice ao os.length co) (nthO os k).to _ (by omega) (by omega)) ?_
              rintro e wZ22 ⟨rfl, hbZ⟩
              refine ⟨_, rfl, ?_⟩
              refine hKr _ _ (fun _ => hsY.keep hbZ) ?_
              clear hKr Kr
              try simp only [List.getElem_toArray, List.getElem_cons_succ, List.getElem_cons_zero, Act.put, List.setIfInBounds_toArray, List.set_cons_zero, List.set_cons_succ]
              have hsZ := hsY.keep hbZ
              have hcZ := (bcell1 (b := gl22) hbZ zgl).trans hcY
              have hvZ := (bcell1 (b := ain) hbZ zin).trans (hin.at_ _ hLL).1
              have hfZ := (hbZ.frozen (p := ⟨ain, oin + (((R : Int) + (nthO os k).to)).toNat, none⟩) zin).trans (hin.at_ _ hLL).2
              refine wpC_one (i := 7) (l' := #[true, true, true, true, true, true, true, true, true, true, true, true, false, false, false, false, false]) (by kernel_rfl) rfl rfl (by rfl) (fun Kr hKr => ?_)
              go_simp
              refine hKr _ _ (fun _ => by first | exact hsZ | exact hsY) ?_
              clear hKr Kr
              try simp only [List.getElem_toArray, List.getElem_cons_succ, List.getElem_cons_zero, Act.put, List.setIfInBounds_toArray, List.set_cons_zero, List.set_cons_succ]
              refine wpC_take (i := 12) (v := ?v12_57) (l' := #[true, true, true, true, true, true, true, true, true, true, true, true, true, false, false, false, false]) [13, 14, 15, 16] rfl (by kernel_rfl) (by kernel_rfl) (by kernel_rfl) (by kernel_rfl) (by kernel_rfl) rfl (fun _ _ _ h => h) (by rfl) (fun wx hS => ?q12_57) (by assumption) ?_
              case q12_57 => (go_simp; try with_reducible rfl)
              try simp only [List.getElem_toArray, List.getElem_cons_succ, List.getElem_cons_zero, Act.put, List.setIfInBounds_toArray, List.set_cons_zero, List.set_cons_succ]
              refine wpC_one (i := 13) (l' := #[true, true, true, true, true, true, true, true, true, true, true, true, true, true, false, false, false]) (by kernel_rfl) rfl rfl (by rfl) (fun Kr hKr => ?_)
              go_simp
              refine hKr _ _ (fun _ => hsZ) ?_
              clear hKr Kr
              try simp only [List.getElem_toArray, List.getElem_cons_succ, List.getElem_cons_zero, Act.put, List.setIfInBounds_toArray, List.set_cons_zero, List.set_cons_succ]
              refine wpC_take (i := 14) (v := ?v14_58) (l' := #[true, true, true, true, true, true, true, true, true, true, true, true, true, true, true, false, false]) [15, 16] rfl (by kernel_rfl) (by kernel_rfl) (by kernel_rfl) (by kernel_rfl) (by kernel_rfl) rfl (fun _ _ _ h => h) (by rfl) (fun wx hS => ?q14_58) (by assumption) ?_
              case q14_58 => (go_simp; try with_reducible rfl)
              try simp only [List.getElem_toArray, List.getElem_cons_succ, List.getElem_cons_zero, Act.put, List.setIfInBounds_toArray, List.set_cons_zero, List.set_cons_succ]
              refine wpC_take (i := 15) (v := ?v15_59) (l' := #[true, true, true, true, true, true, true, true, true, true, true, true, true, true, true, true, false]) [16] rfl (by kernel_rfl) (by kernel_rfl) (by kernel_rfl) (by kernel_rfl) (by kernel_rfl) rfl (fun _ _ _ h => h) (by rfl) (fun wx hS => ?q15_59) (by assumption) ?_
              case q15_59 => (go_simp; try with_reducible rfl)
              try simp only [List.getElem_toArray, List.getElem_cons_succ, List.getElem_cons_zero, Act.put, List.setIfInBounds_toArray, List.set_cons_zero, List.set_cons_succ]
              refine wpC_one (i := 16) (l' := #[true, true, true, true, true, true, true, true, true, true, true, true, true, true, true, true, true]) (by kernel_rfl) rfl rfl (by rfl) (fun Kr hKr => ?_)
              go_simp
              refine hKr _ _ (fun h => absurd (by decide) h) ?_
              clear hKr Kr
              try simp only [List.getElem_toArray, List.getElem_cons_succ, List.getElem_cons_zero, Act.put, List.setIfInBounds_toArray, List.set_cons_zero, List.set_cons_succ]
              refine wpC_done (by kernel_rfl) ?_ _
              have hITE := (hITY.keep hbZ).put hin.mem (hin.put _ hbZ _ hLL)
              obtain ⟨wE22, hwE⟩ : ∃ wz, wz = wZ22.setCell ⟨ain, oin + (((R : Int) + (nthO os k).to)).toNat, none⟩ (.int .i64 (nth (bagK K [(nthO os k).reg]) (((R : Int) + (nthO os k).to)).toNat + 1)) := ⟨_, rfl⟩
              rw [← hwE] at hITE ⊢
              have HIT22 : Hid (Bit (w.heap.size + 1) wp wE22 w1.heap.size K ((rulesTo R os mode K k) ++ [(rulK K 0 [((R : Int) + (k : Int))] [] [] [(nthO os k).reg, ((R : Int) + (nthO os k).to)])]) (.slice (some ⟨gl22, 0, none⟩) ((rulesTo R os mode K k).length + 1) cl22) G22 (firstTo R os mode K (k + 1)) (.slice a7 ((firstTo R os mode K k).length + 1) c7) Gf7 w.heap.size wr.heap.size R ao os.length co (nthO os k)) := Lib.hid hITE
              clear hITE hwE hcZ hvZ hfZ hsZ hbZ hcY hsY hITY hin i2 hbd zgl zin hN hs0 zB
              have bx0 := HIT22.out.bx.p0
              have bx1 := HIT22.out.bx.p1
              have bx2 := HIT22.out.bx.o0
              have bx3 := HIT22.out.bx.o1
              have bx4 := HIT22.out.bx.o2
              have bx5 := HIT22.out.bx.o3
              have zB : w.heap.size + 1 ≤ wE22.heap.size := Nat.le_trans HIT22.out.st.mr.hg.1 (Nat.le_of_lt HIT22.out.st.mr.hg.2)
              clear bx0 bx1 bx2 bx3 bx4 bx5 zB
              have hs0 := HIT22.out.bx.keep (below_dr (Below.refl _ _))
              have zB : w.heap.size + 1 ≤ wE22.heap.size := Nat.le_trans HIT22.out.st.mr.hg.1 (Nat.le_of_lt HIT22.out.st.mr.hg.2)
              have bx2 := HIT22.out.bx.o0
              have bx4 := HIT22.out.bx.o2
              have bx5 := HIT22.out.bx.o3
              go_wp2
              clear bx2 bx4 bx5
              refine wp_region_C (n := 17) (l := #[false, false, false, false, false, false, false, false, false, false, false, false, false, false, false, false, false]) (fun wx => Bx wx w.heap.size wr.heap.size R ao os.length co (nthO os k)) [16] (by kernel_rfl) rfl rfl ?_
              refine wpC_take (i := 0) (v := ?v0_60) (l' := #[true, false, false, false, false, false, false, false, false, false, false, false, false, false, false, false, false]) [4, 5, 6, 7, 11, 12, 13, 14, 15, 16] rfl (by kernel_rfl) (by kernel_rfl) (by kernel_rfl) (by kernel_rfl) (by kernel_rfl) rfl (fun _ _ _ h => h) (by rfl) (fun wx hS => ?q0_60) (by assumption) ?_
              case q0_60 => (go_simp; try with_reducible rfl)
              try simp only [List.getElem_toArray, List.getElem_cons_zero, Act.put, List.setIfInBounds_toArray, List.set_cons_zero, List.set_cons_succ]
              refine wpC_take (i := 1) (v := ?v1_61) (l' := #[true, true, false, false, false, false, false, false, false, false, false, false, false, false, false, false, false]) [4, 5, 6, 7, 11, 12, 13, 14, 15, 16] rfl (by kernel_rfl) (by kernel_rfl) (by kernel_rfl) (by kernel_rfl) (by kernel_rfl) rfl (fun _ _ _ h => h) (by rfl) (fun wx hS => ?q1_61) (by assumption) ?_
              case q1_61 => (go_simp; try with_reducible rfl)
              try simp only [List.getElem_toArray, List.getElem_cons_succ, List.getElem_cons_zero, Act.put, List.setIfInBounds_toArray, List.set_cons_zero, List.set_cons_succ]
              refine wpC_take (i := 2) (v := ?v2_62) (l' := #[true, true, true, false, false, false, false, false, false, false, false, false, false, false, false, false, false]) [3, 4, 5, 6, 7, 11, 12, 13, 14, 15, 16] rfl (by kernel_rfl) (by kernel_rfl) (by kernel_rfl) (by kernel_rfl) (by kernel_rfl) rfl (fun _ _ _ h => h) (by rfl) (fun wx hS => ?q2_62) (by assumption) ?_
              case q2_62 => (go_simp; try with_reducible rfl)
              try simp only [List.getElem_toArray, List.getElem_cons_succ, List.getElem_cons_zero, Act.put, List.setIfInBounds_toArray, List.set_cons_zero, List.set_cons_succ]
              refine wpC_take (i := 8) (v := ?v8_63) (l' := #[true, true, true, false, false, false, false, false, true, false, false, false, false, false, false, false, false]) [11, 12, 13, 14, 15, 16] rfl (by kernel_rfl) (by kernel_rfl) (by kernel_rfl) (by kernel_rfl) (by kernel_rfl) rfl (fun _ _ _ h => h) (by rfl) (fun wx hS => ?q8_63) (by assumption) ?_
              case q8_63 => ((try dsimp only at hS); have s0 := Bx.p0 hS; have s1 := Bx.p1 hS; have s2 := Bx.o0 hS; have s3 := Bx.o1 hS; have s4 := Bx.o2 hS; have s5 := Bx.o3 hS; go_simp; try with_reducible rfl)
              try simp only [List.getElem_toArray, List.getElem_cons_succ, List.getElem_cons_zero, Act.put, List.setIfInBounds_toArray, List.set_cons_zero, List.set_cons_succ]
              refine wpC_take (i := 9) (v := ?v9_64) (l' := #[true, true, true, false, false, false, false, false, true, true, false, false, false, false, false, false, false]) [10, 11, 12, 13, 14, 15, 16] rfl (by kernel_rfl) (by kernel_rfl) (by kernel_rfl) (by kernel_rfl) (by kernel_rfl) rfl (fun _ _ _ h => h) (by rfl) (fun wx hS => ?q9_64) (by assumption) ?_
              case q9_64 => (go_simp; try with_reducible rfl)
              try simp only [List.getElem_toArray, List.getElem_cons_succ, List.getElem_cons_zero, Act.put, List.setIfInBounds_toArray, List.set_cons_zero, List.set_cons_succ]
              refine wpC_take (i := 10) (v := ?v10_65) (l' := #[true, true, true, false, false, false, false, false, true, true, true, false, false, false, false, false, false]) [11, 12, 13, 14, 15, 16] rfl (by kernel_rfl) (by kernel_rfl) (by kernel_rfl) (by kernel_rfl) (by kernel_rfl) rfl (fun _ _ _ h => h) (by rfl) (fun wx hS => ?q10_65) (by assumption) ?_
              case q10_65 => ((try dsimp only at hS); have s0 := Bx.p0 hS; have s1 := Bx.p1 hS; have s2 := Bx.o0 hS; have s3 := Bx.o1 hS; have s4 := Bx.o2 hS; have s5 := Bx.o3 hS; go_simp; try with_reducible rfl)
              try simp only [List.getElem_toArray, List.getElem_cons_succ, List.getElem_cons_zero, Act.put, List.setIfInBounds_toArray, List.set_cons_zero, List.set_cons_succ]
              refine wpC_one (i := 3) (l' := #[true, true, true, true, false, false, false, false, true, true, true, false, false, false, false, false, false]) (by kernel_rfl) rfl rfl (by rfl) (fun Kr hKr => ?_)
              go_simp
              refine hKr _ _ (fun _ => HIT22.out.bx.keep (below_dr (below_alloc _ _))) ?_
              clear hKr Kr
              try simp only [List.getElem_toArray, List.getElem_cons_succ, List.getElem_cons_zero, Act.put, List.setIfInBounds_toArray, List.set_cons_zero, List.set_cons_succ]
              refine wpC_one (i := 4) (l' := #[true, true, true, true, true, false, false, false, true, true, true, false, false, false, false, false, false]) (by kernel_rfl) rfl rfl (by rfl) (fun Kr hKr => ?_)
              refine step_callV rfl 132 #[.tmp 73, .tmp 74, .tmp 76] _ rfl HRUNR.out #[.pointer (some ⟨w1.heap.size, 0, none⟩), .int .i64 (nthO os k).reg, .slice (some ⟨wE22.heap.size, 0, none⟩) 1 1] (by first | rfl | (simp [Act.eval]; done) | (simp [Act.eval]; rfl) | (simp [Act.eval]; repeat' constructor)) (rule_c K w1.heap.size (nthO os k).reg (some ⟨wE22.heap.size, 0, none⟩) 1 [((R : Int) + (k : Int))] (w.heap.size + 1) ((rulesTo R os mode K k) ++ [(rulK K 0 [((R : Int) + (k : Int))] [] [] [(nthO os k).reg, ((R : Int) + (nthO os k).to)])]) (.slice (some ⟨gl22, 0, none⟩) ((rulesTo R os mode K k).length + 1) cl22) G22 _ (HIT22.out.keep (below_dr (below_alloc _ _))).st.mr (by (try simp); omega) (SlI.one (by simp [go_sem])) (by simp) (rng1 (by omega)) (by omega) hk2 (by (try simp); omega)) ?_
              rintro e wY24 ⟨gl24, cl24, G24, rfl, hN⟩
              refine ⟨_, rfl, ?_⟩
              have hITY := (HIT22.out.keep (below_dr (below_alloc _ _))).rule hN
              refine hKr _ _ (fun _ => hITY.bx) ?_
              clear hKr Kr
              try simp only [List.getElem_toArray, List.getElem_cons_succ, List.getElem_cons_zero, Act.put, List.setIfInBounds_toArray, List.set_cons_zero, List.set_cons_succ]
              have hsY := hITY.bx
              obtain ⟨ain, oin, cin, hin⟩ := hITY.st.inner (upd := fun ys => { rulK K 0 [((R : Int) + (k : Int))] [] [] [(nthO os k).reg] with here := ys }) (xs := (bagK K [(nthO os k).reg])) rfl (fun _ => [.i 0, .i 0, dI (bagK K [((R : Int) + (k : Int))]), dI (bagK K []), dI (bagK K [])]) (fun _ => [dI (bagK K []), dInn [], .b false]) 5 (fun ys => rfl) rfl (bagK_len _ _) hKp
              have hL0 : (0 : Int) ≤ ((R : Int) + (nthO os k).els) := by omega
              have hL1 : ((R : Int) + (nthO os k).els) < (K : Int) := by omega
              have hLL : (((R : Int) + (nthO os k).els)).toNat < K := by omega
              have hbd : 0 ≤ nth (bagK K [(nthO os k).reg]) (((R : Int) + (nthO os k).els)).toNat ∧ nth (bagK K [(nthO os k).reg]) (((R : Int) + (nthO os k).els)).toNat ≤ 1 := (bagTo_bd K [(nthO os k).reg] (rng1 (by omega)) 1 (by simp) _)
              have hwr : IntKind.i64.wrap (nth (bagK K [(nthO os k).reg]) (((R : Int) + (nthO os k).els)).toNat + 1) = nth (bagK K [(nthO os k).reg]) (((R : Int) + (nthO os k).els)).toNat + 1 := by rw [IntKind.wrap_i64]; omega
              have i2 := ix_of (P := Try.prog) tabI.under tabI.size (a := some ⟨ain, oin, none⟩) (n := K) (fun _ => ⟨ain, oin, rfl⟩) cin
              simp only [Nat.mul_one, adr, blk, ofs] at i2
              have hcY := hin.cell
              try simp only [List.length_append, List.length_cons, List.length_nil, Nat.zero_add] at hcY
              have zgl : gl24 < wY24.heap.size := (hITY.st.mr.lst.lt _ hN.gl).2
              have zin : ain < wY24.heap.size := (hITY.st.mr.lst.lt _ hin.mem).2
              refine wpC_take (i := 5) (v := ?v5_66) (l' := #[true, true, true, true, true, true, false, false, true, true, true, false, false, false, false, false, false]) [6, 7, 12, 13, 14, 15, 16] rfl (by kernel_rfl) (by kernel_rfl) (by kernel_rfl) (by kernel_rfl) (by kernel_rfl) rfl (fun _ _ _ h => h) (by rfl) (fun wx hS => ?q5_66) (by assumption) ?_
              case q5_66 => (go_simp; try with_reducible rfl)
              try simp only [List.getElem_toArray, List.getElem_cons_succ, List.getElem_cons_zero, Act.put, List.setIfInBounds_toArray, List.set_cons_zero, List.set_cons_succ]
              refine wpC_take (i := 6) (v := ?v6_67) (l' := #[true, true, true, true, true, true, true, false, true, true, true, false, false, false, false, false, false]) [7, 12, 13, 14, 15, 16] rfl (by kernel_rfl) (by kernel_rfl) (by kernel_rfl) (by kernel_rfl) (by kernel_rfl) rfl (fun _ _ _ h => h) (by rfl) (fun wx hS => ?q6_67) (by assumption) ?_
              case q6_67 => (go_simp; try with_reducible rfl)
              try simp only [List.getElem_toArray, List.getElem_cons_succ, List.getElem_cons_zero, Act.put, List.setIfInBounds_toArray, List.set_cons_zero, List.set_cons_succ]
              refine wpC_two (i := 7) (j := 11) (l' := #[true, true, true, true, true, true, true, true, true, true, true, false, false, false, false, false, false]) (l'' := #[true, true, true, true, true, true, true, false, true, true, true, true, false, false, false, false, false]) (by kernel_rfl) rfl rfl rfl rfl (by rfl) (by rfl) (fun Kr hKr => ?_) (fun Kr hKr => ?_)
              · go_simp
                refine hKr _ _ (fun _ => by first | exact hsZ | exact hsY) ?_
                clear hKr Kr
                try simp only [List.getElem_toArray, List.getElem_cons_succ, List.getElem_cons_zero, Act.put, List.setIfInBounds_toArray, List.set_cons_zero, List.set_cons_succ]
                refine wpC_one (i := 11) (l' := #[true, true, true, true, true, true, true, true, true, true, true, true, false, false, false, false, false]) (by kernel_rfl) rfl rfl (by rfl) (fun Kr hKr => ?_)
                refine step_callV rfl 131 #[.tmp 81, .tmp 83] _ rfl HRUNL.out #[.agg #[.int .i64 R, .slice ao os.length co], .int .i64 (nthO os k).els] (by first | rfl | (simp [Act.eval]; done) | (simp [Act.eval]; rfl) | (simp [Act.eval]; repeat' constructor)) (label_c R (.slice ao os.length co) (nthO os k).els _ (by omega) (by omega)) ?_
                rintro e wZ24 ⟨rfl, hbZ⟩
                refine ⟨_, rfl, ?_⟩
                refine hKr _ _ (fun _ => hsY.keep hbZ) ?_
                clear hKr Kr
                try simp only [List.getElem_toArray, List.getElem_cons_succ, List.getElem_cons_zero, Act.put, List.setIfInBounds_toArray, List.set_cons_zero, List.set_cons_succ]
                have hsZ := hsY.keep hbZ
                have hcZ := (bcell1 (b := gl24) hbZ zgl).trans hcY
                have hvZ := (bcell1 (b := ain) hbZ zin).trans (hin.at_ _ hLL).1
                have hfZ := (hbZ.frozen (p := ⟨ain, oin + (((R : Int) + (nthO os k).els)).toNat, none⟩) zin).trans (hin.at_ _ hLL).2
                refine wpC_take (i := 12) (v := ?v12_68) (l' := #[true, true, true, true, true, true, true, true, true, true, true, true, true, false, false, false, false]) [13, 14, 15, 16] rfl (by kernel_rfl) (by kernel_rfl) (by kernel_rfl) (by kernel_rfl) (by kernel_rfl) rfl (fun _ _ _ h => h) (by rfl) (fun wx hS => ?q12_68) (by assumption) ?_
                case q12_68 => (go_simp; try with_reducible rfl)
                try simp only [List.getElem_toArray, List.getElem_cons_succ, List.getElem_cons_zero, Act.put, List.setIfInBounds_toArray, List.set_cons_zero, List.set_cons_succ]
                refine wpC_one (i := 13) (l' := #[true, true, true, true, true, true, true, true, true, true, true, true, true, true, false, false, false]) (by kernel_rfl) rfl rfl (by rfl) (fun Kr hKr => ?_)
                go_simp
                refine hKr _ _ (fun _ => hsZ) ?_
                clear hKr Kr
                try simp only [List.getElem_toArray, List.getElem_cons_succ, List.getElem_cons_zero, Act.put, List.setIfInBounds_toArray, List.set_cons_zero, List.set_cons_succ]
                refine wpC_take (i := 14) (v := ?v14_69) (l' := #[true, true, true, true, true, true, true, true, true, true, true, true, true, true, true, false, false]) [15, 16] rfl (by kernel_rfl) (by kernel_rfl) (by kernel_rfl) (by kernel_rfl) (by kernel_rfl) rfl (fun _ _ _ h => h) (by rfl) (fun wx hS => ?q14_69) (by assumption) ?_
                case q14_69 => (go_simp; try with_reducible rfl)
                try simp only [List.getElem_toArray, List.getElem_cons_succ, List.getElem_cons_zero, Act.put, List.setIfInBounds_toArray, List.set_cons_zero, List.set_cons_succ]
                refine wpC_take (i := 15) (v := ?v15_70) (l' := #[true, true, true, true, true, true, true, true, true, true, true, true, true, true, true, true, false]) [16] rfl (by kernel_rfl) (by kernel_rfl) (by kernel_rfl) (by kernel_rfl) (by kernel_rfl) rfl (fun _ _ _ h => h) (by rfl) (fun wx hS => ?q15_70) (by assumption) ?_
                case q15_70 => (go_simp; try with_reducible rfl)
                try simp only [List.getElem_toArray, List.getElem_cons_succ, List.getElem_cons_zero, Act.put, List.setIfInBounds_toArray, List.set_cons_zero, List.set_cons_succ]
                refine wpC_one (i := 16) (l' := #[true, true, true, true, true, true, true, true, true, true, true, true, true, true, true, true, true]) (by kernel_rfl) rfl rfl (by rfl) (fun Kr hKr => ?_)
                go_simp
                refine hKr _ _ (fun h => absurd (by decide) h) ?_
                clear hKr Kr
                try simp only [List.getElem_toArray, List.getElem_cons_succ, List.getElem_cons_zero, Act.put, List.setIfInBounds_toArray, List.set_cons_zero, List.set_cons_succ]
                refine wpC_done (by kernel_rfl) ?_ _
                have hITE := (hITY.keep hbZ).put hin.mem (hin.put _ hbZ _ hLL)
                obtain ⟨wE24, hwE⟩ : ∃ wz, wz = wZ24.setCell ⟨ain, oin + (((R : Int) + (nthO os k).els)).toNat, none⟩ (.int .i64 (nth (bagK K [(nthO os k).reg]) (((R : Int) + (nthO os k).els)).toNat + 1)) := ⟨_, rfl⟩
                rw [← hwE] at hITE ⊢
                have HIT24 : Hid (Bit (w.heap.size + 1) wp wE24 w1.heap.size K (((rulesTo R os mode K k) ++ [(rulK K 0 [((R : Int) + (k : Int))] [] [] [(nthO os k).reg, ((R : Int) + (nthO os k).to)])]) ++ [(rulK K 0 [((R : Int) + (k : Int))] [] [] [(nthO os k).reg, ((R : Int) + (nthO os k).els)])]) (.slice (some ⟨gl24, 0, none⟩) (((rulesTo R os mode K k) ++ [(rulK K 0 [((R : Int) + (k : Int))] [] [] [(nthO os k).reg, ((R : Int) + (nthO os k).to)])]).length + 1) cl24) G24 (firstTo R os mode K (k + 1)) (.slice a7 ((firstTo R os mode K k).length + 1) c7) Gf7 w.heap.size wr.heap.size R ao os.length co (nthO os k)) := Lib.hid hITE
                clear hITE hwE hcZ hvZ hfZ hsZ hbZ hcY hsY hITY hin i2 hbd zgl zin hN hs0 zB
                have bx0 := HIT24.out.bx.p0
                have bx1 := HIT24.out.bx.p1
                have bx2 := HIT24.out.bx.o0
                have bx3 := HIT24.out.bx.o1
                have bx4 := HIT24.out.bx.o2
                have bx5 := HIT24.out.bx.o3
                have zB : w.heap.size + 1 ≤ wE24.heap.size := Nat.le_trans HIT24.out.st.mr.hg.1 (Nat.le_of_lt HIT24.out.st.mr.hg.2)
                go_wp2
                go_roundw
                case rel => exact ⟨k + 1, _, _, _, _, by omega, by go_num, by rw [HRS.out]; exact HIT24.out.st, HIT24.out.hb⟩
                case measure => simp [intOf]; omega
              · refine step_callV rfl 131 #[.tmp 81, .tmp 83] _ rfl HRUNL.out #[.agg #[.int .i64 R, .slice ao os.length co], .int .i64 (nthO os k).els] (by first | rfl | (simp [Act.eval]; done) | (simp [Act.eval]; rfl) | (simp [Act.eval]; repeat' constructor)) (label_c R (.slice ao os.length co) (nthO os k).els _ (by omega) (by omega)) ?_
                rintro e wZ24 ⟨rfl, hbZ⟩
                refine ⟨_, rfl, ?_⟩
                refine hKr _ _ (fun _ => hsY.keep hbZ) ?_
                clear hKr Kr
                try simp only [List.getElem_toArray, List.getElem_cons_succ, List.getElem_cons_zero, Act.put, List.setIfInBounds_toArray, List.set_cons_zero, List.set_cons_succ]
                have hsZ := hsY.keep hbZ
                have hcZ := (bcell1 (b := gl24) hbZ zgl).trans hcY
                have hvZ := (bcell1 (b := ain) hbZ zin).trans (hin.at_ _ hLL).1
                have hfZ := (hbZ.frozen (p := ⟨ain, oin + (((R : Int) + (nthO os k).els)).toNat, none⟩) zin).trans (hin.at_ _ hLL).2
                refine wpC_one (i := 7) (l' := #[true, true, true, true, true, true, true, true, true, true, true, true, false, false, false, false, false]) (by kernel_rfl) rfl rfl (by rfl) (fun Kr hKr => ?_)
                go_simp
                refine hKr _ _ (fun _ => by first | exact hsZ | exact hsY) ?_
                clear hKr Kr
                try simp only [List.getElem_toArray, List.getElem_cons_succ, List.getElem_cons_zero, Act.put, List.setIfInBounds_toArray, List.set_cons_zero, List.set_cons_succ]
                refine wpC_take (i := 12) (v := ?v12_71) (l' := #[true, true, true, true, true, true, true, true, true, true, true, true, true, false, false, false, false]) [13, 14, 15, 16] rfl (by kernel_rfl) (by kernel_rfl) (by kernel_rfl) (by kernel_rfl) (by kernel_rfl) rfl (fun _ _ _ h => h) (by rfl) (fun wx hS => ?q12_71) (by assumption) ?_
                case q12_71 => (go_simp; try with_reducible rfl)
                try simp only [List.getElem_toArray, List.getElem_cons_succ, List.getElem_cons_zero, Act.put, List.setIfInBounds_toArray, List.set_cons_zero, List.set_cons_succ]
                refine wpC_one (i := 13) (l' := #[true, true, true, true, true, true, true, true, true, true, true, true, true, true, false, false, false]) (by kernel_rfl) rfl rfl (by rfl) (fun Kr hKr => ?_)
                go_simp
                refine hKr _ _ (fun _ => hsZ) ?_
                clear hKr Kr
                try simp only [List.getElem_toArray, List.getElem_cons_succ, List.getElem_cons_zero, Act.put, List.setIfInBounds_toArray, List.set_cons_zero, List.set_cons_succ]
                refine wpC_take (i := 14) (v := ?v14_72) (l' := #[true, true, true, true, true, true, true, true, true, true, true, true, true, true, true, false, false]) [15, 16] rfl (by kernel_rfl) (by kernel_rfl) (by kernel_rfl) (by kernel_rfl) (by kernel_rfl) rfl (fun _ _ _ h => h) (by rfl) (fun wx hS => ?q14_72) (by assumption) ?_
                case q14_72 => (go_simp; try with_reducible rfl)
                try simp only [List.getElem_toArray, List.getElem_cons_succ, List.getElem_cons_zero, Act.put, List.setIfInBounds_toArray, List.set_cons_zero, List.set_cons_succ]
                refine wpC_take (i := 15) (v := ?v15_73) (l' := #[true, true, true, true, true, true, true, true, true, true, true, true, true, true, true, true, false]) [16] rfl (by kernel_rfl) (by kernel_rfl) (by kernel_rfl) (by kernel_rfl) (by kernel_rfl) rfl (fun _ _ _ h => h) (by rfl) (fun wx hS => ?q15_73) (by assumption) ?_
                case q15_73 => (go_simp; try with_reducible rfl)
                try simp only [List.getElem_toArray, List.getElem_cons_succ, List.getElem_cons_zero, Act.put, List.setIfInBounds_toArray, List.set_cons_zero, List.set_cons_succ]
                refine wpC_one (i := 16) (l' := #[true, true, true, true, true, true, true, true, true, true, true, true, true, true, true, true, true]) (by kernel_rfl) rfl rfl (by rfl) (fun Kr hKr => ?_)
                go_simp
                refine hKr _ _ (fun h => absurd (by decide) h) ?_
                clear hKr Kr
                try simp only [List.getElem_toArray, List.getElem_cons_succ, List.getElem_cons_zero, Act.put, List.setIfInBounds_toArray, List.set_cons_zero, List.set_cons_succ]
                refine wpC_done (by kernel_rfl) ?_ _
                have hITE := (hITY.keep hbZ).put hin.mem (hin.put _ hbZ _ hLL)
                obtain ⟨wE24, hwE⟩ : ∃ wz, wz = wZ24.setCell ⟨ain, oin + (((R : Int) + (nthO os k).els)).toNat, none⟩ (.int .i64 (nth (bagK K [(nthO os k).reg]) (((R : Int) + (nthO os k).els)).toNat + 1)) := ⟨_, rfl⟩
                rw [← hwE] at hITE ⊢
                have HIT24 : Hid (Bit (w.heap.size + 1) wp wE24 w1.heap.size K (((rulesTo R os mode K k) ++ [(rulK K 0 [((R : Int) + (k : Int))] [] [] [(nthO os k).reg, ((R : Int) + (nthO os k).to)])]) ++ [(rulK K 0 [((R : Int) + (k : Int))] [] [] [(nthO os k).reg, ((R : Int) + (nthO os k).els)])]) (.slice (some ⟨gl24, 0, none⟩) (((rulesTo R os mode K k) ++ [(rulK K 0 [((R : Int) + (k : Int))] [] [] [(nthO os k).reg, ((R : Int) + (nthO os k).to)])]).length + 1) cl24) G24 (firstTo R os mode K (k + 1)) (.slice a7 ((firstTo R os mode K k).length + 1) c7) Gf7 w.heap.size wr.heap.size R ao os.length co (nthO os k)) := Lib.hid hITE
                clear hITE hwE hcZ hvZ hfZ hsZ hbZ hcY hsY hITY hin i2 hbd zgl zin hN hs0 zB
                have bx0 := HIT24.out.bx.p0
                have bx1 := HIT24.out.bx.p1
                have bx2 := HIT24.out.bx.o0
                have bx3 := HIT24.out.bx.o1
                have bx4 := HIT24.out.bx.o2
                have bx5 := HIT24.out.bx.o3
                have zB : w.heap.size + 1 ≤ wE24.heap.size := Nat.le_trans HIT24.out.st.mr.hg.1 (Nat.le_of_lt HIT24.out.st.mr.hg.2)
                go_wp2
                go_roundw
                case rel => exact ⟨k + 1, _, _, _, _, by omega, by go_num, by rw [HRS.out]; exact HIT24.out.st, HIT24.out.hb⟩
                case measure => simp [intOf]; omega
        · have hq1 : ((nthO os k).op == 1) = false := by simpa using hp1
          have hp2 : (nthO os k).op = 2 := by rcases hop with h | h; exact absurd h hp1; exact h
          have hq2 : ((nthO os k).op == 2) = true := by simpa using hp2
          by_cases hm1 : mode = 1
          · have hr1 : (mode == 1) = true := by simpa using hm1
            have bx0 := HIT9.out.bx.p0
            have bx1 := HIT9.out.bx.p1
            have bx2 := HIT9.out.bx.o0
            have bx3 := HIT9.out.bx.o1
            have bx4 := HIT9.out.bx.o2
            have bx5 := HIT9.out.bx.o3
            have zB : w.heap.size + 1 ≤ w9.heap.size := Nat.le_trans HIT9.out.st.mr.hg.1 (Nat.le_of_lt HIT9.out.st.mr.hg.2)
            have HRS : Hid (rulesTo R os mode K (k + 1) = (((rulesTo R os mode K k) ++ [(rulK K 1 [((R : Int) + (k : Int)), (nthO os k).reg] [] [] [((R : Int) + (nthO os k).to)])]) ++ [(rulK K 0 [((R : Int) + (k : Int))] [] [] [((R : Int) + (nthO os k).els)])])) := Lib.hid (by rw [rulesTo, ordRules, if_neg hp1, if_pos hp2, if_pos hm1] <;> simp)
            clear hp1 hp2 hm1 hop
            go_wp2_with fail
            refine (label_c R (.slice ao os.length co) (nthO os k).to _ (by omega) (by omega)).mono ?_
            rintro e w25 ⟨rfl, hb⟩
            have HIT25 := Lib.hid (HIT9.out.keep hb)
            clear bx0 bx1 bx2 bx3 bx4 bx5 zB
            clear hb
            have bx0 := HIT25.out.bx.p0
            have bx1 := HIT25.out.bx.p1
            have bx2 := HIT25.out.bx.o0
            have bx3 := HIT25.out.bx.o1
            have bx4 := HIT25.out.bx.o2
            have bx5 := HIT25.out.bx.o3
            have zB : w.heap.size + 1 ≤ w25.heap.size := Nat.le_trans HIT25.out.st.mr.hg.1 (Nat.le_of_lt HIT25.out.st.mr.hg.2)
            go_wp2_with fail
            refine (rule_c K w1.heap.size ((R : Int) + (nthO os k).to) (some ⟨w25.heap.size, 0, none⟩) 2 [((R : Int) + (k : Int)), (nthO os k).reg] (w.heap.size + 1) (rulesTo R os mode K k) (.slice av (rulesTo R os mode K k).length cv) G _ (HIT25.out.keep (below_alloc _ _)).st.mr (by (try simp); omega) (SlI.two (by simp [go_sem]) (by simp [go_sem])) (by simp) (rng2 (by omega) (by omega)) (by omega) hk2 (by (try simp); omega)).mono ?_
            rintro e w26 ⟨gl26, cl26, G26, rfl, hN⟩
            have HIT26 := Lib.hid ((HIT25.out.keep (below_alloc _ _)).rule hN)
            clear hN
            clear bx0 bx1 bx2 bx3 bx4 bx5 zB
            have bx0 := HIT26.out.bx.p0
            have bx1 := HIT26.out.bx.p1
            have bx2 := HIT26.out.bx.o0
            have bx3 := HIT26.out.bx.o1
            have bx4 := HIT26.out.bx.o2
            have bx5 := HIT26.out.bx.o3
            have zB : w.heap.size + 1 ≤ w26.heap.size := Nat.le_trans HIT26.out.st.mr.hg.1 (Nat.le_of_lt HIT26.out.st.mr.hg.2)
            obtain ⟨z1, z2, hgl, hBgl, hst⟩ := HIT26.out.st.rank rfl 1
            have hgn1 : ¬ gl26 = w.heap.size := by omega
            have hgn2 : ¬ w.heap.size = gl26 := by omega
            have hgn3 : ¬ gl26 = wr.heap.size := fun e => HIT26.out.hn (e ▸ hgl)
            have hgn4 : ¬ wr.heap.size = gl26 := fun e => HIT26.out.hn (e ▸ hgl)
            have HITr := Lib.hid (HIT26.out.put hgl hst)
            clear hst
            go_wp2_with fail
            refine (label_c R (.slice ao os.length co) (nthO os k).els _ (by omega) (by omega)).mono ?_
            rintro e w27 ⟨rfl, hb⟩
            have HIT27 := Lib.hid (HITr.out.keep hb)
            clear bx0 bx1 bx2 bx3 bx4 bx5 zB
            clear hb
            have bx0 := HIT27.out.bx.p0
            have bx1 := HIT27.out.bx.p1
            have bx2 := HIT27.out.bx.o0
            have bx3 := HIT27.out.bx.o1
            have bx4 := HIT27.out.bx.o2
            have bx5 := HIT27.out.bx.o3
            have zB : w.heap.size + 1 ≤ w27.heap.size := Nat.le_trans HIT27.out.st.mr.hg.1 (Nat.le_of_lt HIT27.out.st.mr.hg.2)
            go_wp2_with fail
            refine (rule_c K w1.heap.size ((R : Int) + (nthO os k).els) (some ⟨w27.heap.size, 0, none⟩) 1 [((R : Int) + (k : Int))] (w.heap.size + 1) ((rulesTo R os mode K k) ++ [(rulK K 1 [((R : Int) + (k : Int)), (nthO os k).reg] [] [] [((R : Int) + (nthO os k).to)])]) (.slice (some ⟨gl26, 0, none⟩) ((rulesTo R os mode K k).length + 1) cl26) G26 _ (HIT27.out.keep (below_alloc _ _)).st.mr (by (try simp); omega) (SlI.one (by simp [go_sem])) (by simp) (rng1 (by omega)) (by omega) hk2 (by (try simp); omega)).mono ?_
            rintro e w28 ⟨gl28, cl28, G28, rfl, hN⟩
            have HIT28 := Lib.hid ((HIT27.out.keep (below_alloc _ _)).rule hN)
            clear hN
            clear bx0 bx1 bx2 bx3 bx4 bx5 zB
            have bx0 := HIT28.out.bx.p0
            have bx1 := HIT28.out.bx.p1
            have bx2 := HIT28.out.bx.o0
            have bx3 := HIT28.out.bx.o1
            have bx4 := HIT28.out.bx.o2
            have bx5 := HIT28.out.bx.o3
            have zB : w.heap.size + 1 ≤ w28.heap.size := Nat.le_trans HIT28.out.st.mr.hg.1 (Nat.le_of_lt HIT28.out.st.mr.hg.2)
            go_wp2
            go_roundw
            case rel => exact ⟨k + 1, _, _, _, _, by omega, by go_num, by rw [HRS.out]; exact HIT28.out.st, HIT28.out.hb⟩
            case measure => simp [intOf]; omega
          · have hr1 : (mode == 1) = false := by simpa using hm1
            by_cases hm2 : mode = 2
            · have hr2 : (mode == 2) = true := by simpa using hm2
              have bx0 := HIT9.out.bx.p0
              have bx1 := HIT9.out.bx.p1
              have bx2 := HIT9.out.bx.o0
              have bx3 := HIT9.out.bx.o1
              have bx4 := HIT9.out.bx.o2
              have bx5 := HIT9.out.bx.o3
              have zB : w.heap.size + 1 ≤ w9.heap.size := Nat.le_trans HIT9.out.st.mr.hg.1 (Nat.le_of_lt HIT9.out.st.mr.hg.2)
              have HRS : Hid (rulesTo R os mode K (k + 1) = (((rulesTo R os mode K k) ++ [(rulK K 0 [((R : Int) + (k : Int)), (nthO os k).reg] [] [] [((R : Int) + (nthO os k).to)])]) ++ [(rulK K 0 [((R : Int) + (k : Int))] [] [(nthO os k).reg] [((R : Int) + (nthO os k).els)])])) := Lib.hid (by rw [rulesTo, ordRules, if_neg hp1, if_pos hp2, if_neg hm1, if_pos hm2] <;> simp)
              clear hp1 hp2 hm1 hm2 hop
              go_wp2_with fail
              refine (label_c R (.slice ao os.length co) (nthO os k).to _ (by omega) (by omega)).mono ?_
              rintro e w29 ⟨rfl, hb⟩
              have HIT29 := Lib.hid (HIT9.out.keep hb)
              clear bx0 bx1 bx2 bx3 bx4 bx5 zB
              clear hb
              have bx0 := HIT29.out.bx.p0
              have bx1 := HIT29.out.bx.p1
              have bx2 := HIT29.out.bx.o0
              have bx3 := HIT29.out.bx.o1
              have bx4 := HIT29.out.bx.o2
              have bx5 := HIT29.out.bx.o3
              have zB : w.heap.size + 1 ≤ w29.heap.size := Nat.le_trans HIT29.out.st.mr.hg.1 (Nat.le_of_lt HIT29.out.st.mr.hg.2)
              go_wp2_with fail
              refine (rule_c K w1.heap.size ((R : Int) + (nthO os k).to) (some ⟨w29.heap.size, 0, none⟩) 2 [((R : Int) + (k : Int)), (nthO os k).reg] (w.heap.size + 1) (rulesTo R os mode K k) (.slice av (rulesTo R os mode K k).length cv) G _ (HIT29.out.keep (below_alloc _ _)).st.mr (by (try simp); omega) (SlI.two (by simp [go_sem]) (by simp [go_sem])) (by simp) (rng2 (by omega) (by omega)) (by omega) hk2 (by (try simp); omega)).mono ?_
              rintro e w30 ⟨gl30, cl30, G30, rfl, hN⟩
              have HIT30 := Lib.hid ((HIT29.out.keep (below_alloc _ _)).rule hN)
              clear hN
              clear bx0 bx1 bx2 bx3 bx4 bx5 zB
              have bx0 := HIT30.out.bx.p0
              have bx1 := HIT30.out.bx.p1
              have bx2 := HIT30.out.bx.o0
              have bx3 := HIT30.out.bx.o1
              have bx4 := HIT30.out.bx.o2
              have bx5 := HIT30.out.bx.o3
              have zB : w.heap.size + 1 ≤ w30.heap.size := Nat.le_trans HIT30.out.st.mr.hg.1 (Nat.le_of_lt HIT30.out.st.mr.hg.2)
              go_wp2_with fail
              refine (label_c R (.slice ao os.length co) (nthO os k).els _ (by omega) (by omega)).mono ?_
              rintro e w31 ⟨rfl, hb⟩
              have HIT31 := Lib.hid (HIT30.out.keep hb)
              clear bx0 bx1 bx2 bx3 bx4 bx5 zB
              clear hb
              have bx0 := HIT31.out.bx.p0
              have bx1 := HIT31.out.bx.p1
              have bx2 := HIT31.out.bx.o0
              have bx3 := HIT31.out.bx.o1
              have bx4 := HIT31.out.bx.o2
              have bx5 := HIT31.out.bx.o3
              have zB : w.heap.size + 1 ≤ w31.heap.size := Nat.le_trans HIT31.out.st.mr.hg.1 (Nat.le_of_lt HIT31.out.st.mr.hg.2)
              go_wp2_with fail
              refine (rule_c K w1.heap.size ((R : Int) + (nthO os k).els) (some ⟨w31.heap.size, 0, none⟩) 1 [((R : Int) + (k : Int))] (w.heap.size + 1) ((rulesTo R os mode K k) ++ [(rulK K 0 [((R : Int) + (k : Int)), (nthO os k).reg] [] [] [((R : Int) + (nthO os k).to)])]) (.slice (some ⟨gl30, 0, none⟩) ((rulesTo R os mode K k).length + 1) cl30) G30 _ (HIT31.out.keep (below_alloc _ _)).st.mr (by (try simp); omega) (SlI.one (by simp [go_sem])) (by simp) (rng1 (by omega)) (by omega) hk2 (by (try simp); omega)).mono ?_
              rintro e w32 ⟨gl32, cl32, G32, rfl, hN⟩
              have HIT32 := Lib.hid ((HIT31.out.keep (below_alloc _ _)).rule hN)
              clear hN
              clear bx0 bx1 bx2 bx3 bx4 bx5 zB
              have bx0 := HIT32.out.bx.p0
              have bx1 := HIT32.out.bx.p1
              have bx2 := HIT32.out.bx.o0
              have bx3 := HIT32.out.bx.o1
              have bx4 := HIT32.out.bx.o2
              have bx5 := HIT32.out.bx.o3
              have zB : w.heap.size + 1 ≤ w32.heap.size := Nat.le_trans HIT32.out.st.mr.hg.1 (Nat.le_of_lt HIT32.out.st.mr.hg.2)
              obtain ⟨ain, oin, cin, hin⟩ := HIT32.out.st.inner (upd := fun ys => { rulK K 0 [((R : Int) + (k : Int))] [] [] [((R : Int) + (nthO os k).els)] with lack := ys }) (xs := (bagK K [])) rfl (fun _ => [.i 0, .i 0, dI (bagK K [((R : Int) + (k : Int))]), dI (bagK K [])]) (fun _ => [dI (bagK K [((R : Int) + (nthO os k).els)]), dI (bagK K []), dInn [], .b false]) 4 (fun ys => rfl) rfl (bagK_len _ _) hKp
              have hL0 : (0 : Int) ≤ (nthO os k).reg := by omega
              have hL1 : (nthO os k).reg < (K : Int) := by omega
              have hLL : ((nthO os k).reg).toNat < K := by omega
              have hbd : 0 ≤ nth (bagK K []) ((nthO os k).reg).toNat ∧ nth (bagK K []) ((nthO os k).reg).toNat ≤ 1 := (by have := bagTo_bd K [] (by simp) 0 (by simp) ((nthO os k).reg).toNat; unfold bagK; simp only [List.length_nil]; omega)
              have hwr : IntKind.i64.wrap (nth (bagK K []) ((nthO os k).reg).toNat + 1) = nth (bagK K []) ((nthO os k).reg).toNat + 1 := by rw [IntKind.wrap_i64]; omega
              have i2 := ix_of (P := Try.prog) tabI.under tabI.size (a := some ⟨ain, oin, none⟩) (n := K) (fun _ => ⟨ain, oin, rfl⟩) cin
              simp only [Nat.mul_one, adr, blk, ofs] at i2
              have hcY := hin.cell
              try simp only [List.length_append, List.length_cons, List.length_nil, Nat.zero_add] at hcY
              have hvY := (hin.at_ _ hLL).1
              have hfY := (hin.at_ _ hLL).2
              have HITL : Hid (Bit (w.heap.size + 1) wp (w32.setCell ⟨ain, oin + ((nthO os k).reg).toNat, none⟩ (.int .i64 (nth (bagK K []) ((nthO os k).reg).toNat + 1))) w1.heap.size K (((rulesTo R os mode K k) ++ [(rulK K 0 [((R : Int) + (k : Int)), (nthO os k).reg] [] [] [((R : Int) + (nthO os k).to)])]) ++ [(rulK K 0 [((R : Int) + (k : Int))] [] [(nthO os k).reg] [((R : Int) + (nthO os k).els)])]) (.slice (some ⟨gl32, 0, none⟩) (((rulesTo R os mode K k) ++ [(rulK K 0 [((R : Int) + (k : Int)), (nthO os k).reg] [] [] [((R : Int) + (nthO os k).to)])]).length + 1) cl32) G32 (firstTo R os mode K (k + 1)) (.slice a7 ((firstTo R os mode K k).length + 1) c7) Gf7 w.heap.size wr.heap.size R ao os.length co (nthO os k)) := Lib.hid (HIT32.out.put hin.mem (hin.put _ (Below.refl _ _) _ hLL))
              clear hin
              go_wp2
              go_roundw
              case rel => exact ⟨k + 1, _, _, _, _, by omega, by go_num, by rw [HRS.out]; exact HITL.out.st, HITL.out.hb⟩
              case measure => simp [intOf]; omega
            · have hr2 : (mode == 2) = false := by simpa using hm2
              have bx0 := HIT9.out.bx.p0
              have bx1 := HIT9.out.bx.p1
              have bx2 := HIT9.out.bx.o0
              have bx3 := HIT9.out.bx.o1
              have bx4 := HIT9.out.bx.o2
              have bx5 := HIT9.out.bx.o3
              have zB : w.heap.size + 1 ≤ w9.heap.size := Nat.le_trans HIT9.out.st.mr.hg.1 (Nat.le_of_lt HIT9.out.st.mr.hg.2)
              have HRS : Hid (rulesTo R os mode K (k + 1) = (((((rulesTo R os mode K k) ++ [(rulK K 0 [((R : Int) + (k : Int)), (nthO os k).reg] [] [] [((R : Int) + (nthO os k).to)])]) ++ [(rulK K 0 [((R : Int) + (k : Int))] [] [] [((R + os.length + 1 + subsTo os k : Nat) : Int)])]) ++ [(rulK K 0 [((R + os.length + 1 + subsTo os k : Nat) : Int)] [] [] [((R : Int) + (nthO os k).els)])]) ++ [(rulK K 0 [(nthO os k).reg] [((R + os.length + 1 + subsTo os k : Nat) : Int)] [] [((K : Int) - 1)])])) := Lib.hid (by rw [rulesTo, ordRules, if_neg hp1, if_pos hp2, if_neg hm1, if_neg hm2] <;> simp)
              have hwK : R + os.length + 1 + subsTo os k < K := by have := HKE.out; rw [this, kindsN, if_pos (show mode = 3 by omega)]; omega
              clear hp1 hp2 hm1 hm2 hop
              go_wp2_with fail
              refine (label_c R (.slice ao os.length co) (nthO os k).to _ (by omega) (by omega)).mono ?_
              rintro e w33 ⟨rfl, hb⟩
              have HIT33 := Lib.hid (HIT9.out.keep hb)
              clear bx0 bx1 bx2 bx3 bx4 bx5 zB
              clear hb
              have bx0 := HIT33.out.bx.p0
              have bx1 := HIT33.out.bx.p1
              have bx2 := HIT33.out.bx.o0
              have bx3 := HIT33.out.bx.o1
              have bx4 := HIT33.out.bx.o2
              have bx5 := HIT33.out.bx.o3
              have zB : w.heap.size + 1 ≤ w33.heap.size := Nat.le_trans HIT33.out.st.mr.hg.1 (Nat.le_of_lt HIT33.out.st.mr.hg.2)
              go_wp2_with fail
              refine (rule_c K w1.heap.size ((R : Int) + (nthO os k).to) (some ⟨w33.heap.size, 0, none⟩) 2 [((R : Int) + (k : Int)), (nthO os k).reg] (w.heap.size + 1) (rulesTo R os mode K k) (.slice av (rulesTo R os mode K k).length cv) G _ (HIT33.out.keep (below_alloc _ _)).st.mr (by (try simp); omega) (SlI.two (by simp [go_sem]) (by simp [go_sem])) (by simp) (rng2 (by omega) (by omega)) (by omega) hk2 (by (try simp); omega)).mono ?_
              rintro e w34 ⟨gl34, cl34, G34, rfl, hN⟩
              have HIT34 := Lib.hid ((HIT33.out.keep (below_alloc _ _)).rule hN)
              clear hN
              clear bx0 bx1 bx2 bx3 bx4 bx5 zB
              have bx0 := HIT34.out.bx.p0
              have bx1 := HIT34.out.bx.p1
              have bx2 := HIT34.out.bx.o0
              have bx3 := HIT34.out.bx.o1
              have bx4 := HIT34.out.bx.o2
              have bx5 := HIT34.out.bx.o3
              have zB : w.heap.size + 1 ≤ w34.heap.size := Nat.le_trans HIT34.out.st.mr.hg.1 (Nat.le_of_lt HIT34.out.st.mr.hg.2)
              go_wp2_with fail
              refine (wait_c R ao co os k _ (HO.out.below (HIT34.out.hb.mono (by omega))) hc HPG.out (by omega)).mono ?_
              rintro e w35 ⟨rfl, hb⟩
              have HIT35 := Lib.hid (HIT34.out.keep hb)
              clear bx0 bx1 bx2 bx3 bx4 bx5 zB
              clear hb
              have bx0 := HIT35.out.bx.p0
              have bx1 := HIT35.out.bx.p1
              have bx2 := HIT35.out.bx.o0
              have bx3 := HIT35.out.bx.o1
              have bx4 := HIT35.out.bx.o2
              have bx5 := HIT35.out.bx.o3
              have zB : w.heap.size + 1 ≤ w35.heap.size := Nat.le_trans HIT35.out.st.mr.hg.1 (Nat.le_of_lt HIT35.out.st.mr.hg.2)
              go_wp2_with fail
              refine (rule_c K w1.heap.size ((R + os.length + 1 + subsTo os k : Nat) : Int) (some ⟨w35.heap.size, 0, none⟩) 1 [((R : Int) + (k : Int))] (w.heap.size + 1) ((rulesTo R os mode K k) ++ [(rulK K 0 [((R : Int) + (k : Int)), (nthO os k).reg] [] [] [((R : Int) + (nthO os k).to)])]) (.slice (some ⟨gl34, 0, none⟩) ((rulesTo R os mode K k).length + 1) cl34) G34 _ (HIT35.out.keep (below_alloc _ _)).st.mr (by (try simp); omega) (SlI.one (by simp [go_sem])) (by simp) (rng1 (by omega)) (by omega) hk2 (by (try simp); omega)).mono ?_
              rintro e w36 ⟨gl36, cl36, G36, rfl, hN⟩
              have HIT36 := Lib.hid ((HIT35.out.keep (below_alloc _ _)).rule hN)
              clear hN
              clear bx0 bx1 bx2 bx3 bx4 bx5 zB
              have bx0 := HIT36.out.bx.p0
              have bx1 := HIT36.out.bx.p1
              have bx2 := HIT36.out.bx.o0
              have bx3 := HIT36.out.bx.o1
              have bx4 := HIT36.out.bx.o2
              have bx5 := HIT36.out.bx.o3
              have zB : w.heap.size + 1 ≤ w36.heap.size := Nat.le_trans HIT36.out.st.mr.hg.1 (Nat.le_of_lt HIT36.out.st.mr.hg.2)
              clear bx0 bx1 bx2 bx3 bx4 bx5 zB
              have hs0 := HIT36.out.bx.keep (below_dr (Below.refl _ _))
              have zB : w.heap.size + 1 ≤ w36.heap.size := Nat.le_trans HIT36.out.st.mr.hg.1 (Nat.le_of_lt HIT36.out.st.mr.hg.2)
              go_wp2
              refine wp_region_C (n := 10) (l := #[false, false, false, false, false, false, false, false, false, false]) (fun wx => Bx wx w.heap.size wr.heap.size R ao os.length co (nthO os k)) [] (by kernel_rfl) rfl rfl ?_
              refine wpC_take (i := 0) (v := ?v0_74) (l' := #[true, false, false, false, false, false, false, false, false, false]) [9] rfl (by kernel_rfl) (by kernel_rfl) (by kernel_rfl) (by kernel_rfl) (by kernel_rfl) rfl (fun _ _ _ h => h) (by rfl) (fun wx hS => ?q0_74) (by assumption) ?_
              case q0_74 => (go_simp; try with_reducible rfl)
              try simp only [List.getElem_toArray, List.getElem_cons_zero, Act.put, List.setIfInBounds_toArray, List.set_cons_zero, List.set_cons_succ]
              refine wpC_take (i := 1) (v := ?v1_75) (l' := #[true, true, false, false, false, false, false, false, false, false]) [4, 7, 8, 9] rfl (by kernel_rfl) (by kernel_rfl) (by kernel_rfl) (by kernel_rfl) (by kernel_rfl) rfl (fun _ _ _ h => h) (by rfl) (fun wx hS => ?q1_75) (by assumption) ?_
              case q1_75 => ((try dsimp only at hS); have s0 := Bx.p0 hS; have s1 := Bx.p1 hS; have s2 := Bx.o0 hS; have s3 := Bx.o1 hS; have s4 := Bx.o2 hS; have s5 := Bx.o3 hS; go_simp; try with_reducible rfl)
              try simp only [List.getElem_toArray, List.getElem_cons_succ, List.getElem_cons_zero, Act.put, List.setIfInBounds_toArray, List.set_cons_zero, List.set_cons_succ]
              refine wpC_take (i := 2) (v := ?v2_76) (l' := #[true, true, true, false, false, false, false, false, false, false]) [3, 4, 7, 8, 9] rfl (by kernel_rfl) (by kernel_rfl) (by kernel_rfl) (by kernel_rfl) (by kernel_rfl) rfl (fun _ _ _ h => h) (by rfl) (fun wx hS => ?q2_76) (by assumption) ?_
              case q2_76 => (go_simp; try with_reducible rfl)
              try simp only [List.getElem_toArray, List.getElem_cons_succ, List.getElem_cons_zero, Act.put, List.setIfInBounds_toArray, List.set_cons_zero, List.set_cons_succ]
              refine wpC_take (i := 3) (v := ?v3_77) (l' := #[true, true, true, true, false, false, false, false, false, false]) [4, 7, 8, 9] rfl (by kernel_rfl) (by kernel_rfl) (by kernel_rfl) (by kernel_rfl) (by kernel_rfl) rfl (fun _ _ _ h => h) (by rfl) (fun wx hS => ?q3_77) (by assumption) ?_
              case q3_77 => ((try dsimp only at hS); have s0 := Bx.p0 hS; have s1 := Bx.p1 hS; have s2 := Bx.o0 hS; have s3 := Bx.o1 hS; have s4 := Bx.o2 hS; have s5 := Bx.o3 hS; go_simp; try with_reducible rfl)
              try simp only [List.getElem_toArray, List.getElem_cons_succ, List.getElem_cons_zero, Act.put, List.setIfInBounds_toArray, List.set_cons_zero, List.set_cons_succ]
              refine wpC_take (i := 5) (v := ?v5_78) (l' := #[true, true, true, true, false, true, false, false, false, false]) [7, 8, 9] rfl (by kernel_rfl) (by kernel_rfl) (by kernel_rfl) (by kernel_rfl) (by kernel_rfl) rfl (fun _ _ _ h => h) (by rfl) (fun wx hS => ?q5_78) (by assumption) ?_
              case q5_78 => ((try dsimp only at hS); have s0 := Bx.p0 hS; have s1 := Bx.p1 hS; have s2 := Bx.o0 hS; have s3 := Bx.o1 hS; have s4 := Bx.o2 hS; have s5 := Bx.o3 hS; go_simp; try with_reducible rfl)
              try simp only [List.getElem_toArray, List.getElem_cons_succ, List.getElem_cons_zero, Act.put, List.setIfInBounds_toArray, List.set_cons_zero, List.set_cons_succ]
              refine wpC_take (i := 6) (v := ?v6_79) (l' := #[true, true, true, true, false, true, true, false, false, false]) [7, 8, 9] rfl (by kernel_rfl) (by kernel_rfl) (by kernel_rfl) (by kernel_rfl) (by kernel_rfl) rfl (fun _ _ _ h => h) (by rfl) (fun wx hS => ?q6_79) (by assumption) ?_
              case q6_79 => (go_simp; try with_reducible rfl)
              try simp only [List.getElem_toArray, List.getElem_cons_succ, List.getElem_cons_zero, Act.put, List.setIfInBounds_toArray, List.set_cons_zero, List.set_cons_succ]
              refine wpC_one (i := 4) (l' := #[true, true, true, true, true, true, true, false, false, false]) (by kernel_rfl) rfl rfl (by rfl) (fun Kr hKr => ?_)
              refine step_callV rfl 131 #[.tmp 170, .tmp 172] _ rfl HRUNL.out #[.agg #[.int .i64 R, .slice ao os.length co], .int .i64 (nthO os k).els] (by first | rfl | (simp [Act.eval]; done) | (simp [Act.eval]; rfl) | (simp [Act.eval]; repeat' constructor)) (label_c R (.slice ao os.length co) (nthO os k).els _ (by omega) (by omega)) ?_
              rintro e wX37 ⟨rfl, hbX⟩
              refine ⟨_, rfl, ?_⟩
              have hITX := (HIT36.out.keep (below_dr (Below.refl _ _))).keep hbX
              refine hKr _ _ (fun _ => hITX.bx) ?_
              clear hKr Kr
              try simp only [List.getElem_toArray, List.getElem_cons_succ, List.getElem_cons_zero, Act.put, List.setIfInBounds_toArray, List.set_cons_zero, List.set_cons_succ]
              have hsX := hITX.bx
              refine wpC_one (i := 7) (l' := #[true, true, true, true, true, true, true, true, false, false]) (by kernel_rfl) rfl rfl (by rfl) (fun Kr hKr => ?_)
              refine step_callV rfl 133 #[.tmp 174, .tmp 175] _ rfl HRUNW.out #[.agg #[.int .i64 R, .slice ao os.length co], .int .i64 k] (by first | rfl | (simp [Act.eval]; done) | (simp [Act.eval]; rfl) | (simp [Act.eval]; repeat' constructor)) (wait_c R ao co os k _ (HO.out.below (hITX.hb.mono (by omega))) hc HPG.out (by omega)) ?_
              rintro e wV37 ⟨rfl, hbV⟩
              refine ⟨_, rfl, ?_⟩
              have hITV := hITX.keep hbV
              refine hKr _ _ (fun _ => hITV.bx) ?_
              clear hKr Kr
              try simp only [List.getElem_toArray, List.getElem_cons_succ, List.getElem_cons_zero, Act.put, List.setIfInBounds_toArray, List.set_cons_zero, List.set_cons_succ]
              have hsV := hITV.bx
              refine wpC_one (i := 8) (l' := #[true, true, true, true, true, true, true, true, true, false]) (by kernel_rfl) rfl rfl (by rfl) (fun Kr hKr => ?_)
              go_simp
              refine hKr _ _ (fun _ => hITV.bx.keep (below_alloc _ _)) ?_
              clear hKr Kr
              try simp only [List.getElem_toArray, List.getElem_cons_succ, List.getElem_cons_zero, Act.put, List.setIfInBounds_toArray, List.set_cons_zero, List.set_cons_succ]
              have zV : w.heap.size + 1 ≤ wV37.heap.size := Nat.le_trans hITV.st.mr.hg.1 (Nat.le_of_lt hITV.st.mr.hg.2)
              refine wpC_one (i := 9) (l' := #[true, true, true, true, true, true, true, true, true, true]) (by kernel_rfl) rfl rfl (by rfl) (fun Kr hKr => ?_)
              refine step_callV rfl 132 #[.tmp 169, .tmp 173, .tmp 177] _ rfl HRUNR.out #[.pointer (some ⟨w1.heap.size, 0, none⟩), .int .i64 ((R : Int) + (nthO os k).els), .slice (some ⟨wV37.heap.size, 0, none⟩) 1 1] (by first | rfl | (simp [Act.eval]; done) | (simp [Act.eval]; rfl) | (simp [Act.eval]; repeat' constructor)) (rule_c K w1.heap.size ((R : Int) + (nthO os k).els) (some ⟨wV37.heap.size, 0, none⟩) 1 [((R + os.length + 1 + subsTo os k : Nat) : Int)] (w.heap.size + 1) (((rulesTo R os mode K k) ++ [(rulK K 0 [((R : Int) + (k : Int)), (nthO os k).reg] [] [] [((R : Int) + (nthO os k).to)])]) ++ [(rulK K 0 [((R : Int) + (k : Int))] [] [] [((R + os.length + 1 + subsTo os k : Nat) : Int)])]) (.slice (some ⟨gl36, 0, none⟩) (((rulesTo R os mode K k) ++ [(rulK K 0 [((R : Int) + (k : Int)), (nthO os k).reg] [] [] [((R : Int) + (nthO os k).to)])]).length + 1) cl36) G36 _ (hITV.keep (below_alloc _ _)).st.mr (by (try simp); omega) (SlI.one (by simp [go_sem])) (by simp) (rng1 (by omega)) (by omega) hk2 (by (try simp); omega)) ?_
              rintro e w37 ⟨gl37, cl37, G37, rfl, hN⟩
              refine ⟨_, rfl, ?_⟩
              have HIT37 := Lib.hid ((hITV.keep (below_alloc _ _)).rule hN)
              refine hKr _ _ (fun _ => HIT37.out.bx) ?_
              clear hKr Kr
              try simp only [List.getElem_toArray, List.getElem_cons_succ, List.getElem_cons_zero, Act.put, List.setIfInBounds_toArray, List.set_cons_zero, List.set_cons_succ]
              refine wpC_done (by kernel_rfl) ?_ _
              clear hN hITV hITX hs0 hbX hbV hsX hsV zV zB
              have bx0 := HIT37.out.bx.p0
              have bx1 := HIT37.out.bx.p1
              have bx2 := HIT37.out.bx.o0
              have bx3 := HIT37.out.bx.o1
              have bx4 := HIT37.out.bx.o2
              have bx5 := HIT37.out.bx.o3
              have zB : w.heap.size + 1 ≤ w37.heap.size := Nat.le_trans HIT37.out.st.mr.hg.1 (Nat.le_of_lt HIT37.out.st.mr.hg.2)
              clear bx0 bx1 bx2 bx3 bx4 bx5 zB
              have hs0 := HIT37.out.bx.keep (below_dr (Below.refl _ _))
              have zB : w.heap.size + 1 ≤ w37.heap.size := Nat.le_trans HIT37.out.st.mr.hg.1 (Nat.le_of_lt HIT37.out.st.mr.hg.2)
              have bx2 := HIT37.out.bx.o0
              have bx4 := HIT37.out.bx.o2
              have bx5 := HIT37.out.bx.o3
              go_wp2
              clear bx2 bx4 bx5
              refine wp_region_C (n := 16) (l := #[false, false, false, false, false, false, false, false, false, false, false, false, false, false, false, false]) (fun wx => Bx wx w.heap.size wr.heap.size R ao os.length co (nthO os k)) [15] (by kernel_rfl) rfl rfl ?_
              refine wpC_take (i := 0) (v := ?v0_80) (l' := #[true, false, false, false, false, false, false, false, false, false, false, false, false, false, false, false]) [4, 5, 6, 7, 10, 11, 12, 13, 14, 15] rfl (by kernel_rfl) (by kernel_rfl) (by kernel_rfl) (by kernel_rfl) (by kernel_rfl) rfl (fun _ _ _ h => h) (by rfl) (fun wx hS => ?q0_80) (by assumption) ?_
              case q0_80 => (go_simp; try with_reducible rfl)
              try simp only [List.getElem_toArray, List.getElem_cons_zero, Act.put, List.setIfInBounds_toArray, List.set_cons_zero, List.set_cons_succ]
              refine wpC_take (i := 1) (v := ?v1_81) (l' := #[true, true, false, false, false, false, false, false, false, false, false, false, false, false, false, false]) [4, 5, 6, 7, 10, 11, 12, 13, 14, 15] rfl (by kernel_rfl) (by kernel_rfl) (by kernel_rfl) (by kernel_rfl) (by kernel_rfl) rfl (fun _ _ _ h => h) (by rfl) (fun wx hS => ?q1_81) (by assumption) ?_
              case q1_81 => (go_simp; try with_reducible rfl)
              try simp only [List.getElem_toArray, List.getElem_cons_succ, List.getElem_cons_zero, Act.put, List.setIfInBounds_toArray, List.set_cons_zero, List.set_cons_succ]
              refine wpC_take (i := 2) (v := ?v2_82) (l' := #[true, true, true, false, false, false, false, false, false, false, false, false, false, false, false, false]) [3, 4, 5, 6, 7, 10, 11, 12, 13, 14, 15] rfl (by kernel_rfl) (by kernel_rfl) (by kernel_rfl) (by kernel_rfl) (by kernel_rfl) rfl (fun _ _ _ h => h) (by rfl) (fun wx hS => ?q2_82) (by assumption) ?_
              case q2_82 => (go_simp; try with_reducible rfl)
              try simp only [List.getElem_toArray, List.getElem_cons_succ, List.getElem_cons_zero, Act.put, List.setIfInBounds_toArray, List.set_cons_zero, List.set_cons_succ]
              refine wpC_take (i := 8) (v := ?v8_83) (l' := #[true, true, true, false, false, false, false, false, true, false, false, false, false, false, false, false]) [10, 11, 12, 13, 14, 15] rfl (by kernel_rfl) (by kernel_rfl) (by kernel_rfl) (by kernel_rfl) (by kernel_rfl) rfl (fun _ _ _ h => h) (by rfl) (fun wx hS => ?q8_83) (by assumption) ?_
              case q8_83 => ((try dsimp only at hS); have s0 := Bx.p0 hS; have s1 := Bx.p1 hS; have s2 := Bx.o0 hS; have s3 := Bx.o1 hS; have s4 := Bx.o2 hS; have s5 := Bx.o3 hS; go_simp; try with_reducible rfl)
              try simp only [List.getElem_toArray, List.getElem_cons_succ, List.getElem_cons_zero, Act.put, List.setIfInBounds_toArray, List.set_cons_zero, List.set_cons_succ]
              refine wpC_take (i := 9) (v := ?v9_84) (l' := #[true, true, true, false, false, false, false, false, true, true, false, false, false, false, false, false]) [10, 11, 12, 13, 14, 15] rfl (by kernel_rfl) (by kernel_rfl) (by kernel_rfl) (by kernel_rfl) (by kernel_rfl) rfl (fun _ _ _ h => h) (by rfl) (fun wx hS => ?q9_84) (by assumption) ?_
              case q9_84 => (go_simp; try with_reducible rfl)
              try simp only [List.getElem_toArray, List.getElem_cons_succ, List.getElem_cons_zero, Act.put, List.setIfInBounds_toArray, List.set_cons_zero, List.set_cons_succ]
              refine wpC_one (i := 3) (l' := #[true, true, true, true, false, false, false, false, true, true, false, false, false, false, false, false]) (by kernel_rfl) rfl rfl (by rfl) (fun Kr hKr => ?_)
              go_simp
              refine hKr _ _ (fun _ => HIT37.out.bx.keep (below_dr (below_alloc _ _))) ?_
              clear hKr Kr
              try simp only [List.getElem_toArray, List.getElem_cons_succ, List.getElem_cons_zero, Act.put, List.setIfInBounds_toArray, List.set_cons_zero, List.set_cons_succ]
              refine wpC_one (i := 4) (l' := #[true, true, true, true, true, false, false, false, true, true, false, false, false, false, false, false]) (by kernel_rfl) rfl rfl (by rfl) (fun Kr hKr => ?_)
              refine step_callV rfl 132 #[.tmp 179, .tmp 180, .tmp 182] _ rfl HRUNR.out #[.pointer (some ⟨w1.heap.size, 0, none⟩), .int .i64 ((K : Int) - 1), .slice (some ⟨w37.heap.size, 0, none⟩) 1 1] (by first | rfl | (simp [Act.eval]; done) | (simp [Act.eval]; rfl) | (simp [Act.eval]; repeat' constructor)) (rule_c K w1.heap.size ((K : Int) - 1) (some ⟨w37.heap.size, 0, none⟩) 1 [(nthO os k).reg] (w.heap.size + 1) ((((rulesTo R os mode K k) ++ [(rulK K 0 [((R : Int) + (k : Int)), (nthO os k).reg] [] [] [((R : Int) + (nthO os k).to)])]) ++ [(rulK K 0 [((R : Int) + (k : Int))] [] [] [((R + os.length + 1 + subsTo os k : Nat) : Int)])]) ++ [(rulK K 0 [((R + os.length + 1 + subsTo os k : Nat) : Int)] [] [] [((R : Int) + (nthO os k).els)])]) (.slice (some ⟨gl37, 0, none⟩) ((((rulesTo R os mode K k) ++ [(rulK K 0 [((R : Int) + (k : Int)), (nthO os k).reg] [] [] [((R : Int) + (nthO os k).to)])]) ++ [(rulK K 0 [((R : Int) + (k : Int))] [] [] [((R + os.length + 1 + subsTo os k : Nat) : Int)])]).length + 1) cl37) G37 _ (HIT37.out.keep (below_dr (below_alloc _ _))).st.mr (by (try simp); omega) (SlI.one (by simp [go_sem])) (by simp) (rng1 (by omega)) (by omega) hk2 (by (try simp); omega)) ?_
              rintro e wY38 ⟨gl38, cl38, G38, rfl, hN⟩
              refine ⟨_, rfl, ?_⟩
              have hITY := (HIT37.out.keep (below_dr (below_alloc _ _))).rule hN
              refine hKr _ _ (fun _ => hITY.bx) ?_
              clear hKr Kr
              try simp only [List.getElem_toArray, List.getElem_cons_succ, List.getElem_cons_zero, Act.put, List.setIfInBounds_toArray, List.set_cons_zero, List.set_cons_succ]
              have hsY := hITY.bx
              obtain ⟨ain, oin, cin, hin⟩ := hITY.st.inner (upd := fun ys => { rulK K 0 [(nthO os k).reg] [] [] [((K : Int) - 1)] with have_ := ys }) (xs := (bagK K [])) rfl (fun _ => [.i 0, .i 0, dI (bagK K [(nthO os k).reg])]) (fun _ => [dI (bagK K []), dI (bagK K [((K : Int) - 1)]), dI (bagK K []), dInn [], .b false]) 3 (fun ys => rfl) rfl (bagK_len _ _) hKp
              have hL0 : (0 : Int) ≤ ((R : Int) + os.length + 1 + subsTo os k) := by omega
              have hL1 : ((R : Int) + os.length + 1 + subsTo os k) < (K : Int) := by omega
              have hLL : (((R : Int) + os.length + 1 + subsTo os k)).toNat < K := by omega
              have hbd : 0 ≤ nth (bagK K []) (((R : Int) + os.length + 1 + subsTo os k)).toNat ∧ nth (bagK K []) (((R : Int) + os.length + 1 + subsTo os k)).toNat ≤ 1 := (by have := bagTo_bd K [] (by simp) 0 (by simp) (((R : Int) + os.length + 1 + subsTo os k)).toNat; unfold bagK; simp only [List.length_nil]; omega)
              have hwr : IntKind.i64.wrap (nth (bagK K []) (((R : Int) + os.length + 1 + subsTo os k)).toNat + 1) = nth (bagK K []) (((R : Int) + os.length + 1 + subsTo os k)).toNat + 1 := by rw [IntKind.wrap_i64]; omega
              have i2 := ix_of (P := Try.prog) tabI.under tabI.size (a := some ⟨ain, oin, none⟩) (n := K) (fun _ => ⟨ain, oin, rfl⟩) cin
              simp only [Nat.mul_one, adr, blk, ofs] at i2
              have hcY := hin.cell
              try simp only [List.length_append, List.length_cons, List.length_nil, Nat.zero_add] at hcY
              have zgl : gl38 < wY38.heap.size := (hITY.st.mr.lst.lt _ hN.gl).2
              have zin : ain < wY38.heap.size := (hITY.st.mr.lst.lt _ hin.mem).2
              refine wpC_take (i := 5) (v := ?v5_85) (l' := #[true, true, true, true, true, true, false, false, true, true, false, false, false, false, false, false]) [6, 7, 11, 12, 13, 14, 15] rfl (by kernel_rfl) (by kernel_rfl) (by kernel_rfl) (by kernel_rfl) (by kernel_rfl) rfl (fun _ _ _ h => h) (by rfl) (fun wx hS => ?q5_85) (by assumption) ?_
              case q5_85 => (go_simp; try with_reducible rfl)
              try simp only [List.getElem_toArray, List.getElem_cons_succ, List.getElem_cons_zero, Act.put, List.setIfInBounds_toArray, List.set_cons_zero, List.set_cons_succ]
              refine wpC_take (i := 6) (v := ?v6_86) (l' := #[true, true, true, true, true, true, true, false, true, true, false, false, false, false, false, false]) [7, 11, 12, 13, 14, 15] rfl (by kernel_rfl) (by kernel_rfl) (by kernel_rfl) (by kernel_rfl) (by kernel_rfl) rfl (fun _ _ _ h => h) (by rfl) (fun wx hS => ?q6_86) (by assumption) ?_
              case q6_86 => (go_simp; try with_reducible rfl)
              try simp only [List.getElem_toArray, List.getElem_cons_succ, List.getElem_cons_zero, Act.put, List.setIfInBounds_toArray, List.set_cons_zero, List.set_cons_succ]
              refine wpC_two (i := 7) (j := 10) (l' := #[true, true, true, true, true, true, true, true, true, true, false, false, false, false, false, false]) (l'' := #[true, true, true, true, true, true, true, false, true, true, true, false, false, false, false, false]) (by kernel_rfl) rfl rfl rfl rfl (by rfl) (by rfl) (fun Kr hKr => ?_) (fun Kr hKr => ?_)
              · go_simp
                refine hKr _ _ (fun _ => by first | exact hsZ | exact hsY) ?_
                clear hKr Kr
                try simp only [List.getElem_toArray, List.getElem_cons_succ, List.getElem_cons_zero, Act.put, List.setIfInBounds_toArray, List.set_cons_zero, List.set_cons_succ]
                refine wpC_one (i := 10) (l' := #[true, true, true, true, true, true, true, true, true, true, true, false, false, false, false, false]) (by kernel_rfl) rfl rfl (by rfl) (fun Kr hKr => ?_)
                refine step_callV rfl 133 #[.tmp 187, .tmp 188] _ rfl HRUNW.out #[.agg #[.int .i64 R, .slice ao os.length co], .int .i64 k] (by first | rfl | (simp [Act.eval]; done) | (simp [Act.eval]; rfl) | (simp [Act.eval]; repeat' constructor)) (wait_c R ao co os k _ (HO.out.below (hITY.hb.mono (by omega))) hc HPG.out (by omega)) ?_
                rintro e wZ38 ⟨rfl, hbZ⟩
                refine ⟨_, rfl, ?_⟩
                refine hKr _ _ (fun _ => hsY.keep hbZ) ?_
                clear hKr Kr
                try simp only [List.getElem_toArray, List.getElem_cons_succ, List.getElem_cons_zero, Act.put, List.setIfInBounds_toArray, List.set_cons_zero, List.set_cons_succ]
                have hsZ := hsY.keep hbZ
                have hcZ := (bcell1 (b := gl38) hbZ zgl).trans hcY
                have hvZ := (bcell1 (b := ain) hbZ zin).trans (hin.at_ _ hLL).1
                have hfZ := (hbZ.frozen (p := ⟨ain, oin + (((R : Int) + os.length + 1 + subsTo os k)).toNat, none⟩) zin).trans (hin.at_ _ hLL).2
                refine wpC_take (i := 11) (v := ?v11_87) (l' := #[true, true, true, true, true, true, true, true, true, true, true, true, false, false, false, false]) [12, 13, 14, 15] rfl (by kernel_rfl) (by kernel_rfl) (by kernel_rfl) (by kernel_rfl) (by kernel_rfl) rfl (fun _ _ _ h => h) (by rfl) (fun wx hS => ?q11_87) (by assumption) ?_
                case q11_87 => (go_simp; try with_reducible rfl)
                try simp only [List.getElem_toArray, List.getElem_cons_succ, List.getElem_cons_zero, Act.put, List.setIfInBounds_toArray, List.set_cons_zero, List.set_cons_succ]
                refine wpC_one (i := 12) (l' := #[true, true, true, true, true, true, true, true, true, true, true, true, true, false, false, false]) (by kernel_rfl) rfl rfl (by rfl) (fun Kr hKr => ?_)
                go_simp
                refine hKr _ _ (fun _ => hsZ) ?_
                clear hKr Kr
                try simp only [List.getElem_toArray, List.getElem_cons_succ, List.getElem_cons_zero, Act.put, List.setIfInBounds_toArray, List.set_cons_zero, List.set_cons_succ]
                refine wpC_take (i := 13) (v := ?v13_88) (l' := #[true, true, true, true, true, true, true, true, true, true, true, true, true, true, false, false]) [14, 15] rfl (by kernel_rfl) (by kernel_rfl) (by kernel_rfl) (by kernel_rfl) (by kernel_rfl) rfl (fun _ _ _ h => h) (by rfl) (fun wx hS => ?q13_88) (by assumption) ?_
                case q13_88 => (go_simp; try with_reducible rfl)
                try simp only [List.getElem_toArray, List.getElem_cons_succ, List.getElem_cons_zero, Act.put, List.setIfInBounds_toArray, List.set_cons_zero, List.set_cons_succ]
                refine wpC_take (i := 14) (v := ?v14_89) (l' := #[true, true, true, true, true, true, true, true, true, true, true, true, true, true, true, false]) [15] rfl (by kernel_rfl) (by kernel_rfl) (by kernel_rfl) (by kernel_rfl) (by kernel_rfl) rfl (fun _ _ _ h => h) (by rfl) (fun wx hS => ?q14_89) (by assumption) ?_
                case q14_89 => (go_simp; try with_reducible rfl)
                try simp only [List.getElem_toArray, List.getElem_cons_succ, List.getElem_cons_zero, Act.put, List.setIfInBounds_toArray, List.set_cons_zero, List.set_cons_succ]
                refine wpC_one (i := 15) (l' := #[true, true, true, true, true, true, true, true, true, true, true, true, true, true, true, true]) (by kernel_rfl) rfl rfl (by rfl) (fun Kr hKr => ?_)
                go_simp
                refine hKr _ _ (fun h => absurd (by decide) h) ?_
                clear hKr Kr
                try simp only [List.getElem_toArray, List.getElem_cons_succ, List.getElem_cons_zero, Act.put, List.setIfInBounds_toArray, List.set_cons_zero, List.set_cons_succ]
                refine wpC_done (by kernel_rfl) ?_ _
                have hITE := (hITY.keep hbZ).put hin.mem (hin.put _ hbZ _ hLL)
                obtain ⟨wE38, hwE⟩ : ∃ wz, wz = wZ38.setCell ⟨ain, oin + (((R : Int) + os.length + 1 + subsTo os k)).toNat, none⟩ (.int .i64 (nth (bagK K []) (((R : Int) + os.length + 1 + subsTo os k)).toNat + 1)) := ⟨_, rfl⟩
                rw [← hwE] at hITE ⊢
                rw [show (((R : Int) + os.length + 1 + subsTo os k)).toNat = (((R + os.length + 1 + subsTo os k : Nat) : Int)).toNat from by omega] at hITE
                have HIT38 : Hid (Bit (w.heap.size + 1) wp wE38 w1.heap.size K (((((rulesTo R os mode K k) ++ [(rulK K 0 [((R : Int) + (k : Int)), (nthO os k).reg] [] [] [((R : Int) + (nthO os k).to)])]) ++ [(rulK K 0 [((R : Int) + (k : Int))] [] [] [((R + os.length + 1 + subsTo os k : Nat) : Int)])]) ++ [(rulK K 0 [((R + os.length + 1 + subsTo os k : Nat) : Int)] [] [] [((R : Int) + (nthO os k).els)])]) ++ [(rulK K 0 [(nthO os k).reg] [((R + os.length + 1 + subsTo os k : Nat) : Int)] [] [((K : Int) - 1)])]) (.slice (some ⟨gl38, 0, none⟩) (((((rulesTo R os mode K k) ++ [(rulK K 0 [((R : Int) + (k : Int)), (nthO os k).reg] [] [] [((R : Int) + (nthO os k).to)])]) ++ [(rulK K 0 [((R : Int) + (k : Int))] [] [] [((R + os.length + 1 + subsTo os k : Nat) : Int)])]) ++ [(rulK K 0 [((R + os.length + 1 + subsTo os k : Nat) : Int)] [] [] [((R : Int) + (nthO os k).els)])]).length + 1) cl38) G38 (firstTo R os mode K (k + 1)) (.slice a7 ((firstTo R os mode K k).length + 1) c7) Gf7 w.heap.size wr.heap.size R ao os.length co (nthO os k)) := Lib.hid hITE
                clear hITE hwE hcZ hvZ hfZ hsZ hbZ hcY hsY hITY hin i2 hbd zgl zin hN hs0 zB
                have bx0 := HIT38.out.bx.p0
                have bx1 := HIT38.out.bx.p1
                have bx2 := HIT38.out.bx.o0
                have bx3 := HIT38.out.bx.o1
                have bx4 := HIT38.out.bx.o2
                have bx5 := HIT38.out.bx.o3
                have zB : w.heap.size + 1 ≤ wE38.heap.size := Nat.le_trans HIT38.out.st.mr.hg.1 (Nat.le_of_lt HIT38.out.st.mr.hg.2)
                go_wp2
                go_roundw
                case rel => exact ⟨k + 1, _, _, _, _, by omega, by go_num, by rw [HRS.out]; exact HIT38.out.st, HIT38.out.hb⟩
                case measure => simp [intOf]; omega
              · refine step_callV rfl 133 #[.tmp 187, .tmp 188] _ rfl HRUNW.out #[.agg #[.int .i64 R, .slice ao os.length co], .int .i64 k] (by first | rfl | (simp [Act.eval]; done) | (simp [Act.eval]; rfl) | (simp [Act.eval]; repeat' constructor)) (wait_c R ao co os k _ (HO.out.below (hITY.hb.mono (by omega))) hc HPG.out (by omega)) ?_
                rintro e wZ38 ⟨rfl, hbZ⟩
                refine ⟨_, rfl, ?_⟩
                refine hKr _ _ (fun _ => hsY.keep hbZ) ?_
                clear hKr Kr
                try simp only [List.getElem_toArray, List.getElem_cons_succ, List.getElem_cons_zero, Act.put, List.setIfInBounds_toArray, List.set_cons_zero, List.set_cons_succ]
                have hsZ := hsY.keep hbZ
                have hcZ := (bcell1 (b := gl38) hbZ zgl).trans hcY
                have hvZ := (bcell1 (b := ain) hbZ zin).trans (hin.at_ _ hLL).1
                have hfZ := (hbZ.frozen (p := ⟨ain, oin + (((R : Int) + os.length + 1 + subsTo os k)).toNat, none⟩) zin).trans (hin.at_ _ hLL).2
                refine wpC_one (i := 7) (l' := #[true, true, true, true, true, true, true, true, true, true, true, false, false, false, false, false]) (by kernel_rfl) rfl rfl (by rfl) (fun Kr hKr => ?_)
                go_simp
                refine hKr _ _ (fun _ => by first | exact hsZ | exact hsY) ?_
                clear hKr Kr
                try simp only [List.getElem_toArray, List.getElem_cons_succ, List.getElem_cons_zero, Act.put, List.setIfInBounds_toArray, List.set_cons_zero, List.set_cons_succ]
                refine wpC_take (i := 11) (v := ?v11_90) (l' := #[true, true, true, true, true, true, true, true, true, true, true, true, false, false, false, false]) [12, 13, 14, 15] rfl (by kernel_rfl) (by kernel_rfl) (by kernel_rfl) (by kernel_rfl) (by kernel_rfl) rfl (fun _ _ _ h => h) (by rfl) (fun wx hS => ?q11_90) (by assumption) ?_
                case q11_90 => (go_simp; try with_reducible rfl)
                try simp only [List.getElem_toArray, List.getElem_cons_succ, List.getElem_cons_zero, Act.put, List.setIfInBounds_toArray, List.set_cons_zero, List.set_cons_succ]
                refine wpC_one (i := 12) (l' := #[true, true, true, true, true, true, true, true, true, true, true, true, true, false, false, false]) (by kernel_rfl) rfl rfl (by rfl) (fun Kr hKr => ?_)
                go_simp
                refine hKr _ _ (fun _ => hsZ) ?_
                clear hKr Kr
                try simp only [List.getElem_toArray, List.getElem_cons_succ, List.getElem_cons_zero, Act.put, List.setIfInBounds_toArray, List.set_cons_zero, List.set_cons_succ]
                refine wpC_take (i := 13) (v := ?v13_91) (l' := #[true, true, true, true, true, true, true, true, true, true, true, true, true, true, false, false]) [14, 15] rfl (by kernel_rfl) (by kernel_rfl) (by kernel_rfl) (by kernel_rfl) (by kernel_rfl) rfl (fun _ _ _ h => h) (by rfl) (fun wx hS => ?q13_91) (by assumption) ?_
                case q13_91 => (go_simp; try with_reducible rfl)
                try simp only [List.getElem_toArray, List.getElem_cons_succ, List.getElem_cons_zero, Act.put, List.setIfInBounds_toArray, List.set_cons_zero, List.set_cons_succ]
                refine wpC_take (i := 14) (v := ?v14_92) (l' := #[true, true, true, true, true, true, true, true, true, true, true, true, true, true, true, false]) [15] rfl (by kernel_rfl) (by kernel_rfl) (by kernel_rfl) (by kernel_rfl) (by kernel_rfl) rfl (fun _ _ _ h => h) (by rfl) (fun wx hS => ?q14_92) (by assumption) ?_
                case q14_92 => (go_simp; try with_reducible rfl)
                try simp only [List.getElem_toArray, List.getElem_cons_succ, List.getElem_cons_zero, Act.put, List.setIfInBounds_toArray, List.set_cons_zero, List.set_cons_succ]
                refine wpC_one (i := 15) (l' := #[true, true, true, true, true, true, true, true, true, true, true, true, true, true, true, true]) (by kernel_rfl) rfl rfl (by rfl) (fun Kr hKr => ?_)
                go_simp
                refine hKr _ _ (fun h => absurd (by decide) h) ?_
                clear hKr Kr
                try simp only [List.getElem_toArray, List.getElem_cons_succ, List.getElem_cons_zero, Act.put, List.setIfInBounds_toArray, List.set_cons_zero, List.set_cons_succ]
                refine wpC_done (by kernel_rfl) ?_ _
                have hITE := (hITY.keep hbZ).put hin.mem (hin.put _ hbZ _ hLL)
                obtain ⟨wE38, hwE⟩ : ∃ wz, wz = wZ38.setCell ⟨ain, oin + (((R : Int) + os.length + 1 + subsTo os k)).toNat, none⟩ (.int .i64 (nth (bagK K []) (((R : Int) + os.length + 1 + subsTo os k)).toNat + 1)) := ⟨_, rfl⟩
                rw [← hwE] at hITE ⊢
                rw [show (((R : Int) + os.length + 1 + subsTo os k)).toNat = (((R + os.length + 1 + subsTo os k : Nat) : Int)).toNat from by omega] at hITE
                have HIT38 : Hid (Bit (w.heap.size + 1) wp wE38 w1.heap.size K (((((rulesTo R os mode K k) ++ [(rulK K 0 [((R : Int) + (k : Int)), (nthO os k).reg] [] [] [((R : Int) + (nthO os k).to)])]) ++ [(rulK K 0 [((R : Int) + (k : Int))] [] [] [((R + os.length + 1 + subsTo os k : Nat) : Int)])]) ++ [(rulK K 0 [((R + os.length + 1 + subsTo os k : Nat) : Int)] [] [] [((R : Int) + (nthO os k).els)])]) ++ [(rulK K 0 [(nthO os k).reg] [((R + os.length + 1 + subsTo os k : Nat) : Int)] [] [((K : Int) - 1)])]) (.slice (some ⟨gl38, 0, none⟩) (((((rulesTo R os mode K k) ++ [(rulK K 0 [((R : Int) + (k : Int)), (nthO os k).reg] [] [] [((R : Int) + (nthO os k).to)])]) ++ [(rulK K 0 [((R : Int) + (k : Int))] [] [] [((R + os.length + 1 + subsTo os k : Nat) : Int)])]) ++ [(rulK K 0 [((R + os.length + 1 + subsTo os k : Nat) : Int)] [] [] [((R : Int) + (nthO os k).els)])]).length + 1) cl38) G38 (firstTo R os mode K (k + 1)) (.slice a7 ((firstTo R os mode K k).length + 1) c7) Gf7 w.heap.size wr.heap.size R ao os.length co (nthO os k)) := Lib.hid hITE
                clear hITE hwE hcZ hvZ hfZ hsZ hbZ hcY hsY hITY hin i2 hbd zgl zin hN hs0 zB
                have bx0 := HIT38.out.bx.p0
                have bx1 := HIT38.out.bx.p1
                have bx2 := HIT38.out.bx.o0
                have bx3 := HIT38.out.bx.o1
                have bx4 := HIT38.out.bx.o2
                have bx5 := HIT38.out.bx.o3
                have zB : w.heap.size + 1 ≤ wE38.heap.size := Nat.le_trans HIT38.out.st.mr.hg.1 (Nat.le_of_lt HIT38.out.st.mr.hg.2)
                go_wp2
                go_roundw
                case rel => exact ⟨k + 1, _, _, _, _, by omega, by go_num, by rw [HRS.out]; exact HIT38.out.st, HIT38.out.hb⟩
                case measure => simp [intOf]; omega
      · have hq1 : ((nthO os k).op == 1) = false := by rw [hop]; rfl
        have hq2 : ((nthO os k).op == 2) = false := by rw [hop]; rfl
        have HRS : Hid (rulesTo R os mode K (k + 1) = (rulesTo R os mode K k)) := Lib.hid (by rw [rulesTo, ordRules, if_neg (by rw [hop]; decide), if_neg (by rw [hop]; decide)]; simp)
        clear hop
        have bx0 := HIT9.out.bx.p0
        have bx1 := HIT9.out.bx.p1
        have bx2 := HIT9.out.bx.o0
        have bx3 := HIT9.out.bx.o1
        have bx4 := HIT9.out.bx.o2
        have bx5 := HIT9.out.bx.o3
        have zB : w.heap.size + 1 ≤ w9.heap.size := Nat.le_trans HIT9.out.st.mr.hg.1 (Nat.le_of_lt HIT9.out.st.mr.hg.2)
        go_wp2
        go_roundw
        case rel => exact ⟨k + 1, _, _, _, _, by omega, by go_num, by rw [HRS.out]; exact HIT9.out.st, HIT9.out.hb⟩
        case measure => simp [intOf]; omega
    · obtain rfl : k = os.length := by omega
      have HST := Lib.hid hst
      have HBR := Lib.hid hbr
      have zB : w.heap.size + 1 ≤ wr.heap.size := Nat.le_trans hst.mr.hg.1 (Nat.le_of_lt hst.mr.hg.2)
      have hlr := rulesTo_len R os mode K os.length
      clear hst hbr
      by_cases hm3 : mode = 3
      · have hr3 : (mode == 3) = true := by simpa using hm3
        have HRS : Hid (rulesS R os mode = rulesTo R os mode K os.length ++ [rulK K 0 [(K : Int) - 1] [] [] [(K : Int) - 1]]) := Lib.hid (by rw [rulesS, if_pos hm3, ← HKE.out])
        clear hm3
        go_wp2_with fail
        refine (rule_c K w1.heap.size ((K : Int) - 1) (some ⟨wr.heap.size, 0, none⟩) 1 [(K : Int) - 1] (w.heap.size + 1) (rulesTo R os mode K os.length) v G _ (HST.out.keep (below_alloc _ _)).mr (by (try simp); omega) (SlI.one (by simp [go_sem])) (by simp) (rng1 (by omega)) (by omega) hk2 (by omega)).mono ?_
        rintro e w5 ⟨gl, cl, G5, rfl, hN⟩
        have HS5 := Lib.hid ((HST.out.keep (below_alloc _ _)).rule hN)
        have HB5 : Hid (Below (w.heap.size + 1) wp w5) := Lib.hid ((HBR.out.alloc zB _).trans (hN.chg.below (by (try simp); omega) (fun x hx => by
          rcases List.mem_cons.1 hx with e | e
          · subst e; exact HST.out.mr.hg.1
          · exact (HST.out.mr.lst.lt x (ob_sub HST.out.mr.lst _ e)).1)))
        clear hN
        go_wp2
        go_ret
        exact ⟨w1.heap.size, _, _, _, _, rfl, by rw [HRS.out]; exact HS5.out, HBW.out.trans (HB5.out.mono (by omega))⟩
      · have hr3 : (mode == 3) = false := by simpa using hm3
        have HRS : Hid (rulesS R os mode = rulesTo R os mode K os.length) := Lib.hid (by rw [rulesS, if_neg hm3, ← HKE.out, List.append_nil])
        clear hm3
        go_wp2
        go_ret
        exact ⟨w1.heap.size, _, _, _, _, rfl, by rw [HRS.out]; exact HST.out, HBW.out.trans (HBR.out.mono (by omega))⟩
end Go.Proofs.Ytncndnholheemaa
