/- The rules that a program becomes: the reference's rule. Written by mkmf.py. -/
import Derived.Test.YtncndnholheemaaMD
namespace Go.Proofs.Ytncndnholheemaa
open Go.RowKit

set_option maxHeartbeats 1000000 in
set_option maxRecDepth 100000 in
theorem srule_c (K g : Nat) (rank : Int) (x1 x2 x3 x4 : Option Addr) (d1 d2 d3 d4 : Nat) (k1 k2 k3 k4 : List Int) (B : Nat) (rs : List Rul) (v : Value) (G : List Nat) (w : World) (hm : Mkr 173 B w g K rs v G) (hB : B ≤ w.heap.size) (s1 : SlI Any w x1 k1) (s2 : SlI Any w x2 k2) (s3 : SlI Any w x3 k3) (s4 : SlI Any w x4 k4)
    (m1 : k1.length ≤ 2) (m2 : k2.length ≤ 2) (m3 : k3.length ≤ 2) (m4 : k4.length ≤ 2) (n1 : ∀ j, j < k1.length → 0 ≤ nth k1 j ∧ nth k1 j < K) (n2 : ∀ j, j < k2.length → 0 ≤ nth k2 j ∧ nth k2 j < K) (n3 : ∀ j, j < k3.length → 0 ≤ nth k3 j ∧ nth k3 j < K) (n4 : ∀ j, j < k4.length → 0 ≤ nth k4 j ∧ nth k4 j < K) (hK : K ≤ 17) (hr : rs.length ≤ 30) :
    Calls Try.prog 157 #[.pointer (some ⟨g, 0, none⟩), .int .i64 rank, .slice x1 k1.length d1, .slice x2 k2.length d2, .slice x3 k3.length d3, .slice x4 k4.length d4] w (fun e w' => ∃ gl c G', e = .returned (.tuple #[]) ∧ MkrNext 173 B w w' g K rs (rulK K rank k1 k2 k3 k4) v G gl c G') := by
  have hrun := callFunc_run Try.func178 (by kernel_rfl) rfl
  have hg := hm.hg
  have HC : Hid (∀ wx a c ks, Below w.heap.size w wx → SlI Any wx a ks → ks.length ≤ 2 → (∀ j, j < ks.length → 0 ≤ nth ks j ∧ nth ks j < K) → Calls Try.prog 178 #[.pointer (some ⟨g, 0, none⟩), .slice a ks.length c] wx (RetD wx (dI (bagK K ks)))) := Lib.hid fun wx a c ks h hs h2 hk => sbag_c K g a c ks wx hs ((bcell1 h hg.2).trans hm.c0) hK hk h2
  have HC1 : Hid (∀ wx, Below w.heap.size w wx → Calls Try.prog 178 #[.pointer (some ⟨g, 0, none⟩), .slice x1 k1.length d1] wx (RetD wx (dI (bagK K k1)))) := Lib.hid fun wx h => HC.out wx x1 d1 k1 h (s1.below h) m1 n1
  have HC2 : Hid (∀ wx, Below w.heap.size w wx → Calls Try.prog 178 #[.pointer (some ⟨g, 0, none⟩), .slice x2 k2.length d2] wx (RetD wx (dI (bagK K k2)))) := Lib.hid fun wx h => HC.out wx x2 d2 k2 h (s2.below h) m2 n2
  have HC3 : Hid (∀ wx, Below w.heap.size w wx → Calls Try.prog 178 #[.pointer (some ⟨g, 0, none⟩), .slice x3 k3.length d3] wx (RetD wx (dI (bagK K k3)))) := Lib.hid fun wx h => HC.out wx x3 d3 k3 h (s3.below h) m3 n3
  have HC4 : Hid (∀ wx, Below w.heap.size w wx → Calls Try.prog 178 #[.pointer (some ⟨g, 0, none⟩), .slice x4 k4.length d4] wx (RetD wx (dI (bagK K k4)))) := Lib.hid fun wx h => HC.out wx x4 d4 k4 h (s4.below h) m4 n4
  have HC5 : Hid (∀ wx b, Below w.heap.size w wx → Calls Try.prog 178 #[.pointer (some ⟨g, 0, none⟩), .slice (some ⟨b, 0, none⟩) 0 0] wx (RetD wx (dI (bagK K [])))) := Lib.hid fun wx b h => HC.out wx (some ⟨b, 0, none⟩) 0 [] h (SlI.nil0 _ _) (by simp) (by simp)
  have HM := Lib.hid hm
  have HLT : Hid (∀ x, x ∈ G → x < w.heap.size) := Lib.hid fun x hx => (hm.lst.lt x hx).2
  have f1w : ∀ {wx : World}, Below w.heap.size w wx → wx.cell? ⟨g, 1, none⟩ = some v := fun h => (bcell1 h hg.2).trans hm.c1
  clear hm s1 s2 s3 s4 m1 m2 m3 m4 n1 n2 n3 n4 HC
  go_enter Try.func157, Try.ntmps157
  go_wp2
  have hs0 : w.drew.cell? ⟨g, 1, none⟩ = some v := f1w (below_dr (Below.refl _ _))
  refine wp_region_C (n := 27) (l := #[false, false, false, false, false, false, false, false, false, false, false, false, false, false, false, false, false, false, false, false, false, false, false, false, false, false, false]) (fun wx => wx.cell? ⟨g, 1, none⟩ = some v) [26] (by kernel_rfl) rfl rfl ?_
  refine wpC_take (i := 0) (v := ?v0_1) (l' := #[true, false, false, false, false, false, false, false, false, false, false, false, false, false, false, false, false, false, false, false, false, false, false, false, false, false, false]) [24, 25, 26] rfl (by kernel_rfl) (by kernel_rfl) (by kernel_rfl) (by kernel_rfl) (by kernel_rfl) rfl (fun _ _ _ h => h) (by rfl) (fun wx hS => ?q0_1) (by assumption) ?_
  case q0_1 => (go_simp; try with_reducible rfl)
  try simp only [List.getElem_toArray, List.getElem_cons_zero, Act.put, List.setIfInBounds_toArray, List.set_cons_zero, List.set_cons_succ]
  refine wpC_take (i := 1) (v := ?v1_2) (l' := #[true, true, false, false, false, false, false, false, false, false, false, false, false, false, false, false, false, false, false, false, false, false, false, false, false, false, false]) [2, 3, 4, 23, 24, 25, 26] rfl (by kernel_rfl) (by kernel_rfl) (by kernel_rfl) (by kernel_rfl) (by kernel_rfl) rfl (fun _ _ _ h => h) (by rfl) (fun wx hS => ?q1_2) (by assumption) ?_
  case q1_2 => (go_simp; try with_reducible rfl)
  try simp only [List.getElem_toArray, List.getElem_cons_succ, List.getElem_cons_zero, Act.put, List.setIfInBounds_toArray, List.set_cons_zero, List.set_cons_succ]
  refine wpC_take (i := 2) (v := ?v2_3) (l' := #[true, true, true, false, false, false, false, false, false, false, false, false, false, false, false, false, false, false, false, false, false, false, false, false, false, false, false]) [3, 4, 23, 24, 25, 26] rfl (by kernel_rfl) (by kernel_rfl) (by kernel_rfl) (by kernel_rfl) (by kernel_rfl) rfl (fun _ _ _ h => h) (by rfl) (fun wx hS => ?q2_3) (by assumption) ?_
  case q2_3 => (go_simp; try with_reducible rfl)
  try simp only [List.getElem_toArray, List.getElem_cons_succ, List.getElem_cons_zero, Act.put, List.setIfInBounds_toArray, List.set_cons_zero, List.set_cons_succ]
  refine wpC_take (i := 3) (v := ?v3_4) (l' := #[true, true, true, true, false, false, false, false, false, false, false, false, false, false, false, false, false, false, false, false, false, false, false, false, false, false, false]) [4, 23, 24, 25, 26] rfl (by kernel_rfl) (by kernel_rfl) (by kernel_rfl) (by kernel_rfl) (by kernel_rfl) rfl (fun _ _ _ h => h) (by rfl) (fun wx hS => ?q3_4) (by assumption) ?_
  case q3_4 => (go_simp; try with_reducible rfl)
  try simp only [List.getElem_toArray, List.getElem_cons_succ, List.getElem_cons_zero, Act.put, List.setIfInBounds_toArray, List.set_cons_zero, List.set_cons_succ]
  refine wpC_take (i := 4) (v := ?v4_5) (l' := #[true, true, true, true, true, false, false, false, false, false, false, false, false, false, false, false, false, false, false, false, false, false, false, false, false, false, false]) [23, 24, 25, 26] rfl (by kernel_rfl) (by kernel_rfl) (by kernel_rfl) (by kernel_rfl) (by kernel_rfl) rfl (fun _ _ _ h => h) (by rfl) (fun wx hS => ?q4_5) (by assumption) ?_
  case q4_5 => ((try dsimp only at hS); go_simp; try with_reducible rfl)
  try simp only [List.getElem_toArray, List.getElem_cons_succ, List.getElem_cons_zero, Act.put, List.setIfInBounds_toArray, List.set_cons_zero, List.set_cons_succ]
  refine wpC_take (i := 5) (v := ?v5_6) (l' := #[true, true, true, true, true, true, false, false, false, false, false, false, false, false, false, false, false, false, false, false, false, false, false, false, false, false, false]) [21, 22, 23, 24, 25, 26] rfl (by kernel_rfl) (by kernel_rfl) (by kernel_rfl) (by kernel_rfl) (by kernel_rfl) rfl (fun _ _ _ h => h) (by rfl) (fun wx hS => ?q5_6) (by assumption) ?_
  case q5_6 => (go_simp; try with_reducible rfl)
  try simp only [List.getElem_toArray, List.getElem_cons_succ, List.getElem_cons_zero, Act.put, List.setIfInBounds_toArray, List.set_cons_zero, List.set_cons_succ]
  refine wpC_take (i := 6) (v := ?v6_7) (l' := #[true, true, true, true, true, true, true, false, false, false, false, false, false, false, false, false, false, false, false, false, false, false, false, false, false, false, false]) [8, 11, 14, 17, 20, 21, 22, 23, 24, 25, 26] rfl (by kernel_rfl) (by kernel_rfl) (by kernel_rfl) (by kernel_rfl) (by kernel_rfl) rfl (fun _ _ _ h => h) (by rfl) (fun wx hS => ?q6_7) (by assumption) ?_
  case q6_7 => (go_simp; try with_reducible rfl)
  try simp only [List.getElem_toArray, List.getElem_cons_succ, List.getElem_cons_zero, Act.put, List.setIfInBounds_toArray, List.set_cons_zero, List.set_cons_succ]
  refine wpC_take (i := 7) (v := ?v7_8) (l' := #[true, true, true, true, true, true, true, true, false, false, false, false, false, false, false, false, false, false, false, false, false, false, false, false, false, false, false]) [8, 11, 14, 17, 20, 21, 22, 23, 24, 25, 26] rfl (by kernel_rfl) (by kernel_rfl) (by kernel_rfl) (by kernel_rfl) (by kernel_rfl) rfl (fun _ _ _ h => h) (by rfl) (fun wx hS => ?q7_8) (by assumption) ?_
  case q7_8 => (go_simp; try with_reducible rfl)
  try simp only [List.getElem_toArray, List.getElem_cons_succ, List.getElem_cons_zero, Act.put, List.setIfInBounds_toArray, List.set_cons_zero, List.set_cons_succ]
  refine wpC_take (i := 9) (v := ?v9_9) (l' := #[true, true, true, true, true, true, true, true, false, true, false, false, false, false, false, false, false, false, false, false, false, false, false, false, false, false, false]) [11, 14, 17, 20, 21, 22, 23, 24, 25, 26] rfl (by kernel_rfl) (by kernel_rfl) (by kernel_rfl) (by kernel_rfl) (by kernel_rfl) rfl (fun _ _ _ h => h) (by rfl) (fun wx hS => ?q9_9) (by assumption) ?_
  case q9_9 => (go_simp; try with_reducible rfl)
  try simp only [List.getElem_toArray, List.getElem_cons_succ, List.getElem_cons_zero, Act.put, List.setIfInBounds_toArray, List.set_cons_zero, List.set_cons_succ]
  refine wpC_take (i := 10) (v := ?v10_10) (l' := #[true, true, true, true, true, true, true, true, false, true, true, false, false, false, false, false, false, false, false, false, false, false, false, false, false, false, false]) [11, 14, 17, 20, 21, 22, 23, 24, 25, 26] rfl (by kernel_rfl) (by kernel_rfl) (by kernel_rfl) (by kernel_rfl) (by kernel_rfl) rfl (fun _ _ _ h => h) (by rfl) (fun wx hS => ?q10_10) (by assumption) ?_
  case q10_10 => (go_simp; try with_reducible rfl)
  try simp only [List.getElem_toArray, List.getElem_cons_succ, List.getElem_cons_zero, Act.put, List.setIfInBounds_toArray, List.set_cons_zero, List.set_cons_succ]
  refine wpC_take (i := 12) (v := ?v12_11) (l' := #[true, true, true, true, true, true, true, true, false, true, true, false, true, false, false, false, false, false, false, false, false, false, false, false, false, false, false]) [14, 17, 20, 21, 22, 23, 24, 25, 26] rfl (by kernel_rfl) (by kernel_rfl) (by kernel_rfl) (by kernel_rfl) (by kernel_rfl) rfl (fun _ _ _ h => h) (by rfl) (fun wx hS => ?q12_11) (by assumption) ?_
  case q12_11 => (go_simp; try with_reducible rfl)
  try simp only [List.getElem_toArray, List.getElem_cons_succ, List.getElem_cons_zero, Act.put, List.setIfInBounds_toArray, List.set_cons_zero, List.set_cons_succ]
  refine wpC_take (i := 13) (v := ?v13_12) (l' := #[true, true, true, true, true, true, true, true, false, true, true, false, true, true, false, false, false, false, false, false, false, false, false, false, false, false, false]) [14, 17, 20, 21, 22, 23, 24, 25, 26] rfl (by kernel_rfl) (by kernel_rfl) (by kernel_rfl) (by kernel_rfl) (by kernel_rfl) rfl (fun _ _ _ h => h) (by rfl) (fun wx hS => ?q13_12) (by assumption) ?_
  case q13_12 => (go_simp; try with_reducible rfl)
  try simp only [List.getElem_toArray, List.getElem_cons_succ, List.getElem_cons_zero, Act.put, List.setIfInBounds_toArray, List.set_cons_zero, List.set_cons_succ]
  refine wpC_take (i := 15) (v := ?v15_13) (l' := #[true, true, true, true, true, true, true, true, false, true, true, false, true, true, false, true, false, false, false, false, false, false, false, false, false, false, false]) [17, 20, 21, 22, 23, 24, 25, 26] rfl (by kernel_rfl) (by kernel_rfl) (by kernel_rfl) (by kernel_rfl) (by kernel_rfl) rfl (fun _ _ _ h => h) (by rfl) (fun wx hS => ?q15_13) (by assumption) ?_
  case q15_13 => (go_simp; try with_reducible rfl)
  try simp only [List.getElem_toArray, List.getElem_cons_succ, List.getElem_cons_zero, Act.put, List.setIfInBounds_toArray, List.set_cons_zero, List.set_cons_succ]
  refine wpC_take (i := 16) (v := ?v16_14) (l' := #[true, true, true, true, true, true, true, true, false, true, true, false, true, true, false, true, true, false, false, false, false, false, false, false, false, false, false]) [17, 20, 21, 22, 23, 24, 25, 26] rfl (by kernel_rfl) (by kernel_rfl) (by kernel_rfl) (by kernel_rfl) (by kernel_rfl) rfl (fun _ _ _ h => h) (by rfl) (fun wx hS => ?q16_14) (by assumption) ?_
  case q16_14 => (go_simp; try with_reducible rfl)
  try simp only [List.getElem_toArray, List.getElem_cons_succ, List.getElem_cons_zero, Act.put, List.setIfInBounds_toArray, List.set_cons_zero, List.set_cons_succ]
  refine wpC_take (i := 18) (v := ?v18_15) (l' := #[true, true, true, true, true, true, true, true, false, true, true, false, true, true, false, true, true, false, true, false, false, false, false, false, false, false, false]) [20, 21, 22, 23, 24, 25, 26] rfl (by kernel_rfl) (by kernel_rfl) (by kernel_rfl) (by kernel_rfl) (by kernel_rfl) rfl (fun _ _ _ h => h) (by rfl) (fun wx hS => ?q18_15) (by assumption) ?_
  case q18_15 => (go_simp; try with_reducible rfl)
  try simp only [List.getElem_toArray, List.getElem_cons_succ, List.getElem_cons_zero, Act.put, List.setIfInBounds_toArray, List.set_cons_zero, List.set_cons_succ]
  refine wpC_two (i := 8) (j := 19) (l' := #[true, true, true, true, true, true, true, true, true, true, true, false, true, true, false, true, true, false, true, false, false, false, false, false, false, false, false]) (l'' := #[true, true, true, true, true, true, true, true, false, true, true, false, true, true, false, true, true, false, true, true, false, false, false, false, false, false, false]) (by kernel_rfl) rfl rfl rfl rfl (by rfl) (by rfl) (fun Kr hKr => ?_) (fun Kr hKr => ?_)
  · refine step_callD rfl 178 #[.tmp 18, .tmp 19] _ rfl hrun #[.pointer (some ⟨g, 0, none⟩), .slice x1 k1.length d1] (by first | rfl | (simp [Act.eval]; done) | (simp [Act.eval]; rfl) | (simp [Act.eval]; repeat' constructor)) (dI (bagK K k1)) (HC1.out _ (by (repeat (first | exact q5.b0 | exact q4.b0 | exact q3.b0 | exact q2.b0 | exact q1.b0 | exact Below.refl _ _ | refine below_dr ?_ | refine below_al ?_ _)); done)) ?_; intro v F1 w1 hb ho hn hl; have hx0 := Bag1.of (w := w) (pw := w) hb ho hn hl; have hx1 := hx0 (by (repeat (first | exact q5.b0 | exact q4.b0 | exact q3.b0 | exact q2.b0 | exact q1.b0 | exact Below.refl _ _ | refine below_dr ?_ | refine below_al ?_ _)); done); have hx2 := hx1 (by (repeat (first | exact Below.refl _ _ | refine below_dr ?_ | refine below_al ?_ _)); done); clear hx0 hx1 hb ho hn hl; obtain ⟨a1, c1, rfl, q1⟩ := hx2
    refine hKr _ _ (fun _ => f1w q1.b0) ?_
    clear hKr Kr
    try simp only [List.getElem_toArray, List.getElem_cons_succ, List.getElem_cons_zero, Act.put, List.setIfInBounds_toArray, List.set_cons_zero, List.set_cons_succ]
    refine wpC_two (i := 11) (j := 19) (l' := #[true, true, true, true, true, true, true, true, true, true, true, true, true, true, false, true, true, false, true, false, false, false, false, false, false, false, false]) (l'' := #[true, true, true, true, true, true, true, true, true, true, true, false, true, true, false, true, true, false, true, true, false, false, false, false, false, false, false]) (by kernel_rfl) rfl rfl rfl rfl (by rfl) (by rfl) (fun Kr hKr => ?_) (fun Kr hKr => ?_)
    · refine step_callD rfl 178 #[.tmp 21, .tmp 22] _ rfl hrun #[.pointer (some ⟨g, 0, none⟩), .slice x2 k2.length d2] (by first | rfl | (simp [Act.eval]; done) | (simp [Act.eval]; rfl) | (simp [Act.eval]; repeat' constructor)) (dI (bagK K k2)) (HC2.out _ (by (repeat (first | exact q5.b0 | exact q4.b0 | exact q3.b0 | exact q2.b0 | exact q1.b0 | exact Below.refl _ _ | refine below_dr ?_ | refine below_al ?_ _)); done)) ?_; intro v F2 w2 hb ho hn hl; have hx0 := Bag1.of (w := w) (pw := w1) hb ho hn hl; have hx1 := hx0 (by (repeat (first | exact q5.b0 | exact q4.b0 | exact q3.b0 | exact q2.b0 | exact q1.b0 | exact Below.refl _ _ | refine below_dr ?_ | refine below_al ?_ _)); done); have hx2 := hx1 (by (repeat (first | exact Below.refl _ _ | refine below_dr ?_ | refine below_al ?_ _)); done); clear hx0 hx1 hb ho hn hl; obtain ⟨a2, c2, rfl, q2⟩ := hx2
      refine hKr _ _ (fun _ => f1w q2.b0) ?_
      clear hKr Kr
      try simp only [List.getElem_toArray, List.getElem_cons_succ, List.getElem_cons_zero, Act.put, List.setIfInBounds_toArray, List.set_cons_zero, List.set_cons_succ]
      refine wpC_two (i := 14) (j := 19) (l' := #[true, true, true, true, true, true, true, true, true, true, true, true, true, true, true, true, true, false, true, false, false, false, false, false, false, false, false]) (l'' := #[true, true, true, true, true, true, true, true, true, true, true, true, true, true, false, true, true, false, true, true, false, false, false, false, false, false, false]) (by kernel_rfl) rfl rfl rfl rfl (by rfl) (by rfl) (fun Kr hKr => ?_) (fun Kr hKr => ?_)
      · refine step_callD rfl 178 #[.tmp 24, .tmp 25] _ rfl hrun #[.pointer (some ⟨g, 0, none⟩), .slice x3 k3.length d3] (by first | rfl | (simp [Act.eval]; done) | (simp [Act.eval]; rfl) | (simp [Act.eval]; repeat' constructor)) (dI (bagK K k3)) (HC3.out _ (by (repeat (first | exact q5.b0 | exact q4.b0 | exact q3.b0 | exact q2.b0 | exact q1.b0 | exact Below.refl _ _ | refine below_dr ?_ | refine below_al ?_ _)); done)) ?_; intro v F3 w3 hb ho hn hl; have hx0 := Bag1.of (w := w) (pw := w2) hb ho hn hl; have hx1 := hx0 (by (repeat (first | exact q5.b0 | exact q4.b0 | exact q3.b0 | exact q2.b0 | exact q1.b0 | exact Below.refl _ _ | refine below_dr ?_ | refine below_al ?_ _)); done); have hx2 := hx1 (by (repeat (first | exact Below.refl _ _ | refine below_dr ?_ | refine below_al ?_ _)); done); clear hx0 hx1 hb ho hn hl; obtain ⟨a3, c3, rfl, q3⟩ := hx2
        refine hKr _ _ (fun _ => f1w q3.b0) ?_
        clear hKr Kr
        try simp only [List.getElem_toArray, List.getElem_cons_succ, List.getElem_cons_zero, Act.put, List.setIfInBounds_toArray, List.set_cons_zero, List.set_cons_succ]
        refine wpC_two (i := 17) (j := 19) (l' := #[true, true, true, true, true, true, true, true, true, true, true, true, true, true, true, true, true, true, true, false, false, false, false, false, false, false, false]) (l'' := #[true, true, true, true, true, true, true, true, true, true, true, true, true, true, true, true, true, false, true, true, false, false, false, false, false, false, false]) (by kernel_rfl) rfl rfl rfl rfl (by rfl) (by rfl) (fun Kr hKr => ?_) (fun Kr hKr => ?_)
        · refine step_callD rfl 178 #[.tmp 27, .tmp 28] _ rfl hrun #[.pointer (some ⟨g, 0, none⟩), .slice x4 k4.length d4] (by first | rfl | (simp [Act.eval]; done) | (simp [Act.eval]; rfl) | (simp [Act.eval]; repeat' constructor)) (dI (bagK K k4)) (HC4.out _ (by (repeat (first | exact q5.b0 | exact q4.b0 | exact q3.b0 | exact q2.b0 | exact q1.b0 | exact Below.refl _ _ | refine below_dr ?_ | refine below_al ?_ _)); done)) ?_; intro v F4 w4 hb ho hn hl; have hx0 := Bag1.of (w := w) (pw := w3) hb ho hn hl; have hx1 := hx0 (by (repeat (first | exact q5.b0 | exact q4.b0 | exact q3.b0 | exact q2.b0 | exact q1.b0 | exact Below.refl _ _ | refine below_dr ?_ | refine below_al ?_ _)); done); have hx2 := hx1 (by (repeat (first | exact Below.refl _ _ | refine below_dr ?_ | refine below_al ?_ _)); done); clear hx0 hx1 hb ho hn hl; obtain ⟨a4, c4, rfl, q4⟩ := hx2
          refine hKr _ _ (fun _ => f1w q4.b0) ?_
          clear hKr Kr
          try simp only [List.getElem_toArray, List.getElem_cons_succ, List.getElem_cons_zero, Act.put, List.setIfInBounds_toArray, List.set_cons_zero, List.set_cons_succ]
          refine wpC_one (i := 19) (l' := #[true, true, true, true, true, true, true, true, true, true, true, true, true, true, true, true, true, true, true, true, false, false, false, false, false, false, false]) (by kernel_rfl) rfl rfl (by rfl) (fun Kr hKr => ?_)
          go_simp
          refine hKr _ _ (fun _ => f1w (by (repeat (first | exact q5.b0 | exact q4.b0 | exact q3.b0 | exact q2.b0 | exact q1.b0 | exact Below.refl _ _ | refine below_dr ?_ | refine below_al ?_ _)); done)) ?_
          clear hKr Kr
          try simp only [List.getElem_toArray, List.getElem_cons_succ, List.getElem_cons_zero, Act.put, List.setIfInBounds_toArray, List.set_cons_zero, List.set_cons_succ]
          refine wpC_one (i := 20) (l' := #[true, true, true, true, true, true, true, true, true, true, true, true, true, true, true, true, true, true, true, true, true, false, false, false, false, false, false]) (by kernel_rfl) rfl rfl (by rfl) (fun Kr hKr => ?_)
          refine step_callD rfl 178 #[.tmp 30, .tmp 31] _ rfl hrun #[.pointer (some ⟨g, 0, none⟩), .slice (some ⟨_, 0, none⟩) 0 0] (by first | rfl | (simp [Act.eval]; done) | (simp [Act.eval]; rfl) | (simp [Act.eval]; repeat' constructor)) (dI (bagK K [])) (HC5.out _ _ (by (repeat (first | exact q5.b0 | exact q4.b0 | exact q3.b0 | exact q2.b0 | exact q1.b0 | exact Below.refl _ _ | refine below_dr ?_ | refine below_al ?_ _)); done)) ?_; intro v F5 w5 hb ho hn hl; have hx0 := Bag1.of (w := w) (pw := w4) hb ho hn hl; have hx1 := hx0 (by (repeat (first | exact q5.b0 | exact q4.b0 | exact q3.b0 | exact q2.b0 | exact q1.b0 | exact Below.refl _ _ | refine below_dr ?_ | refine below_al ?_ _)); done); have hx2 := hx1 (by (repeat (first | exact Below.refl _ _ | refine below_dr ?_ | refine below_al ?_ _)); done); clear hx0 hx1 hb ho hn hl; obtain ⟨a5, c5, rfl, q5⟩ := hx2
          refine hKr _ _ (fun _ => f1w q5.b0) ?_
          clear hKr Kr
          try simp only [List.getElem_toArray, List.getElem_cons_succ, List.getElem_cons_zero, Act.put, List.setIfInBounds_toArray, List.set_cons_zero, List.set_cons_succ]
          have hs17 := f1w q5.b0
          refine wpC_take (i := 21) (v := ?v21_16) (l' := #[true, true, true, true, true, true, true, true, true, true, true, true, true, true, true, true, true, true, true, true, true, true, false, false, false, false, false]) [22, 23, 24, 25, 26] rfl (by kernel_rfl) (by kernel_rfl) (by kernel_rfl) (by kernel_rfl) (by kernel_rfl) rfl (fun _ _ _ h => h) (by rfl) (fun wx hS => ?q21_16) (by assumption) ?_
          case q21_16 => (go_simp; try with_reducible rfl)
          try simp only [List.getElem_toArray, List.getElem_cons_succ, List.getElem_cons_zero, Act.put, List.setIfInBounds_toArray, List.set_cons_zero, List.set_cons_succ]
          refine wpC_one (i := 22) (l' := #[true, true, true, true, true, true, true, true, true, true, true, true, true, true, true, true, true, true, true, true, true, true, true, false, false, false, false]) (by kernel_rfl) rfl rfl (by rfl) (fun Kr hKr => ?_)
          go_simp
          refine hKr _ _ (fun _ => f1w (by (repeat (first | exact q5.b0 | exact q4.b0 | exact q3.b0 | exact q2.b0 | exact q1.b0 | exact Below.refl _ _ | refine below_dr ?_ | refine below_al ?_ _)); done)) ?_
          clear hKr Kr
          try simp only [List.getElem_toArray, List.getElem_cons_succ, List.getElem_cons_zero, Act.put, List.setIfInBounds_toArray, List.set_cons_zero, List.set_cons_succ]
          refine wpC_one (i := 23) (l' := #[true, true, true, true, true, true, true, true, true, true, true, true, true, true, true, true, true, true, true, true, true, true, true, true, false, false, false]) (by kernel_rfl) rfl rfl (by rfl) (fun Kr hKr => ?_)
          refine step_lst rfl (.tmp 16) (.tmp 34) 118 rfl tabRuleSM rfl (by omega) (by decide) B v rs.length (rs.flatMap Rul.ds) (rulK K rank k1 k2 k3 k4).ds G _ _ rfl (HM.out.lst.below (below_al q5.b0 _)) w5.heap.size rfl (RowAt.five q1 q2 q3 q4 q5 hB HLT.out).1 (by omega) (Nat.le_trans hB (below_al q5.b0 _).size) ?_
          intro v7 w7 G7 hN
          obtain ⟨z1, z2, gl, cl, rfl, hNx⟩ := Mkr.next HM.out (below_al q5.b0 _) hN (RowAt.five (E := 0) (rank := 0) q1 q2 q3 q4 q5 hB HLT.out).2
          refine hKr _ _ (fun _ => z1) ?_
          clear hKr Kr
          try simp only [List.getElem_toArray, List.getElem_cons_succ, List.getElem_cons_zero, Act.put, List.setIfInBounds_toArray, List.set_cons_zero, List.set_cons_succ]
          have hs23 := z1
          refine wpC_take (i := 24) (v := ?v24_17) (l' := #[true, true, true, true, true, true, true, true, true, true, true, true, true, true, true, true, true, true, true, true, true, true, true, true, true, false, false]) [25, 26] rfl (by kernel_rfl) (by kernel_rfl) (by kernel_rfl) (by kernel_rfl) (by kernel_rfl) rfl (fun _ _ _ h => h) (by rfl) (fun wx hS => ?q24_17) (by assumption) ?_
          case q24_17 => (go_simp; try with_reducible rfl)
          try simp only [List.getElem_toArray, List.getElem_cons_succ, List.getElem_cons_zero, Act.put, List.setIfInBounds_toArray, List.set_cons_zero, List.set_cons_succ]
          refine wpC_take (i := 25) (v := ?v25_18) (l' := #[true, true, true, true, true, true, true, true, true, true, true, true, true, true, true, true, true, true, true, true, true, true, true, true, true, true, false]) [26] rfl (by kernel_rfl) (by kernel_rfl) (by kernel_rfl) (by kernel_rfl) (by kernel_rfl) rfl (fun _ _ _ h => h) (by rfl) (fun wx hS => ?q25_18) (by assumption) ?_
          case q25_18 => (go_simp; try with_reducible rfl)
          try simp only [List.getElem_toArray, List.getElem_cons_succ, List.getElem_cons_zero, Act.put, List.setIfInBounds_toArray, List.set_cons_zero, List.set_cons_succ]
          refine wpC_one (i := 26) (l' := #[true, true, true, true, true, true, true, true, true, true, true, true, true, true, true, true, true, true, true, true, true, true, true, true, true, true, true]) (by kernel_rfl) rfl rfl (by rfl) (fun Kr hKr => ?_)
          go_simp
          refine hKr _ _ (fun h => absurd (by decide) h) ?_
          clear hKr Kr
          try simp only [List.getElem_toArray, List.getElem_cons_succ, List.getElem_cons_zero, Act.put, List.setIfInBounds_toArray, List.set_cons_zero, List.set_cons_succ]
          refine wpC_done (by kernel_rfl) ?_ _
          go_wp2
          go_end0
          exact ⟨gl, cl, _, rfl, hNx⟩
        · go_simp
          refine hKr _ _ (fun _ => f1w (by (repeat (first | exact q5.b0 | exact q4.b0 | exact q3.b0 | exact q2.b0 | exact q1.b0 | exact Below.refl _ _ | refine below_dr ?_ | refine below_al ?_ _)); done)) ?_
          clear hKr Kr
          try simp only [List.getElem_toArray, List.getElem_cons_succ, List.getElem_cons_zero, Act.put, List.setIfInBounds_toArray, List.set_cons_zero, List.set_cons_succ]
          refine wpC_one (i := 17) (l' := #[true, true, true, true, true, true, true, true, true, true, true, true, true, true, true, true, true, true, true, true, false, false, false, false, false, false, false]) (by kernel_rfl) rfl rfl (by rfl) (fun Kr hKr => ?_)
          refine step_callD rfl 178 #[.tmp 27, .tmp 28] _ rfl hrun #[.pointer (some ⟨g, 0, none⟩), .slice x4 k4.length d4] (by first | rfl | (simp [Act.eval]; done) | (simp [Act.eval]; rfl) | (simp [Act.eval]; repeat' constructor)) (dI (bagK K k4)) (HC4.out _ (by (repeat (first | exact q5.b0 | exact q4.b0 | exact q3.b0 | exact q2.b0 | exact q1.b0 | exact Below.refl _ _ | refine below_dr ?_ | refine below_al ?_ _)); done)) ?_; intro v F4 w4 hb ho hn hl; have hx0 := Bag1.of (w := w) (pw := w3) hb ho hn hl; have hx1 := hx0 (by (repeat (first | exact q5.b0 | exact q4.b0 | exact q3.b0 | exact q2.b0 | exact q1.b0 | exact Below.refl _ _ | refine below_dr ?_ | refine below_al ?_ _)); done); have hx2 := hx1 (by (repeat (first | exact Below.refl _ _ | refine below_dr ?_ | refine below_al ?_ _)); done); clear hx0 hx1 hb ho hn hl; obtain ⟨a4, c4, rfl, q4⟩ := hx2
          refine hKr _ _ (fun _ => f1w q4.b0) ?_
          clear hKr Kr
          try simp only [List.getElem_toArray, List.getElem_cons_succ, List.getElem_cons_zero, Act.put, List.setIfInBounds_toArray, List.set_cons_zero, List.set_cons_succ]
          refine wpC_one (i := 20) (l' := #[true, true, true, true, true, true, true, true, true, true, true, true, true, true, true, true, true, true, true, true, true, false, false, false, false, false, false]) (by kernel_rfl) rfl rfl (by rfl) (fun Kr hKr => ?_)
          refine step_callD rfl 178 #[.tmp 30, .tmp 31] _ rfl hrun #[.pointer (some ⟨g, 0, none⟩), .slice (some ⟨_, 0, none⟩) 0 0] (by first | rfl | (simp [Act.eval]; done) | (simp [Act.eval]; rfl) | (simp [Act.eval]; repeat' constructor)) (dI (bagK K [])) (HC5.out _ _ (by (repeat (first | exact q5.b0 | exact q4.b0 | exact q3.b0 | exact q2.b0 | exact q1.b0 | exact Below.refl _ _ | refine below_dr ?_ | refine below_al ?_ _)); done)) ?_; intro v F5 w5 hb ho hn hl; have hx0 := Bag1.of (w := w) (pw := w4) hb ho hn hl; have hx1 := hx0 (by (repeat (first | exact q5.b0 | exact q4.b0 | exact q3.b0 | exact q2.b0 | exact q1.b0 | exact Below.refl _ _ | refine below_dr ?_ | refine below_al ?_ _)); done); have hx2 := hx1 (by (repeat (first | exact Below.refl _ _ | refine below_dr ?_ | refine below_al ?_ _)); done); clear hx0 hx1 hb ho hn hl; obtain ⟨a5, c5, rfl, q5⟩ := hx2
          refine hKr _ _ (fun _ => f1w q5.b0) ?_
          clear hKr Kr
          try simp only [List.getElem_toArray, List.getElem_cons_succ, List.getElem_cons_zero, Act.put, List.setIfInBounds_toArray, List.set_cons_zero, List.set_cons_succ]
          have hs17 := f1w q5.b0
          refine wpC_take (i := 21) (v := ?v21_19) (l' := #[true, true, true, true, true, true, true, true, true, true, true, true, true, true, true, true, true, true, true, true, true, true, false, false, false, false, false]) [22, 23, 24, 25, 26] rfl (by kernel_rfl) (by kernel_rfl) (by kernel_rfl) (by kernel_rfl) (by kernel_rfl) rfl (fun _ _ _ h => h) (by rfl) (fun wx hS => ?q21_19) (by assumption) ?_
          case q21_19 => (go_simp; try with_reducible rfl)
          try simp only [List.getElem_toArray, List.getElem_cons_succ, List.getElem_cons_zero, Act.put, List.setIfInBounds_toArray, List.set_cons_zero, List.set_cons_succ]
          refine wpC_one (i := 22) (l' := #[true, true, true, true, true, true, true, true, true, true, true, true, true, true, true, true, true, true, true, true, true, true, true, false, false, false, false]) (by kernel_rfl) rfl rfl (by rfl) (fun Kr hKr => ?_)
          go_simp
          refine hKr _ _ (fun _ => f1w (by (repeat (first | exact q5.b0 | exact q4.b0 | exact q3.b0 | exact q2.b0 | exact q1.b0 | exact Below.refl _ _ | refine below_dr ?_ | refine below_al ?_ _)); done)) ?_
          clear hKr Kr
          try simp only [List.getElem_toArray, List.getElem_cons_succ, List.getElem_cons_zero, Act.put, List.setIfInBounds_toArray, List.set_cons_zero, List.set_cons_succ]
          refine wpC_one (i := 23) (l' := #[true, true, true, true, true, true, true, true, true, true, true, true, true, true, true, true, true, true, true, true, true, true, true, true, false, false, false]) (by kernel_rfl) rfl rfl (by rfl) (fun Kr hKr => ?_)
          refine step_lst rfl (.tmp 16) (.tmp 34) 118 rfl tabRuleSM rfl (by omega) (by decide) B v rs.length (rs.flatMap Rul.ds) (rulK K rank k1 k2 k3 k4).ds G _ _ rfl (HM.out.lst.below (below_al q5.b0 _)) w5.heap.size rfl (RowAt.five q1 q2 q3 q4 q5 hB HLT.out).1 (by omega) (Nat.le_trans hB (below_al q5.b0 _).size) ?_
          intro v7 w7 G7 hN
          obtain ⟨z1, z2, gl, cl, rfl, hNx⟩ := Mkr.next HM.out (below_al q5.b0 _) hN (RowAt.five (E := 0) (rank := 0) q1 q2 q3 q4 q5 hB HLT.out).2
          refine hKr _ _ (fun _ => z1) ?_
          clear hKr Kr
          try simp only [List.getElem_toArray, List.getElem_cons_succ, List.getElem_cons_zero, Act.put, List.setIfInBounds_toArray, List.set_cons_zero, List.set_cons_succ]
          have hs23 := z1
          refine wpC_take (i := 24) (v := ?v24_20) (l' := #[true, true, true, true, true, true, true, true, true, true, true, true, true, true, true, true, true, true, true, true, true, true, true, true, true, false, false]) [25, 26] rfl (by kernel_rfl) (by kernel_rfl) (by kernel_rfl) (by kernel_rfl) (by kernel_rfl) rfl (fun _ _ _ h => h) (by rfl) (fun wx hS => ?q24_20) (by assumption) ?_
          case q24_20 => (go_simp; try with_reducible rfl)
          try simp only [List.getElem_toArray, List.getElem_cons_succ, List.getElem_cons_zero, Act.put, List.setIfInBounds_toArray, List.set_cons_zero, List.set_cons_succ]
          refine wpC_take (i := 25) (v := ?v25_21) (l' := #[true, true, true, true, true, true, true, true, true, true, true, true, true, true, true, true, true, true, true, true, true, true, true, true, true, true, false]) [26] rfl (by kernel_rfl) (by kernel_rfl) (by kernel_rfl) (by kernel_rfl) (by kernel_rfl) rfl (fun _ _ _ h => h) (by rfl) (fun wx hS => ?q25_21) (by assumption) ?_
          case q25_21 => (go_simp; try with_reducible rfl)
          try simp only [List.getElem_toArray, List.getElem_cons_succ, List.getElem_cons_zero, Act.put, List.setIfInBounds_toArray, List.set_cons_zero, List.set_cons_succ]
          refine wpC_one (i := 26) (l' := #[true, true, true, true, true, true, true, true, true, true, true, true, true, true, true, true, true, true, true, true, true, true, true, true, true, true, true]) (by kernel_rfl) rfl rfl (by rfl) (fun Kr hKr => ?_)
          go_simp
          refine hKr _ _ (fun h => absurd (by decide) h) ?_
          clear hKr Kr
          try simp only [List.getElem_toArray, List.getElem_cons_succ, List.getElem_cons_zero, Act.put, List.setIfInBounds_toArray, List.set_cons_zero, List.set_cons_succ]
          refine wpC_done (by kernel_rfl) ?_ _
          go_wp2
          go_end0
          exact ⟨gl, cl, _, rfl, hNx⟩
      · go_simp
        refine hKr _ _ (fun _ => f1w (by (repeat (first | exact q5.b0 | exact q4.b0 | exact q3.b0 | exact q2.b0 | exact q1.b0 | exact Below.refl _ _ | refine below_dr ?_ | refine below_al ?_ _)); done)) ?_
        clear hKr Kr
        try simp only [List.getElem_toArray, List.getElem_cons_succ, List.getElem_cons_zero, Act.put, List.setIfInBounds_toArray, List.set_cons_zero, List.set_cons_succ]
        refine wpC_one (i := 14) (l' := #[true, true, true, true, true, true, true, true, true, true, true, true, true, true, true, true, true, false, true, true, false, false, false, false, false, false, false]) (by kernel_rfl) rfl rfl (by rfl) (fun Kr hKr => ?_)
        refine step_callD rfl 178 #[.tmp 24, .tmp 25] _ rfl hrun #[.pointer (some ⟨g, 0, none⟩), .slice x3 k3.length d3] (by first | rfl | (simp [Act.eval]; done) | (simp [Act.eval]; rfl) | (simp [Act.eval]; repeat' constructor)) (dI (bagK K k3)) (HC3.out _ (by (repeat (first | exact q5.b0 | exact q4.b0 | exact q3.b0 | exact q2.b0 | exact q1.b0 | exact Below.refl _ _ | refine below_dr ?_ | refine below_al ?_ _)); done)) ?_; intro v F3 w3 hb ho hn hl; have hx0 := Bag1.of (w := w) (pw := w2) hb ho hn hl; have hx1 := hx0 (by (repeat (first | exact q5.b0 | exact q4.b0 | exact q3.b0 | exact q2.b0 | exact q1.b0 | exact Below.refl _ _ | refine below_dr ?_ | refine below_al ?_ _)); done); have hx2 := hx1 (by (repeat (first | exact Below.refl _ _ | refine below_dr ?_ | refine below_al ?_ _)); done); clear hx0 hx1 hb ho hn hl; obtain ⟨a3, c3, rfl, q3⟩ := hx2
        refine hKr _ _ (fun _ => f1w q3.b0) ?_
        clear hKr Kr
        try simp only [List.getElem_toArray, List.getElem_cons_succ, List.getElem_cons_zero, Act.put, List.setIfInBounds_toArray, List.set_cons_zero, List.set_cons_succ]
        refine wpC_one (i := 17) (l' := #[true, true, true, true, true, true, true, true, true, true, true, true, true, true, true, true, true, true, true, true, false, false, false, false, false, false, false]) (by kernel_rfl) rfl rfl (by rfl) (fun Kr hKr => ?_)
        refine step_callD rfl 178 #[.tmp 27, .tmp 28] _ rfl hrun #[.pointer (some ⟨g, 0, none⟩), .slice x4 k4.length d4] (by first | rfl | (simp [Act.eval]; done) | (simp [Act.eval]; rfl) | (simp [Act.eval]; repeat' constructor)) (dI (bagK K k4)) (HC4.out _ (by (repeat (first | exact q5.b0 | exact q4.b0 | exact q3.b0 | exact q2.b0 | exact q1.b0 | exact Below.refl _ _ | refine below_dr ?_ | refine below_al ?_ _)); done)) ?_; intro v F4 w4 hb ho hn hl; have hx0 := Bag1.of (w := w) (pw := w3) hb ho hn hl; have hx1 := hx0 (by (repeat (first | exact q5.b0 | exact q4.b0 | exact q3.b0 | exact q2.b0 | exact q1.b0 | exact Below.refl _ _ | refine below_dr ?_ | refine below_al ?_ _)); done); have hx2 := hx1 (by (repeat (first | exact Below.refl _ _ | refine below_dr ?_ | refine below_al ?_ _)); done); clear hx0 hx1 hb ho hn hl; obtain ⟨a4, c4, rfl, q4⟩ := hx2
        refine hKr _ _ (fun _ => f1w q4.b0) ?_
        clear hKr Kr
        try simp only [List.getElem_toArray, List.getElem_cons_succ, List.getElem_cons_zero, Act.put, List.setIfInBounds_toArray, List.set_cons_zero, List.set_cons_succ]
        refine wpC_one (i := 20) (l' := #[true, true, true, true, true, true, true, true, true, true, true, true, true, true, true, true, true, true, true, true, true, false, false, false, false, false, false]) (by kernel_rfl) rfl rfl (by rfl) (fun Kr hKr => ?_)
        refine step_callD rfl 178 #[.tmp 30, .tmp 31] _ rfl hrun #[.pointer (some ⟨g, 0, none⟩), .slice (some ⟨_, 0, none⟩) 0 0] (by first | rfl | (simp [Act.eval]; done) | (simp [Act.eval]; rfl) | (simp [Act.eval]; repeat' constructor)) (dI (bagK K [])) (HC5.out _ _ (by (repeat (first | exact q5.b0 | exact q4.b0 | exact q3.b0 | exact q2.b0 | exact q1.b0 | exact Below.refl _ _ | refine below_dr ?_ | refine below_al ?_ _)); done)) ?_; intro v F5 w5 hb ho hn hl; have hx0 := Bag1.of (w := w) (pw := w4) hb ho hn hl; have hx1 := hx0 (by (repeat (first | exact q5.b0 | exact q4.b0 | exact q3.b0 | exact q2.b0 | exact q1.b0 | exact Below.refl _ _ | refine below_dr ?_ | refine below_al ?_ _)); done); have hx2 := hx1 (by (repeat (first | exact Below.refl _ _ | refine below_dr ?_ | refine below_al ?_ _)); done); clear hx0 hx1 hb ho hn hl; obtain ⟨a5, c5, rfl, q5⟩ := hx2
        refine hKr _ _ (fun _ => f1w q5.b0) ?_
        clear hKr Kr
        try simp only [List.getElem_toArray, List.getElem_cons_succ, List.getElem_cons_zero, Act.put, List.setIfInBounds_toArray, List.set_cons_zero, List.set_cons_succ]
        have hs17 := f1w q5.b0
        refine wpC_take (i := 21) (v := ?v21_22) (l' := #[true, true, true, true, true, true, true, true, true, true, true, true, true, true, true, true, true, true, true, true, true, true, false, false, false, false, false]) [22, 23, 24, 25, 26] rfl (by kernel_rfl) (by kernel_rfl) (by kernel_rfl) (by kernel_rfl) (by kernel_rfl) rfl (fun _ _ _ h => h) (by rfl) (fun wx hS => ?q21_22) (by assumption) ?_
        case q21_22 => (go_simp; try with_reducible rfl)
        try simp only [List.getElem_toArray, List.getElem_cons_succ, List.getElem_cons_zero, Act.put, List.setIfInBounds_toArray, List.set_cons_zero, List.set_cons_succ]
        refine wpC_one (i := 22) (l' := #[true, true, true, true, true, true, true, true, true, true, true, true, true, true, true, true, true, true, true, true, true, true, true, false, false, false, false]) (by kernel_rfl) rfl rfl (by rfl) (fun Kr hKr => ?_)
        go_simp
        refine hKr _ _ (fun _ => f1w (by (repeat (first | exact q5.b0 | exact q4.b0 | exact q3.b0 | exact q2.b0 | exact q1.b0 | exact Below.refl _ _ | refine below_dr ?_ | refine below_al ?_ _)); done)) ?_
        clear hKr Kr
        try simp only [List.getElem_toArray, List.getElem_cons_succ, List.getElem_cons_zero, Act.put, List.setIfInBounds_toArray, List.set_cons_zero, List.set_cons_succ]
        refine wpC_one (i := 23) (l' := #[true, true, true, true, true, true, true, true, true, true, true, true, true, true, true, true, true, true, true, true, true, true, true, true, false, false, false]) (by kernel_rfl) rfl rfl (by rfl) (fun Kr hKr => ?_)
        refine step_lst rfl (.tmp 16) (.tmp 34) 118 rfl tabRuleSM rfl (by omega) (by decide) B v rs.length (rs.flatMap Rul.ds) (rulK K rank k1 k2 k3 k4).ds G _ _ rfl (HM.out.lst.below (below_al q5.b0 _)) w5.heap.size rfl (RowAt.five q1 q2 q3 q4 q5 hB HLT.out).1 (by omega) (Nat.le_trans hB (below_al q5.b0 _).size) ?_
        intro v7 w7 G7 hN
        obtain ⟨z1, z2, gl, cl, rfl, hNx⟩ := Mkr.next HM.out (below_al q5.b0 _) hN (RowAt.five (E := 0) (rank := 0) q1 q2 q3 q4 q5 hB HLT.out).2
        refine hKr _ _ (fun _ => z1) ?_
        clear hKr Kr
        try simp only [List.getElem_toArray, List.getElem_cons_succ, List.getElem_cons_zero, Act.put, List.setIfInBounds_toArray, List.set_cons_zero, List.set_cons_succ]
        have hs23 := z1
        refine wpC_take (i := 24) (v := ?v24_23) (l' := #[true, true, true, true, true, true, true, true, true, true, true, true, true, true, true, true, true, true, true, true, true, true, true, true, true, false, false]) [25, 26] rfl (by kernel_rfl) (by kernel_rfl) (by kernel_rfl) (by kernel_rfl) (by kernel_rfl) rfl (fun _ _ _ h => h) (by rfl) (fun wx hS => ?q24_23) (by assumption) ?_
        case q24_23 => (go_simp; try with_reducible rfl)
        try simp only [List.getElem_toArray, List.getElem_cons_succ, List.getElem_cons_zero, Act.put, List.setIfInBounds_toArray, List.set_cons_zero, List.set_cons_succ]
        refine wpC_take (i := 25) (v := ?v25_24) (l' := #[true, true, true, true, true, true, true, true, true, true, true, true, true, true, true, true, true, true, true, true, true, true, true, true, true, true, false]) [26] rfl (by kernel_rfl) (by kernel_rfl) (by kernel_rfl) (by kernel_rfl) (by kernel_rfl) rfl (fun _ _ _ h => h) (by rfl) (fun wx hS => ?q25_24) (by assumption) ?_
        case q25_24 => (go_simp; try with_reducible rfl)
        try simp only [List.getElem_toArray, List.getElem_cons_succ, List.getElem_cons_zero, Act.put, List.setIfInBounds_toArray, List.set_cons_zero, List.set_cons_succ]
        refine wpC_one (i := 26) (l' := #[true, true, true, true, true, true, true, true, true, true, true, true, true, true, true, true, true, true, true, true, true, true, true, true, true, true, true]) (by kernel_rfl) rfl rfl (by rfl) (fun Kr hKr => ?_)
        go_simp
        refine hKr _ _ (fun h => absurd (by decide) h) ?_
        clear hKr Kr
        try simp only [List.getElem_toArray, List.getElem_cons_succ, List.getElem_cons_zero, Act.put, List.setIfInBounds_toArray, List.set_cons_zero, List.set_cons_succ]
        refine wpC_done (by kernel_rfl) ?_ _
        go_wp2
        go_end0
        exact ⟨gl, cl, _, rfl, hNx⟩
    · go_simp
      refine hKr _ _ (fun _ => f1w (by (repeat (first | exact q5.b0 | exact q4.b0 | exact q3.b0 | exact q2.b0 | exact q1.b0 | exact Below.refl _ _ | refine below_dr ?_ | refine below_al ?_ _)); done)) ?_
      clear hKr Kr
      try simp only [List.getElem_toArray, List.getElem_cons_succ, List.getElem_cons_zero, Act.put, List.setIfInBounds_toArray, List.set_cons_zero, List.set_cons_succ]
      refine wpC_one (i := 11) (l' := #[true, true, true, true, true, true, true, true, true, true, true, true, true, true, false, true, true, false, true, true, false, false, false, false, false, false, false]) (by kernel_rfl) rfl rfl (by rfl) (fun Kr hKr => ?_)
      refine step_callD rfl 178 #[.tmp 21, .tmp 22] _ rfl hrun #[.pointer (some ⟨g, 0, none⟩), .slice x2 k2.length d2] (by first | rfl | (simp [Act.eval]; done) | (simp [Act.eval]; rfl) | (simp [Act.eval]; repeat' constructor)) (dI (bagK K k2)) (HC2.out _ (by (repeat (first | exact q5.b0 | exact q4.b0 | exact q3.b0 | exact q2.b0 | exact q1.b0 | exact Below.refl _ _ | refine below_dr ?_ | refine below_al ?_ _)); done)) ?_; intro v F2 w2 hb ho hn hl; have hx0 := Bag1.of (w := w) (pw := w1) hb ho hn hl; have hx1 := hx0 (by (repeat (first | exact q5.b0 | exact q4.b0 | exact q3.b0 | exact q2.b0 | exact q1.b0 | exact Below.refl _ _ | refine below_dr ?_ | refine below_al ?_ _)); done); have hx2 := hx1 (by (repeat (first | exact Below.refl _ _ | refine below_dr ?_ | refine below_al ?_ _)); done); clear hx0 hx1 hb ho hn hl; obtain ⟨a2, c2, rfl, q2⟩ := hx2
      refine hKr _ _ (fun _ => f1w q2.b0) ?_
      clear hKr Kr
      try simp only [List.getElem_toArray, List.getElem_cons_succ, List.getElem_cons_zero, Act.put, List.setIfInBounds_toArray, List.set_cons_zero, List.set_cons_succ]
      refine wpC_one (i := 14) (l' := #[true, true, true, true, true, true, true, true, true, true, true, true, true, true, true, true, true, false, true, true, false, false, false, false, false, false, false]) (by kernel_rfl) rfl rfl (by rfl) (fun Kr hKr => ?_)
      refine step_callD rfl 178 #[.tmp 24, .tmp 25] _ rfl hrun #[.pointer (some ⟨g, 0, none⟩), .slice x3 k3.length d3] (by first | rfl | (simp [Act.eval]; done) | (simp [Act.eval]; rfl) | (simp [Act.eval]; repeat' constructor)) (dI (bagK K k3)) (HC3.out _ (by (repeat (first | exact q5.b0 | exact q4.b0 | exact q3.b0 | exact q2.b0 | exact q1.b0 | exact Below.refl _ _ | refine below_dr ?_ | refine below_al ?_ _)); done)) ?_; intro v F3 w3 hb ho hn hl; have hx0 := Bag1.of (w := w) (pw := w2) hb ho hn hl; have hx1 := hx0 (by (repeat (first | exact q5.b0 | exact q4.b0 | exact q3.b0 | exact q2.b0 | exact q1.b0 | exact Below.refl _ _ | refine below_dr ?_ | refine below_al ?_ _)); done); have hx2 := hx1 (by (repeat (first | exact Below.refl _ _ | refine below_dr ?_ | refine below_al ?_ _)); done); clear hx0 hx1 hb ho hn hl; obtain ⟨a3, c3, rfl, q3⟩ := hx2
      refine hKr _ _ (fun _ => f1w q3.b0) ?_
      clear hKr Kr
      try simp only [List.getElem_toArray, List.getElem_cons_succ, List.getElem_cons_zero, Act.put, List.setIfInBounds_toArray, List.set_cons_zero, List.set_cons_succ]
      refine wpC_one (i := 17) (l' := #[true, true, true, true, true, true, true, true, true, true, true, true, true, true, true, true, true, true, true, true, false, false, false, false, false, false, false]) (by kernel_rfl) rfl rfl (by rfl) (fun Kr hKr => ?_)
      refine step_callD rfl 178 #[.tmp 27, .tmp 28] _ rfl hrun #[.pointer (some ⟨g, 0, none⟩), .slice x4 k4.length d4] (by first | rfl | (simp [Act.eval]; done) | (simp [Act.eval]; rfl) | (simp [Act.eval]; repeat' constructor)) (dI (bagK K k4)) (HC4.out _ (by (repeat (first | exact q5.b0 | exact q4.b0 | exact q3.b0 | exact q2.b0 | exact q1.b0 | exact Below.refl _ _ | refine below_dr ?_ | refine below_al ?_ _)); done)) ?_; intro v F4 w4 hb ho hn hl; have hx0 := Bag1.of (w := w) (pw := w3) hb ho hn hl; have hx1 := hx0 (by (repeat (first | exact q5.b0 | exact q4.b0 | exact q3.b0 | exact q2.b0 | exact q1.b0 | exact Below.refl _ _ | refine below_dr ?_ | refine below_al ?_ _)); done); have hx2 := hx1 (by (repeat (first | exact Below.refl _ _ | refine below_dr ?_ | refine below_al ?_ _)); done); clear hx0 hx1 hb ho hn hl; obtain ⟨a4, c4, rfl, q4⟩ := hx2
      refine hKr _ _ (fun _ => f1w q4.b0) ?_
      clear hKr Kr
      try simp only [List.getElem_toArray, List.getElem_cons_succ, List.getElem_cons_zero, Act.put, List.setIfInBounds_toArray, List.set_cons_zero, List.set_cons_succ]
      refine wpC_one (i := 20) (l' := #[true, true, true, true, true, true, true, true, true, true, true, true, true, true, true, true, true, true, true, true, true, false, false, false, false, false, false]) (by kernel_rfl) rfl rfl (by rfl) (fun Kr hKr => ?_)
      refine step_callD rfl 178 #[.tmp 30, .tmp 31] _ rfl hrun #[.pointer (some ⟨g, 0, none⟩), .slice (some ⟨_, 0, none⟩) 0 0] (by first | rfl | (simp [Act.eval]; done) | (simp [Act.eval]; rfl) | (simp [Act.eval]; repeat' constructor)) (dI (bagK K [])) (HC5.out _ _ (by (repeat (first | exact q5.b0 | exact q4.b0 | exact q3.b0 | exact q2.b0 | exact q1.b0 | exact Below.refl _ _ | refine below_dr ?_ | refine below_al ?_ _)); done)) ?_; intro v F5 w5 hb ho hn hl; have hx0 := Bag1.of (w := w) (pw := w4) hb ho hn hl; have hx1 := hx0 (by (repeat (first | exact q5.b0 | exact q4.b0 | exact q3.b0 | exact q2.b0 | exact q1.b0 | exact Below.refl _ _ | refine below_dr ?_ | refine below_al ?_ _)); done); have hx2 := hx1 (by (repeat (first | exact Below.refl _ _ | refine below_dr ?_ | refine below_al ?_ _)); done); clear hx0 hx1 hb ho hn hl; obtain ⟨a5, c5, rfl, q5⟩ := hx2
      refine hKr _ _ (fun _ => f1w q5.b0) ?_
      clear hKr Kr
      try simp only [List.getElem_toArray, List.getElem_cons_succ, List.getElem_cons_zero, Act.put, List.setIfInBounds_toArray, List.set_cons_zero, List.set_cons_succ]
      have hs17 := f1w q5.b0
      refine wpC_take (i := 21) (v := ?v21_25) (l' := #[true, true, true, true, true, true, true, true, true, true, true, true, true, true, true, true, true, true, true, true, true, true, false, false, false, false, false]) [22, 23, 24, 25, 26] rfl (by kernel_rfl) (by kernel_rfl) (by kernel_rfl) (by kernel_rfl) (by kernel_rfl) rfl (fun _ _ _ h => h) (by rfl) (fun wx hS => ?q21_25) (by assumption) ?_
      case q21_25 => (go_simp; try with_reducible rfl)
      try simp only [List.getElem_toArray, List.getElem_cons_succ, List.getElem_cons_zero, Act.put, List.setIfInBounds_toArray, List.set_cons_zero, List.set_cons_succ]
      refine wpC_one (i := 22) (l' := #[true, true, true, true, true, true, true, true, true, true, true, true, true, true, true, true, true, true, true, true, true, true, true, false, false, false, false]) (by kernel_rfl) rfl rfl (by rfl) (fun Kr hKr => ?_)
      go_simp
      refine hKr _ _ (fun _ => f1w (by (repeat (first | exact q5.b0 | exact q4.b0 | exact q3.b0 | exact q2.b0 | exact q1.b0 | exact Below.refl _ _ | refine below_dr ?_ | refine below_al ?_ _)); done)) ?_
      clear hKr Kr
      try simp only [List.getElem_toArray, List.getElem_cons_succ, List.getElem_cons_zero, Act.put, List.setIfInBounds_toArray, List.set_cons_zero, List.set_cons_succ]
      refine wpC_one (i := 23) (l' := #[true, true, true, true, true, true, true, true, true, true, true, true, true, true, true, true, true, true, true, true, true, true, true, true, false, false, false]) (by kernel_rfl) rfl rfl (by rfl) (fun Kr hKr => ?_)
      refine step_lst rfl (.tmp 16) (.tmp 34) 118 rfl tabRuleSM rfl (by omega) (by decide) B v rs.length (rs.flatMap Rul.ds) (rulK K rank k1 k2 k3 k4).ds G _ _ rfl (HM.out.lst.below (below_al q5.b0 _)) w5.heap.size rfl (RowAt.five q1 q2 q3 q4 q5 hB HLT.out).1 (by omega) (Nat.le_trans hB (below_al q5.b0 _).size) ?_
      intro v7 w7 G7 hN
      obtain ⟨z1, z2, gl, cl, rfl, hNx⟩ := Mkr.next HM.out (below_al q5.b0 _) hN (RowAt.five (E := 0) (rank := 0) q1 q2 q3 q4 q5 hB HLT.out).2
      refine hKr _ _ (fun _ => z1) ?_
      clear hKr Kr
      try simp only [List.getElem_toArray, List.getElem_cons_succ, List.getElem_cons_zero, Act.put, List.setIfInBounds_toArray, List.set_cons_zero, List.set_cons_succ]
      have hs23 := z1
      refine wpC_take (i := 24) (v := ?v24_26) (l' := #[true, true, true, true, true, true, true, true, true, true, true, true, true, true, true, true, true, true, true, true, true, true, true, true, true, false, false]) [25, 26] rfl (by kernel_rfl) (by kernel_rfl) (by kernel_rfl) (by kernel_rfl) (by kernel_rfl) rfl (fun _ _ _ h => h) (by rfl) (fun wx hS => ?q24_26) (by assumption) ?_
      case q24_26 => (go_simp; try with_reducible rfl)
      try simp only [List.getElem_toArray, List.getElem_cons_succ, List.getElem_cons_zero, Act.put, List.setIfInBounds_toArray, List.set_cons_zero, List.set_cons_succ]
      refine wpC_take (i := 25) (v := ?v25_27) (l' := #[true, true, true, true, true, true, true, true, true, true, true, true, true, true, true, true, true, true, true, true, true, true, true, true, true, true, false]) [26] rfl (by kernel_rfl) (by kernel_rfl) (by kernel_rfl) (by kernel_rfl) (by kernel_rfl) rfl (fun _ _ _ h => h) (by rfl) (fun wx hS => ?q25_27) (by assumption) ?_
      case q25_27 => (go_simp; try with_reducible rfl)
      try simp only [List.getElem_toArray, List.getElem_cons_succ, List.getElem_cons_zero, Act.put, List.setIfInBounds_toArray, List.set_cons_zero, List.set_cons_succ]
      refine wpC_one (i := 26) (l' := #[true, true, true, true, true, true, true, true, true, true, true, true, true, true, true, true, true, true, true, true, true, true, true, true, true, true, true]) (by kernel_rfl) rfl rfl (by rfl) (fun Kr hKr => ?_)
      go_simp
      refine hKr _ _ (fun h => absurd (by decide) h) ?_
      clear hKr Kr
      try simp only [List.getElem_toArray, List.getElem_cons_succ, List.getElem_cons_zero, Act.put, List.setIfInBounds_toArray, List.set_cons_zero, List.set_cons_succ]
      refine wpC_done (by kernel_rfl) ?_ _
      go_wp2
      go_end0
      exact ⟨gl, cl, _, rfl, hNx⟩
  · go_simp
    refine hKr _ _ (fun _ => f1w (by (repeat (first | exact q5.b0 | exact q4.b0 | exact q3.b0 | exact q2.b0 | exact q1.b0 | exact Below.refl _ _ | refine below_dr ?_ | refine below_al ?_ _)); done)) ?_
    clear hKr Kr
    try simp only [List.getElem_toArray, List.getElem_cons_succ, List.getElem_cons_zero, Act.put, List.setIfInBounds_toArray, List.set_cons_zero, List.set_cons_succ]
    refine wpC_one (i := 8) (l' := #[true, true, true, true, true, true, true, true, true, true, true, false, true, true, false, true, true, false, true, true, false, false, false, false, false, false, false]) (by kernel_rfl) rfl rfl (by rfl) (fun Kr hKr => ?_)
    refine step_callD rfl 178 #[.tmp 18, .tmp 19] _ rfl hrun #[.pointer (some ⟨g, 0, none⟩), .slice x1 k1.length d1] (by first | rfl | (simp [Act.eval]; done) | (simp [Act.eval]; rfl) | (simp [Act.eval]; repeat' constructor)) (dI (bagK K k1)) (HC1.out _ (by (repeat (first | exact q5.b0 | exact q4.b0 | exact q3.b0 | exact q2.b0 | exact q1.b0 | exact Below.refl _ _ | refine below_dr ?_ | refine below_al ?_ _)); done)) ?_; intro v F1 w1 hb ho hn hl; have hx0 := Bag1.of (w := w) (pw := w) hb ho hn hl; have hx1 := hx0 (by (repeat (first | exact q5.b0 | exact q4.b0 | exact q3.b0 | exact q2.b0 | exact q1.b0 | exact Below.refl _ _ | refine below_dr ?_ | refine below_al ?_ _)); done); have hx2 := hx1 (by (repeat (first | exact Below.refl _ _ | refine below_dr ?_ | refine below_al ?_ _)); done); clear hx0 hx1 hb ho hn hl; obtain ⟨a1, c1, rfl, q1⟩ := hx2
    refine hKr _ _ (fun _ => f1w q1.b0) ?_
    clear hKr Kr
    try simp only [List.getElem_toArray, List.getElem_cons_succ, List.getElem_cons_zero, Act.put, List.setIfInBounds_toArray, List.set_cons_zero, List.set_cons_succ]
    refine wpC_one (i := 11) (l' := #[true, true, true, true, true, true, true, true, true, true, true, true, true, true, false, true, true, false, true, true, false, false, false, false, false, false, false]) (by kernel_rfl) rfl rfl (by rfl) (fun Kr hKr => ?_)
    refine step_callD rfl 178 #[.tmp 21, .tmp 22] _ rfl hrun #[.pointer (some ⟨g, 0, none⟩), .slice x2 k2.length d2] (by first | rfl | (simp [Act.eval]; done) | (simp [Act.eval]; rfl) | (simp [Act.eval]; repeat' constructor)) (dI (bagK K k2)) (HC2.out _ (by (repeat (first | exact q5.b0 | exact q4.b0 | exact q3.b0 | exact q2.b0 | exact q1.b0 | exact Below.refl _ _ | refine below_dr ?_ | refine below_al ?_ _)); done)) ?_; intro v F2 w2 hb ho hn hl; have hx0 := Bag1.of (w := w) (pw := w1) hb ho hn hl; have hx1 := hx0 (by (repeat (first | exact q5.b0 | exact q4.b0 | exact q3.b0 | exact q2.b0 | exact q1.b0 | exact Below.refl _ _ | refine below_dr ?_ | refine below_al ?_ _)); done); have hx2 := hx1 (by (repeat (first | exact Below.refl _ _ | refine below_dr ?_ | refine below_al ?_ _)); done); clear hx0 hx1 hb ho hn hl; obtain ⟨a2, c2, rfl, q2⟩ := hx2
    refine hKr _ _ (fun _ => f1w q2.b0) ?_
    clear hKr Kr
    try simp only [List.getElem_toArray, List.getElem_cons_succ, List.getElem_cons_zero, Act.put, List.setIfInBounds_toArray, List.set_cons_zero, List.set_cons_succ]
    refine wpC_one (i := 14) (l' := #[true, true, true, true, true, true, true, true, true, true, true, true, true, true, true, true, true, false, true, true, false, false, false, false, false, false, false]) (by kernel_rfl) rfl rfl (by rfl) (fun Kr hKr => ?_)
    refine step_callD rfl 178 #[.tmp 24, .tmp 25] _ rfl hrun #[.pointer (some ⟨g, 0, none⟩), .slice x3 k3.length d3] (by first | rfl | (simp [Act.eval]; done) | (simp [Act.eval]; rfl) | (simp [Act.eval]; repeat' constructor)) (dI (bagK K k3)) (HC3.out _ (by (repeat (first | exact q5.b0 | exact q4.b0 | exact q3.b0 | exact q2.b0 | exact q1.b0 | exact Below.refl _ _ | refine below_dr ?_ | refine below_al ?_ _)); done)) ?_; intro v F3 w3 hb ho hn hl; have hx0 := Bag1.of (w := w) (pw := w2) hb ho hn hl; have hx1 := hx0 (by (repeat (first | exact q5.b0 | exact q4.b0 | exact q3.b0 | exact q2.b0 | exact q1.b0 | exact Below.refl _ _ | refine below_dr ?_ | refine below_al ?_ _)); done); have hx2 := hx1 (by (repeat (first | exact Below.refl _ _ | refine below_dr ?_ | refine below_al ?_ _)); done); clear hx0 hx1 hb ho hn hl; obtain ⟨a3, c3, rfl, q3⟩ := hx2
    refine hKr _ _ (fun _ => f1w q3.b0) ?_
    clear hKr Kr
    try simp only [List.getElem_toArray, List.getElem_cons_succ, List.getElem_cons_zero, Act.put, List.setIfInBounds_toArray, List.set_cons_zero, List.set_cons_succ]
    refine wpC_one (i := 17) (l' := #[true, true, true, true, true, true, true, true, true, true, true, true, true, true, true, true, true, true, true, true, false, false, false, false, false, false, false]) (by kernel_rfl) rfl rfl (by rfl) (fun Kr hKr => ?_)
    refine step_callD rfl 178 #[.tmp 27, .tmp 28] _ rfl hrun #[.pointer (some ⟨g, 0, none⟩), .slice x4 k4.length d4] (by first | rfl | (simp [Act.eval]; done) | (simp [Act.eval]; rfl) | (simp [Act.eval]; repeat' constructor)) (dI (bagK K k4)) (HC4.out _ (by (repeat (first | exact q5.b0 | exact q4.b0 | exact q3.b0 | exact q2.b0 | exact q1.b0 | exact Below.refl _ _ | refine below_dr ?_ | refine below_al ?_ _)); done)) ?_; intro v F4 w4 hb ho hn hl; have hx0 := Bag1.of (w := w) (pw := w3) hb ho hn hl; have hx1 := hx0 (by (repeat (first | exact q5.b0 | exact q4.b0 | exact q3.b0 | exact q2.b0 | exact q1.b0 | exact Below.refl _ _ | refine below_dr ?_ | refine below_al ?_ _)); done); have hx2 := hx1 (by (repeat (first | exact Below.refl _ _ | refine below_dr ?_ | refine below_al ?_ _)); done); clear hx0 hx1 hb ho hn hl; obtain ⟨a4, c4, rfl, q4⟩ := hx2
    refine hKr _ _ (fun _ => f1w q4.b0) ?_
    clear hKr Kr
    try simp only [List.getElem_toArray, List.getElem_cons_succ, List.getElem_cons_zero, Act.put, List.setIfInBounds_toArray, List.set_cons_zero, List.set_cons_succ]
    refine wpC_one (i := 20) (l' := #[true, true, true, true, true, true, true, true, true, true, true, true, true, true, true, true, true, true, true, true, true, false, false, false, false, false, false]) (by kernel_rfl) rfl rfl (by rfl) (fun Kr hKr => ?_)
    refine step_callD rfl 178 #[.tmp 30, .tmp 31] _ rfl hrun #[.pointer (some ⟨g, 0, none⟩), .slice (some ⟨_, 0, none⟩) 0 0] (by first | rfl | (simp [Act.eval]; done) | (simp [Act.eval]; rfl) | (simp [Act.eval]; repeat' constructor)) (dI (bagK K [])) (HC5.out _ _ (by (repeat (first | exact q5.b0 | exact q4.b0 | exact q3.b0 | exact q2.b0 | exact q1.b0 | exact Below.refl _ _ | refine below_dr ?_ | refine below_al ?_ _)); done)) ?_; intro v F5 w5 hb ho hn hl; have hx0 := Bag1.of (w := w) (pw := w4) hb ho hn hl; have hx1 := hx0 (by (repeat (first | exact q5.b0 | exact q4.b0 | exact q3.b0 | exact q2.b0 | exact q1.b0 | exact Below.refl _ _ | refine below_dr ?_ | refine below_al ?_ _)); done); have hx2 := hx1 (by (repeat (first | exact Below.refl _ _ | refine below_dr ?_ | refine below_al ?_ _)); done); clear hx0 hx1 hb ho hn hl; obtain ⟨a5, c5, rfl, q5⟩ := hx2
    refine hKr _ _ (fun _ => f1w q5.b0) ?_
    clear hKr Kr
    try simp only [List.getElem_toArray, List.getElem_cons_succ, List.getElem_cons_zero, Act.put, List.setIfInBounds_toArray, List.set_cons_zero, List.set_cons_succ]
    have hs17 := f1w q5.b0
    refine wpC_take (i := 21) (v := ?v21_28) (l' := #[true, true, true, true, true, true, true, true, true, true, true, true, true, true, true, true, true, true, true, true, true, true, false, false, false, false, false]) [22, 23, 24, 25, 26] rfl (by kernel_rfl) (by kernel_rfl) (by kernel_rfl) (by kernel_rfl) (by kernel_rfl) rfl (fun _ _ _ h => h) (by rfl) (fun wx hS => ?q21_28) (by assumption) ?_
    case q21_28 => (go_simp; try with_reducible rfl)
    try simp only [List.getElem_toArray, List.getElem_cons_succ, List.getElem_cons_zero, Act.put, List.setIfInBounds_toArray, List.set_cons_zero, List.set_cons_succ]
    refine wpC_one (i := 22) (l' := #[true, true, true, true, true, true, true, true, true, true, true, true, true, true, true, true, true, true, true, true, true, true, true, false, false, false, false]) (by kernel_rfl) rfl rfl (by rfl) (fun Kr hKr => ?_)
    go_simp
    refine hKr _ _ (fun _ => f1w (by (repeat (first | exact q5.b0 | exact q4.b0 | exact q3.b0 | exact q2.b0 | exact q1.b0 | exact Below.refl _ _ | refine below_dr ?_ | refine below_al ?_ _)); done)) ?_
    clear hKr Kr
    try simp only [List.getElem_toArray, List.getElem_cons_succ, List.getElem_cons_zero, Act.put, List.setIfInBounds_toArray, List.set_cons_zero, List.set_cons_succ]
    refine wpC_one (i := 23) (l' := #[true, true, true, true, true, true, true, true, true, true, true, true, true, true, true, true, true, true, true, true, true, true, true, true, false, false, false]) (by kernel_rfl) rfl rfl (by rfl) (fun Kr hKr => ?_)
    refine step_lst rfl (.tmp 16) (.tmp 34) 118 rfl tabRuleSM rfl (by omega) (by decide) B v rs.length (rs.flatMap Rul.ds) (rulK K rank k1 k2 k3 k4).ds G _ _ rfl (HM.out.lst.below (below_al q5.b0 _)) w5.heap.size rfl (RowAt.five q1 q2 q3 q4 q5 hB HLT.out).1 (by omega) (Nat.le_trans hB (below_al q5.b0 _).size) ?_
    intro v7 w7 G7 hN
    obtain ⟨z1, z2, gl, cl, rfl, hNx⟩ := Mkr.next HM.out (below_al q5.b0 _) hN (RowAt.five (E := 0) (rank := 0) q1 q2 q3 q4 q5 hB HLT.out).2
    refine hKr _ _ (fun _ => z1) ?_
    clear hKr Kr
    try simp only [List.getElem_toArray, List.getElem_cons_succ, List.getElem_cons_zero, Act.put, List.setIfInBounds_toArray, List.set_cons_zero, List.set_cons_succ]
    have hs23 := z1
    refine wpC_take (i := 24) (v := ?v24_29) (l' := #[true, true, true, true, true, true, true, true, true, true, true, true, true, true, true, true, true, true, true, true, true, true, true, true, true, false, false]) [25, 26] rfl (by kernel_rfl) (by kernel_rfl) (by kernel_rfl) (by kernel_rfl) (by kernel_rfl) rfl (fun _ _ _ h => h) (by rfl) (fun wx hS => ?q24_29) (by assumption) ?_
    case q24_29 => (go_simp; try with_reducible rfl)
    try simp only [List.getElem_toArray, List.getElem_cons_succ, List.getElem_cons_zero, Act.put, List.setIfInBounds_toArray, List.set_cons_zero, List.set_cons_succ]
    refine wpC_take (i := 25) (v := ?v25_30) (l' := #[true, true, true, true, true, true, true, true, true, true, true, true, true, true, true, true, true, true, true, true, true, true, true, true, true, true, false]) [26] rfl (by kernel_rfl) (by kernel_rfl) (by kernel_rfl) (by kernel_rfl) (by kernel_rfl) rfl (fun _ _ _ h => h) (by rfl) (fun wx hS => ?q25_30) (by assumption) ?_
    case q25_30 => (go_simp; try with_reducible rfl)
    try simp only [List.getElem_toArray, List.getElem_cons_succ, List.getElem_cons_zero, Act.put, List.setIfInBounds_toArray, List.set_cons_zero, List.set_cons_succ]
    refine wpC_one (i := 26) (l' := #[true, true, true, true, true, true, true, true, true, true, true, true, true, true, true, true, true, true, true, true, true, true, true, true, true, true, true]) (by kernel_rfl) rfl rfl (by rfl) (fun Kr hKr => ?_)
    go_simp
    refine hKr _ _ (fun h => absurd (by decide) h) ?_
    clear hKr Kr
    try simp only [List.getElem_toArray, List.getElem_cons_succ, List.getElem_cons_zero, Act.put, List.setIfInBounds_toArray, List.set_cons_zero, List.set_cons_succ]
    refine wpC_done (by kernel_rfl) ?_ _
    go_wp2
    go_end0
    exact ⟨gl, cl, _, rfl, hNx⟩
end Go.Proofs.Ytncndnholheemaa
