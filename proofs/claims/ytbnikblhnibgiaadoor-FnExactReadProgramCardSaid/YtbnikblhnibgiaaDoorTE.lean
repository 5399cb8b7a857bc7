/- Numbers of up to four digits as text: the reference's contract. Written by mkte.py. -/
import Derived.Test.YtbnikblhnibgiaaDoorTD
import Derived.Test.YtbnikblhnibgiaaDoorRM
import Derived.Test.YtbnikblhnibgiaaDoorQV
import Derived.Lib.ItoaNum
namespace Go.Proofs.YtbnikblhnibgiaaDoor
open Go.RowKit

theorem decL_digits {i : Nat} (h : i < 10) : Lib.decDigits i = decL i := by rw [Lib.decDigits, dif_pos h]; rfl
theorem digits_more {i : Nat} (h : ¬ i < 10) : Lib.decDigits i = Lib.decDigits (i / 10) ++ [UInt8.ofNat (48 + i % 10)] := by rw [Lib.decDigits, dif_neg h]
theorem digits_len {i : Nat} (h : i < 10000) : (Lib.decDigits i).length ≤ 4 ∧ 1 ≤ (Lib.decDigits i).length := by
  have l1 : ∀ i, i < 10 → (Lib.decDigits i).length = 1 := fun i h => by rw [decL_digits h]; rfl
  have l2 : ∀ i, i < 100 → (Lib.decDigits i).length ≤ 2 ∧ 1 ≤ (Lib.decDigits i).length := fun i h => by
    by_cases e : i < 10
    · have := l1 i e; omega
    · have := l1 (i / 10) (by omega); rw [digits_more e]; simp; omega
  have l3 : ∀ i, i < 1000 → (Lib.decDigits i).length ≤ 3 ∧ 1 ≤ (Lib.decDigits i).length := fun i h => by
    by_cases e : i < 10
    · have := l1 i e; omega
    · have := l2 (i / 10) (by omega); rw [digits_more e]; simp; omega
  by_cases e : i < 10
  · have := l1 i e; omega
  · have := l3 (i / 10) (by omega); rw [digits_more e]; simp; omega
/-- The text of a number, as bytes. -/
def decN (i : Nat) : ByteArray := ⟨(Lib.decDigits i).toArray⟩
theorem decN_size {i : Nat} (h : i < 10000) : (decN i).size ≤ 4 ∧ 1 ≤ (decN i).size := digits_len h
theorem decN_one {i : Nat} (h : i < 10) : decN i = ⟨(decL i).toArray⟩ := by rw [decN, decL_digits h]
theorem decN_more {i : Nat} (h : ¬ i < 10) : decN i = decN (i / 10) ++ ⟨#[UInt8.ofNat (48 + i % 10)]⟩ := by
  rw [decN, digits_more h, decN, ← ByteArray.mk_append_mk]
theorem conv1 (d : Nat) (hd : d < 10) (g : Nat) (wx : World) (h : wx.cell? ⟨g, 0, none⟩ = some (.int .u8 (48 + (d : Int)))) : (convert 28 9 (.slice (some ⟨g, 0, none⟩) 1 1)).run Tryd.prog wx = .ok (.string ⟨#[UInt8.ofNat (48 + d)]⟩) wx :=
  run_convert_bytes_back (P := Tryd.prog) wx 28 9 5 ⟨g, 0, none⟩ 1 [UInt8.ofNat (48 + d)] Tryd.underlying28 Tryd.underlying5 Tryd.underlying9 (fun j hj => by
    have : j = 0 := by simp at hj; omega
    subst this
    rw [show (⟨g, 0, none⟩ : Addr).add 0 = ⟨g, 0, none⟩ from rfl, h]
    simp; omega)
set_option maxHeartbeats 2000000 in
set_option maxRecDepth 100000 in
theorem Decimal_step (M : Nat) (hM : M ≤ 100000) (ih : ∀ (i : Nat) (_ : i < M) (w : World), Calls Tryd.prog 57 #[.int .i64 i] w (RetV w (.string (decN i)))) (i : Nat) (hi : i / 10 < M) (h10 : ¬ i < 10) (h5 : i < 100000) (w : World) :
    Calls Tryd.prog 57 #[.int .i64 i] w (RetV w (.string (decN i))) := by
  have h1 : (10 : Int) ≤ i := by omega
  obtain ⟨q, hq⟩ : ∃ q, q = i / 10 := ⟨_, rfl⟩
  obtain ⟨d, hd⟩ : ∃ d, d = i % 10 := ⟨_, rfl⟩
  have hd10 : d < 10 := by omega
  have e1 : IntKind.i64.wrap ((i : Int).tdiv 10) = (q : Int) := by
    have : (i : Int).tdiv 10 = (q : Int) := by rw [Int.tdiv_eq_ediv_of_nonneg (by omega)]; omega
    rw [this, wrap_64]; unfold wrap64; omega
  have e1' : (i : Int).tdiv 10 = (q : Int) := by rw [Int.tdiv_eq_ediv_of_nonneg (by omega)]; omega
  have e1'' : (i : Int) / 10 = (q : Int) := by omega
  have e2' : (i : Int).tmod 10 = (d : Int) := by rw [Int.tmod_eq_emod_of_nonneg (by omega)]; omega
  have e2'' : (i : Int) % 10 = (d : Int) := by omega
  have e4 : IntKind.i64.wrap (q : Int) = q := by rw [wrap_64]; unfold wrap64; omega
  have e5 : IntKind.i64.wrap (d : Int) = d := by rw [wrap_64]; unfold wrap64; omega
  have e6 : IntKind.i64.wrap (48 + (d : Int)) = 48 + d := by rw [wrap_64]; unfold wrap64; omega
  have e3 : IntKind.u8.wrap (48 + (d : Int)) = 48 + d := by simp [IntKind.wrap, IntKind.bits, IntKind.signed]; omega
  have HC : Hid (∀ wx, Calls Tryd.prog 57 #[.int .i64 q] wx (RetV wx (.string (decN q)))) := Lib.hid (fun wx => ih q (by omega) wx)
  have HK0 := fun g wx h => conv1 d hd10 g wx h
  have hR : decN i = decN q ++ ⟨#[UInt8.ofNat (48 + d)]⟩ := by rw [decN_more h10, hq, hd]
  have hsz : (decN q).size ≤ 10 := by
    have := Nat.le_refl 0
    rw [hq]
    have := (decN_size (i := i / 10) (by omega)).1
    omega
  rw [hR]
  have HRUN := Lib.hid (callFunc_run (P := Tryd.prog) Tryd.func57 (by kernel_rfl) rfl)
  clear ih hR hi hq hd
  obtain ⟨b, hb⟩ : ∃ b, b = decN q := ⟨_, rfl⟩
  rw [← hb] at HC hsz ⊢
  clear hb
  obtain ⟨y, hy⟩ : ∃ y, y = UInt8.ofNat (48 + d) := ⟨_, rfl⟩
  simp only [← hy] at HK0 ⊢
  clear hy
  have HK := Lib.hid HK0
  clear HK0
  have hif : ¬ 9223372036854775807 < b.size + 1 := by omega
  go_enter Tryd.func57, Tryd.ntmps57
  go_wp2
  have hcD : Below w.heap.size w w.drew := (Below.refl _ _).drew
  have hS0 : True := trivial
  refine wp_region_C (n := 11) (l := #[false, false, false, false, false, false, false, false, false, false, false]) (fun _ => True) [] (by kernel_rfl) rfl rfl ?_
  refine wpC_take (i := 0) (v := ?v0_1) (l' := #[true, false, false, false, false, false, false, false, false, false, false]) [1, 2, 9, 10] rfl (by kernel_rfl) (by kernel_rfl) (by kernel_rfl) (by kernel_rfl) (by kernel_rfl) rfl (fun _ _ _ h => h) (by rfl) (fun wx hS => ?q0_1) (by assumption) ?_
  case q0_1 => (go_simp; try with_reducible rfl)
  try simp only [List.getElem_toArray, List.getElem_cons_zero, Act.put, List.setIfInBounds_toArray, List.set_cons_zero, List.set_cons_succ]
  refine wpC_take (i := 1) (v := ?v1_2) (l' := #[true, true, false, false, false, false, false, false, false, false, false]) [2, 9, 10] rfl (by kernel_rfl) (by kernel_rfl) (by kernel_rfl) (by kernel_rfl) (by kernel_rfl) rfl (fun _ _ _ h => h) (by rfl) (fun wx hS => ?q1_2) (by assumption) ?_
  case q1_2 => (go_simp; try with_reducible rfl)
  try simp only [List.getElem_toArray, List.getElem_cons_succ, List.getElem_cons_zero, Act.put, List.setIfInBounds_toArray, List.set_cons_zero, List.set_cons_succ]
  refine wpC_take (i := 3) (v := ?v3_3) (l' := #[true, true, false, true, false, false, false, false, false, false, false]) [4, 5, 6, 7, 8, 9, 10] rfl (by kernel_rfl) (by kernel_rfl) (by kernel_rfl) (by kernel_rfl) (by kernel_rfl) rfl (fun _ _ _ h => h) (by rfl) (fun wx hS => ?q3_3) (by assumption) ?_
  case q3_3 => (go_simp; try with_reducible rfl)
  try simp only [List.getElem_toArray, List.getElem_cons_succ, List.getElem_cons_zero, Act.put, List.setIfInBounds_toArray, List.set_cons_zero, List.set_cons_succ]
  refine wpC_take (i := 4) (v := ?v4_4) (l' := #[true, true, false, true, true, false, false, false, false, false, false]) [5, 6, 7, 8, 9, 10] rfl (by kernel_rfl) (by kernel_rfl) (by kernel_rfl) (by kernel_rfl) (by kernel_rfl) rfl (fun _ _ _ h => h) (by rfl) (fun wx hS => ?q4_4) (by assumption) ?_
  case q4_4 => (go_simp; try with_reducible rfl)
  try simp only [List.getElem_toArray, List.getElem_cons_succ, List.getElem_cons_zero, Act.put, List.setIfInBounds_toArray, List.set_cons_zero, List.set_cons_succ]
  refine wpC_take (i := 5) (v := ?v5_5) (l' := #[true, true, false, true, true, true, false, false, false, false, false]) [6, 7, 8, 9, 10] rfl (by kernel_rfl) (by kernel_rfl) (by kernel_rfl) (by kernel_rfl) (by kernel_rfl) rfl (fun _ _ _ h => h) (by rfl) (fun wx hS => ?q5_5) (by assumption) ?_
  case q5_5 => (go_simp; try with_reducible rfl)
  try simp only [List.getElem_toArray, List.getElem_cons_succ, List.getElem_cons_zero, Act.put, List.setIfInBounds_toArray, List.set_cons_zero, List.set_cons_succ]
  refine wpC_take (i := 6) (v := ?v6_6) (l' := #[true, true, false, true, true, true, true, false, false, false, false]) [7, 8, 9, 10] rfl (by kernel_rfl) (by kernel_rfl) (by kernel_rfl) (by kernel_rfl) (by kernel_rfl) rfl (fun _ _ _ h => h) (by rfl) (fun wx hS => ?q6_6) (by assumption) ?_
  case q6_6 => (go_simp; try with_reducible rfl)
  try simp only [List.getElem_toArray, List.getElem_cons_succ, List.getElem_cons_zero, Act.put, List.setIfInBounds_toArray, List.set_cons_zero, List.set_cons_succ]
  refine wpC_two (i := 2) (j := 7) (l' := #[true, true, true, true, true, true, true, false, false, false, false]) (l'' := #[true, true, false, true, true, true, true, true, false, false, false]) (by kernel_rfl) rfl rfl rfl rfl (by rfl) (by rfl) (fun Kr hKr => ?_) (fun Kr hKr => ?_)
  · refine step_callV rfl 57 _ _ rfl HRUN.out #[.int .i64 q] (by first | rfl | (simp [Act.eval]; done) | (simp [Act.eval]; rfl) | (simp [Act.eval]; repeat' constructor)) (HC.out _) ?_
    rintro e w4 ⟨rfl, hb4⟩
    refine ⟨_, rfl, ?_⟩
    have hc4 : Below w.heap.size w w4 := hcD.trans (hb4.mono hcD.size)
    have hq4 := hb4.size
    refine hKr _ _ (fun _ => trivial) ?_
    clear hKr Kr
    try simp only [List.getElem_toArray, List.getElem_cons_succ, List.getElem_cons_zero, Act.put, List.setIfInBounds_toArray, List.set_cons_zero, List.set_cons_succ]
    refine wpC_one (i := 7) (l' := #[true, true, true, true, true, true, true, true, false, false, false]) (by kernel_rfl) rfl rfl (by rfl) (fun Kr hKr => ?_)
    go_simp
    refine hKr _ _ (fun _ => trivial) ?_
    clear hKr Kr
    try simp only [List.getElem_toArray, List.getElem_cons_succ, List.getElem_cons_zero, Act.put, List.setIfInBounds_toArray, List.set_cons_zero, List.set_cons_succ]
    obtain ⟨wA, hwA⟩ : ∃ z, z = w4.alloc (.cells #[.int .u8 (48 + (d : Int))] 5) := ⟨_, rfl⟩
    rw [← hwA]
    have hcA : Below w.heap.size w wA := by rw [hwA]; exact hc4.trans ((below_alloc _ _).mono hc4.size)
    have kx : wA.cell? ⟨w4.heap.size, 0, none⟩ = some (.int .u8 (48 + (d : Int))) := by rw [hwA]; simp [go_sem]
    have kc := HK.out _ wA kx
    have ltA : w4.heap.size < wA.heap.size := by rw [hwA]; simp
    clear hwA
    refine wpC_one (i := 8) (l' := #[true, true, true, true, true, true, true, true, true, false, false]) (by kernel_rfl) rfl rfl (by rfl) (fun Kr hKr => ?_)
    go_simp
    refine hKr _ _ (fun _ => trivial) ?_
    clear hKr Kr
    try simp only [List.getElem_toArray, List.getElem_cons_succ, List.getElem_cons_zero, Act.put, List.setIfInBounds_toArray, List.set_cons_zero, List.set_cons_succ]
    refine wpC_take (i := 9) (v := ?v9_7) (l' := #[true, true, true, true, true, true, true, true, true, true, false]) [10] rfl (by kernel_rfl) (by kernel_rfl) (by kernel_rfl) (by kernel_rfl) (by kernel_rfl) rfl (fun _ _ _ h => h) (by rfl) (fun wx hS => ?q9_7) (by assumption) ?_
    case q9_7 => (go_simp; try with_reducible rfl)
    try simp only [List.getElem_toArray, List.getElem_cons_succ, List.getElem_cons_zero, Act.put, List.setIfInBounds_toArray, List.set_cons_zero, List.set_cons_succ]
    refine wpC_take (i := 10) (v := ?v10_8) (l' := #[true, true, true, true, true, true, true, true, true, true, true]) [] rfl (by kernel_rfl) (by kernel_rfl) (by kernel_rfl) (by kernel_rfl) (by kernel_rfl) rfl (fun _ _ _ h => h) (by rfl) (fun wx hS => ?q10_8) (by assumption) ?_
    case q10_8 => (go_simp; try with_reducible rfl)
    try simp only [List.getElem_toArray, List.getElem_cons_succ, List.getElem_cons_zero, Act.put, List.setIfInBounds_toArray, List.set_cons_zero, List.set_cons_succ]
    refine wpC_done (by kernel_rfl) ?_ _
    have HE := Lib.hid hcA
    go_wp2
    go_ret
    exact ⟨rfl, HE.out⟩
  · go_simp
    refine hKr _ _ (fun _ => trivial) ?_
    clear hKr Kr
    try simp only [List.getElem_toArray, List.getElem_cons_succ, List.getElem_cons_zero, Act.put, List.setIfInBounds_toArray, List.set_cons_zero, List.set_cons_succ]
    obtain ⟨wA, hwA⟩ : ∃ z, z = (w.alloc (.cells #[.int .u8 (48 + (d : Int))] 5)).drew := ⟨_, rfl⟩
    rw [← hwA]
    have hcA : Below w.heap.size w wA := by rw [hwA]; exact (below_alloc _ _).drew
    have kx : wA.cell? ⟨w.heap.size, 0, none⟩ = some (.int .u8 (48 + (d : Int))) := by rw [hwA]; simp [go_sem]
    have kc := HK.out _ wA kx
    have ltA : w.heap.size < wA.heap.size := by rw [hwA]; simp
    clear hwA
    refine wpC_two (i := 2) (j := 8) (l' := #[true, true, true, true, true, true, true, true, false, false, false]) (l'' := #[true, true, false, true, true, true, true, true, true, false, false]) (by kernel_rfl) rfl rfl rfl rfl (by rfl) (by rfl) (fun Kr hKr => ?_) (fun Kr hKr => ?_)
    · refine step_callV rfl 57 _ _ rfl HRUN.out #[.int .i64 q] (by first | rfl | (simp [Act.eval]; done) | (simp [Act.eval]; rfl) | (simp [Act.eval]; repeat' constructor)) (HC.out _) ?_
      rintro e w4 ⟨rfl, hb4⟩
      refine ⟨_, rfl, ?_⟩
      have hc4 : Below w.heap.size w w4 := hcA.trans (hb4.mono hcA.size)
      have hq4 := hb4.size
      replace kx := (bcell1 hb4 ltA).trans kx
      replace kc := HK.out _ w4 kx
      refine hKr _ _ (fun _ => trivial) ?_
      clear hKr Kr
      try simp only [List.getElem_toArray, List.getElem_cons_succ, List.getElem_cons_zero, Act.put, List.setIfInBounds_toArray, List.set_cons_zero, List.set_cons_succ]
      refine wpC_one (i := 8) (l' := #[true, true, true, true, true, true, true, true, true, false, false]) (by kernel_rfl) rfl rfl (by rfl) (fun Kr hKr => ?_)
      go_simp
      refine hKr _ _ (fun _ => trivial) ?_
      clear hKr Kr
      try simp only [List.getElem_toArray, List.getElem_cons_succ, List.getElem_cons_zero, Act.put, List.setIfInBounds_toArray, List.set_cons_zero, List.set_cons_succ]
      refine wpC_take (i := 9) (v := ?v9_9) (l' := #[true, true, true, true, true, true, true, true, true, true, false]) [10] rfl (by kernel_rfl) (by kernel_rfl) (by kernel_rfl) (by kernel_rfl) (by kernel_rfl) rfl (fun _ _ _ h => h) (by rfl) (fun wx hS => ?q9_9) (by assumption) ?_
      case q9_9 => (go_simp; try with_reducible rfl)
      try simp only [List.getElem_toArray, List.getElem_cons_succ, List.getElem_cons_zero, Act.put, List.setIfInBounds_toArray, List.set_cons_zero, List.set_cons_succ]
      refine wpC_take (i := 10) (v := ?v10_10) (l' := #[true, true, true, true, true, true, true, true, true, true, true]) [] rfl (by kernel_rfl) (by kernel_rfl) (by kernel_rfl) (by kernel_rfl) (by kernel_rfl) rfl (fun _ _ _ h => h) (by rfl) (fun wx hS => ?q10_10) (by assumption) ?_
      case q10_10 => (go_simp; try with_reducible rfl)
      try simp only [List.getElem_toArray, List.getElem_cons_succ, List.getElem_cons_zero, Act.put, List.setIfInBounds_toArray, List.set_cons_zero, List.set_cons_succ]
      refine wpC_done (by kernel_rfl) ?_ _
      have HE := Lib.hid hc4
      go_wp2
      go_ret
      exact ⟨rfl, HE.out⟩
    · go_simp
      refine hKr _ _ (fun _ => trivial) ?_
      clear hKr Kr
      try simp only [List.getElem_toArray, List.getElem_cons_succ, List.getElem_cons_zero, Act.put, List.setIfInBounds_toArray, List.set_cons_zero, List.set_cons_succ]
      refine wpC_one (i := 2) (l' := #[true, true, true, true, true, true, true, true, true, false, false]) (by kernel_rfl) rfl rfl (by rfl) (fun Kr hKr => ?_)
      refine step_callV rfl 57 _ _ rfl HRUN.out #[.int .i64 q] (by first | rfl | (simp [Act.eval]; done) | (simp [Act.eval]; rfl) | (simp [Act.eval]; repeat' constructor)) (HC.out _) ?_
      rintro e w4 ⟨rfl, hb4⟩
      refine ⟨_, rfl, ?_⟩
      have hc4 : Below w.heap.size w w4 := hcA.trans (hb4.mono hcA.size)
      have hq4 := hb4.size
      refine hKr _ _ (fun _ => trivial) ?_
      clear hKr Kr
      try simp only [List.getElem_toArray, List.getElem_cons_succ, List.getElem_cons_zero, Act.put, List.setIfInBounds_toArray, List.set_cons_zero, List.set_cons_succ]
      refine wpC_take (i := 9) (v := ?v9_11) (l' := #[true, true, true, true, true, true, true, true, true, true, false]) [10] rfl (by kernel_rfl) (by kernel_rfl) (by kernel_rfl) (by kernel_rfl) (by kernel_rfl) rfl (fun _ _ _ h => h) (by rfl) (fun wx hS => ?q9_11) (by assumption) ?_
      case q9_11 => (go_simp; try with_reducible rfl)
      try simp only [List.getElem_toArray, List.getElem_cons_succ, List.getElem_cons_zero, Act.put, List.setIfInBounds_toArray, List.set_cons_zero, List.set_cons_succ]
      refine wpC_take (i := 10) (v := ?v10_12) (l' := #[true, true, true, true, true, true, true, true, true, true, true]) [] rfl (by kernel_rfl) (by kernel_rfl) (by kernel_rfl) (by kernel_rfl) (by kernel_rfl) rfl (fun _ _ _ h => h) (by rfl) (fun wx hS => ?q10_12) (by assumption) ?_
      case q10_12 => (go_simp; try with_reducible rfl)
      try simp only [List.getElem_toArray, List.getElem_cons_succ, List.getElem_cons_zero, Act.put, List.setIfInBounds_toArray, List.set_cons_zero, List.set_cons_succ]
      refine wpC_done (by kernel_rfl) ?_ _
      have HE := Lib.hid hc4
      go_wp2
      go_ret
      exact ⟨rfl, HE.out⟩
theorem DecimalN_c (i : Nat) (hi : i < 10000) (w : World) : Calls Tryd.prog 57 #[.int .i64 i] w (RetV w (.string (decN i))) := by
  have l1 : ∀ (i : Nat) (_ : i < 10) (w : World), Calls Tryd.prog 57 #[.int .i64 i] w (RetV w (.string (decN i))) := fun i h w => by
    rw [decN_one h]; exact Decimal_c i h w
  have l2 : ∀ (i : Nat) (_ : i < 100) (w : World), Calls Tryd.prog 57 #[.int .i64 i] w (RetV w (.string (decN i))) := fun i h w => by
    by_cases e : i < 10
    · exact l1 i e w
    · exact Decimal_step 10 (by omega) l1 i (by omega) e (by omega) w
  have l3 : ∀ (i : Nat) (_ : i < 1000) (w : World), Calls Tryd.prog 57 #[.int .i64 i] w (RetV w (.string (decN i))) := fun i h w => by
    by_cases e : i < 10
    · exact l1 i e w
    · exact Decimal_step 100 (by omega) l2 i (by omega) e (by omega) w
  by_cases e : i < 10
  · exact l1 i e w
  · exact Decimal_step 1000 (by omega) l3 i (by omega) e (by omega) w
end Go.Proofs.YtbnikblhnibgiaaDoor
