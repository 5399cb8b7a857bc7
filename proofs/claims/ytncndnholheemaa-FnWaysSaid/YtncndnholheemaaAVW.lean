/- Drawn programs: the laws' and the reference's functions around them. -/
import Derived.Test.YtncndnholheemaaAXW
import Derived.Test.YtncndnholheemaaDL
namespace Go.Proofs.Ytncndnholheemaa
open Go.RowKit

theorem Bld.excP {E : Nat} {w w' : World} {B s : Nat} {v : Value} {vs : List Value} (h : Bld E w B v vs) (he : Exc [s] w w') (hs : s < B) : Bld E w' B v vs :=
  ownsRow_kept h fun g hg => he.block g (by have := (ob_lt h g hg).1; simp; omega)
/-- A program and registers are drawn into memory of their own. -/
def RetPP (w : World) (e : Ending) (w' : World) : Prop := ∃ (R : Int) (os : List Ord) (v : Value) (rs : List Int) (vr : Value), e = .returned (.tuple #[.agg #[.int .i64 R, v], vr]) ∧ Below w.heap.size w w' ∧ Rd Any w' (dO os) v ∧ Rd Any w' (dI rs) vr ∧ Drawn R os ∧ (rs.length : Int) = R ∧ ∀ j, 0 ≤ nth rs j ∧ nth rs j ≤ 3
theorem nth_snoc_bd {rs : List Int} {x : Int} (h : ∀ j, 0 ≤ nth rs j ∧ nth rs j ≤ 3) (hx : 0 ≤ x ∧ x ≤ 3) : ∀ j, 0 ≤ nth (rs ++ [x]) j ∧ nth (rs ++ [x]) j ≤ 3 := fun j => by
  have := h j
  unfold nth at this ⊢
  rw [List.getD_eq_getElem?_getD] at this ⊢
  by_cases e : j < rs.length
  · rw [List.getElem?_append_left e]; exact this
  · by_cases e2 : j = rs.length
    · subst e2; simpa using hx
    · rw [List.getElem?_eq_none (by simp; omega)]; simp
set_option maxHeartbeats 4000000 in
set_option maxRecDepth 100000 in
theorem P6Program_c (a : Option Addr) (n c : Nat) (w : World) (h : SlU (· < w.heap.size) w a n) :
    Calls Try.prog 28 #[.slice a n c, .bool false] w (RetPP w) := by
  obtain ⟨w0, hw0⟩ : ∃ z, z = w.alloc (.cells #[.int .i64 0, .slice none 0 0] 52) := ⟨_, rfl⟩
  have hb0 : Below w.heap.size w w0 := by rw [hw0]; exact below_alloc _ _
  have hz0 : w0.heap.size = w.heap.size + 1 := by rw [hw0]; simp
  have r0 : w0.cell? ⟨w.heap.size, 0, none⟩ = some (.int .i64 0) := by rw [hw0]; simp [go_sem]
  have r1 : w0.cell? ⟨w.heap.size, 1, none⟩ = some (.slice none 0 0) := by rw [hw0]; simp [go_sem]
  have rz : ∀ i, w0.frozen? ⟨w.heap.size, i, none⟩ = false := fun i => by rw [hw0]; simp [go_sem]
  have C := l00From_c a n c w0 ((h.below hb0).any fun k hk => by omega)
  obtain ⟨s, hs⟩ : ∃ s, s = w0.heap.size := ⟨_, rfl⟩
  rw [← hs] at C
  have C1 := Lib.hid C
  have HB0 := Lib.hid hb0
  rw [hw0] at C1
  have HW0 := Lib.hid hw0
  have HZ0 := Lib.hid hz0
  have HS := Lib.hid hs
  have R0 := Lib.hid r0
  have R1 := Lib.hid r1
  have RZ := Lib.hid rz
  clear h C hb0 hw0 hz0 hs r0 r1 rz
  go_enter Try.func28, Try.ntmps28
  go_wp2_with fail
  refine C1.out.mono ?_
  rintro e w1 ⟨rfl, hb1, hz1, hs1⟩
  have hw0 := HW0.out
  have hz0 := HZ0.out
  have hs := HS.out
  rw [← hw0] at hb1
  replace R0 := Lib.hid ((bcell1 hb1 (by omega)).trans R0.out)
  replace R1 := Lib.hid ((bcell1 hb1 (by omega)).trans R1.out)
  replace RZ := Lib.hid (fun i => (hb1.frozen (p := ⟨w.heap.size, i, none⟩) (by simp; omega)).trans (RZ.out i))
  have HB1 : Hid (Below w.heap.size w w1) := Lib.hid (HB0.out.trans (hb1.mono (by omega)))
  have HS1 := Lib.hid hs1
  have HSW : Hid (s = w.heap.size + 1) := Lib.hid (by omega)
  have HZ1 := Lib.hid hz1
  clear hb1 hs1 C1 hw0 hz0 hs HB0 HW0 HZ0 HS hz1
  go_wp2_with fail
  refine (l05Draw_c s 0 w1 HS1.out (by omega)).mono ?_
  rintro e w2 ⟨R, os, v, F, rfl, hc2, ho2, _, hF2, hd2, hs2⟩
  obtain ⟨ao, co, rfl⟩ := ho2.valO
  have hz2 := hc2.size
  have hsw := HSW.out
  have hz1 := HZ1.out
  replace R0 := Lib.hid ((hc2.cell (by omega) (by simp; omega) 0).trans R0.out)
  replace R1 := Lib.hid ((hc2.cell (by omega) (by simp; omega) 1).trans R1.out)
  replace RZ := Lib.hid (fun i => (hc2.frozen (by omega) (by simp; omega) i).trans (RZ.out i))
  have HB2 : Hid (Below w.heap.size w w2) := Lib.hid (HB1.out.trans (hc2.below HB1.out.size (fun g hg => by simp at hg; omega)))
  have HS2 := Lib.hid hs2
  have HO2 := Lib.hid ho2
  have HF2 := Lib.hid hF2
  have HD := Lib.hid hd2
  have hR := hd2.r
  obtain ⟨m, rfl⟩ : ∃ m : Nat, R = (m : Int) := ⟨R.toNat, by omega⟩
  obtain ⟨w3, hw3⟩ : ∃ z, z = w2.alloc (.cells #[.int .i64 m, .slice ao os.length co] 52) := ⟨_, rfl⟩
  have hb3 : Below w2.heap.size w2 w3 := by rw [hw3]; exact below_alloc _ _
  have hz3 : w3.heap.size = w2.heap.size + 1 := by rw [hw3]; simp
  have c0 : w3.cell? ⟨w2.heap.size, 0, none⟩ = some (.int .i64 m) := by rw [hw3]; simp [go_sem]
  have c1 : w3.cell? ⟨w2.heap.size, 1, none⟩ = some (.slice ao os.length co) := by rw [hw3]; simp [go_sem]
  replace R0 := Lib.hid ((bcell1 hb3 (by omega)).trans R0.out)
  replace R1 := Lib.hid ((bcell1 hb3 (by omega)).trans R1.out)
  replace RZ := Lib.hid (fun i => (hb3.frozen (p := ⟨w.heap.size, i, none⟩) (by simp; omega)).trans (RZ.out i))
  have HB3 : Hid (Below w.heap.size w w3) := Lib.hid (HB2.out.trans (hb3.mono HB2.out.size))
  have HS3 := Lib.hid (HS2.out.below hb3 (by omega))
  have HO3 := Lib.hid (HO2.out.below hb3)
  have hbl0 := Bld.empty 2 w3 w3.heap.size (Nat.le_refl _)
  have hb4 := below_alloc w3 (.cells #[] 2)
  have HBL0 : Hid (Bld 2 (w3.alloc (.cells #[] 2)) w3.heap.size (.slice (some ⟨w2.heap.size + 1, 0, none⟩) 0 0) (([] : List Int).map (.int .i64))) := Lib.hid (by rw [← hz3]; exact hbl0)
  have HC4 : Hid (Chg [s] w3 (w3.alloc (.cells #[] 2))) := Lib.hid (Chg.lowP (Chg.refl _ _) hb4)
  have HS4 := Lib.hid (HS3.out.below hb4 (by omega))
  have HOF : Hid (∀ g, g ∈ F → g ∉ [s]) := Lib.hid (fun g hg e => by have := HF2.out g hg; simp at e; omega)
  rw [hw3] at HC4 HS4
  have HW3 := Lib.hid hw3
  have HZ3 := Lib.hid hz3
  have HZ2 : Hid (s < w2.heap.size) := Lib.hid (by omega)
  clear hc2 ho2 hF2 hd2 hs2 hb3 hbl0 hb4 hw3 hz3 hz2 hsw hz1
  have hm2 : (m : Int) ≤ 2 := by omega
  clear hR
  go_wp2
  go_loopw [8, 9] (fun g i wr => ∃ (k : Nat) (rs : List Int), k ≤ m ∧ i = .int .i64 k ∧ Hid (rs.length = k) ∧ Hid (∀ j, 0 ≤ nth rs j ∧ nth rs j ≤ 3) ∧ Hid (Chg [s] w3 wr) ∧ Hid (SrcE wr s (100 + 2 * k)) ∧ Hid (Bld 2 wr w3.heap.size g (rs.map (.int .i64)))) (fun _ i _ => m - (intOf i).toNat)
  case atStart => exact ⟨0, [], Nat.zero_le _, rfl, Lib.hid rfl, Lib.hid (fun j => by simp [nth]), by rw [HW3.out]; exact HC4, HS4, by have h := HBL0; rw [HW3.out] at h ⊢; exact h⟩
  case round =>
    obtain ⟨k, rs, hk, rfl, HL, HRS, HC, HSS, HBL⟩ := hrel
    have g0 : wr.cell? ⟨w2.heap.size, 0, none⟩ = some (.int .i64 m) := (HC.out.cell (by rw [HZ3.out]; omega) (by have := HZ2.out; simp; omega) 0).trans c0
    have g1 : wr.cell? ⟨w2.heap.size, 1, none⟩ = some (.slice ao os.length co) := (HC.out.cell (by rw [HZ3.out]; omega) (by have := HZ2.out; simp; omega) 1).trans c1
    by_cases hlt : k < m
    · have C := Lib.hid (pick_c s (100 + 2 * k) 4 wr HSS.out (by omega) (by omega))
      go_wp2_with fail
      refine C.out.mono ?_
      rintro e w5 ⟨x, rfl, hx, he, hs5⟩
      have hsl : s < w3.heap.size := by rw [HZ3.out]; have := HZ2.out; omega
      have hbl5 := HBL.out.excP he hsl
      have hb6 := below_alloc w5 (.cells #[.int .i64 x] 2)
      have hbl6 := Lib.hid (hbl5.below hb6)
      have HC5 : Hid (Chg [s] w3 w5) := Lib.hid (HC.out.trans he.chg)
      have HC6 : Hid (Chg [s] w3 (w5.alloc (.cells #[.int .i64 x] 2))) := Lib.hid (Chg.lowP HC5.out (hb6.mono HC5.out.size))
      have hs6 := Lib.hid (SrcE.below hs5 hb6 (by have := HC5.out.size; omega))
      have hz5 : Hid (w3.heap.size ≤ w5.heap.size) := Lib.hid HC5.out.size
      have HSL := Lib.hid hsl
      clear C he hs5 hbl5 hb6 hsl
      go_wp2_with (at_builtin; refine app_one rfl _ _ 24 rfl tabI rfl (by decide) w3.heap.size _ _ rfl hbl6.out w5.heap.size (.int .i64 x) rfl rfl ?c1 ?c2 ?c3 ?_)
      case c1 => simp
      case c2 => have := HL.out; simp; omega
      case c3 => have := hz5.out; simp; omega
      intro v' w7 hbl7 hb7
      have HB7 : Hid (Bld 2 w7 w3.heap.size v' ((rs ++ [x]).map (.int .i64))) := Lib.hid (by simpa using hbl7)
      have HC7 : Hid (Chg [s] w3 w7) := Lib.hid (Chg.lowP HC6.out hb7)
      have HS7 : Hid (SrcE w7 s (100 + 2 * (k + 1))) := Lib.hid ((hs6.out.below hb7 HSL.out).more (by omega))
      have HRS7 := Lib.hid (nth_snoc_bd HRS.out (x := x) (by omega))
      clear hbl7 hb7 HBL HC HSS
      go_wp2
      go_roundw
      case rel => exact ⟨k + 1, rs ++ [x], by omega, by go_num, Lib.hid (by have := HL.out; simp; omega), HRS7, HC7, HS7, HB7⟩
      case measure => simp [intOf]; omega
    · have hkm : Hid (k = m) := Lib.hid (by omega)
      obtain ⟨a_r, c_r, F_r, rfl, ho_r, _, hF_r⟩ := HBL.out.ow (by have := HL.out; have := hkm.out; unfold maxLen; omega)
      have hwl : w.heap.size < w3.heap.size := by rw [HZ3.out]; have := HZ2.out; have := HSW.out; omega
      have hws : w.heap.size ∉ [s] := by have := HSW.out; simp; omega
      have q0 := (HC.out.cell hwl hws 0).trans R0.out
      have q1 := (HC.out.cell hwl hws 1).trans R1.out
      have z0 := (HC.out.frozen hwl hws 0).trans (RZ.out 0)
      have z1 := (HC.out.frozen hwl hws 1).trans (RZ.out 1)
      have sA := setA wr w.heap.size (.int .i64 m) (.slice ao os.length co) q0 q1
      have hoo := HC.out.ow HO3.out HOF.out
      have n1 : w.heap.size ∉ F := fun e => by have := HF2.out _ e; have := HZ1.out; have := HSW.out; omega
      have n2 : w.heap.size ∉ F_r := fun e => by have := hF_r _ e; omega
      have HR1 : Hid (Rd Any ((wr.setCell ⟨w.heap.size, 0, none⟩ (.int .i64 m)).setCell ⟨w.heap.size, 1, none⟩ (.slice ao os.length co)) (dO os) (.slice ao os.length co)) := Lib.hid ((hoo.setCell (p := ⟨w.heap.size, 0, none⟩) n1 _).setCell (p := ⟨w.heap.size, 1, none⟩) n1 _).rdA
      have HR2 : Hid (Rd Any ((wr.setCell ⟨w.heap.size, 0, none⟩ (.int .i64 m)).setCell ⟨w.heap.size, 1, none⟩ (.slice ao os.length co)) (dI rs) (.slice a_r rs.length c_r)) := Lib.hid ((ho_r.setCell (p := ⟨w.heap.size, 0, none⟩) n2 _).setCell (p := ⟨w.heap.size, 1, none⟩) n2 _).rdA
      have HB9 : Hid (Below w.heap.size w ((wr.setCell ⟨w.heap.size, 0, none⟩ (.int .i64 m)).setCell ⟨w.heap.size, 1, none⟩ (.slice ao os.length co))) := Lib.hid (((HB3.out.trans (HC.out.below HB3.out.size (fun g hg => by have := HSW.out; simp at hg; omega))).setCell (by exact Nat.le_refl _) _).setCell (by exact Nat.le_refl _) _)
      have SA := Lib.hid sA
      clear hoo ho_r hF_r sA hwl
      go_wp2
      refine bodyPost_ret (v := .tuple #[.agg #[.int .i64 m, .slice ao os.length co], .slice a_r rs.length c_r]) (by simp [results, Try.results28, go_sem, SA.out]) rfl ?_
      exact ⟨m, os, _, rs, _, rfl, HB9.out, HR1.out, HR2.out, HD.out, by have := HL.out; have := hkm.out; omega, HRS.out⟩
theorem P6Pick_c (a : Option Addr) (n c : Nat) (q : Int) (w : World) (h : SlU (· < w.heap.size) w a n) (hq : 1 ≤ q ∧ q ≤ 200) :
    Calls Try.prog 29 #[.slice a n c, .int .i64 q] w (fun e w' => ∃ x : Int, e = .returned (.int .i64 x) ∧ 0 ≤ x ∧ x < q ∧ Below w.heap.size w w') := by
  have C := Lib.hid (l00From_c a n c w h)
  clear h
  go_enter Try.func29, Try.ntmps29
  go_wp2_with fail
  refine C.out.mono ?_
  rintro e w1 ⟨rfl, hb1, hz1, hs1⟩
  have HB1 := Lib.hid hb1
  have HS1 := Lib.hid hs1
  clear hb1 hs1 C hz1
  go_wp2_with fail
  refine (pick_c _ 0 q w1 HS1.out (by omega) (by omega)).mono ?_
  rintro e w2 ⟨x, rfl, hx, he, _⟩
  have HB2 : Hid (Below w.heap.size w w2) := Lib.hid (HB1.out.trans (he.chg.below HB1.out.size (fun g hg => by simp at hg; omega)))
  clear he
  go_wp2
  go_ret
  exact ⟨x, rfl, hx.1, by omega, HB2.out⟩
theorem f6big_c (a : Option Addr) (n c : Nat) (w : World) (hn : n ≤ maxLen) :
    Calls Try.prog 7 #[.slice a n c] w (RetP w (.bool (decide (4096 < n)))) := by
  unfold maxLen at hn
  have e : decide ((4096 : Int) < n) = decide (4096 < n) := by rw [Bool.eq_iff_iff, decide_eq_true_eq, decide_eq_true_eq]; omega
  go_enter Try.func7, Try.ntmps7
  go_wp2
  go_ret
  first | exact ⟨ret_bool e, rfl⟩ | exact ⟨rfl, rfl⟩
set_option maxHeartbeats 1000000 in
theorem f6ints_c (a b : Option Addr) (c d : Nat) (xs : List Int) (w : World) (hx : SlI Any w a xs) (hy : SlI Any w b xs) :
    Calls Try.prog 30 #[.slice a xs.length c, .slice b xs.length d] w (RetV w (.bool true)) := by
  have l1 := hx.len
  unfold maxLen at l1
  have i1 := hx.ix tabI.under tabI.size c
  have i2 := hy.ix tabI.under tabI.size d
  have HX := Lib.hid hx
  have HY := Lib.hid hy
  clear hx hy
  go_enter Try.func30, Try.ntmps30
  go_wp2
  go_loopw [5] (fun i wr => ∃ k : Nat, k ≤ xs.length ∧ i = .int .i64 k ∧ Hid (Below w.heap.size w wr)) (fun i _ => xs.length - (intOf i).toNat)
  case atStart => exact ⟨0, Nat.zero_le _, rfl, Lib.hid (Below.refl _ _)⟩
  case round =>
    obtain ⟨k, hk, rfl, HB⟩ := hrel
    by_cases hlt : k < xs.length
    · have g1 := (HX.out.below HB.out).cell k hlt
      have g2 := (HY.out.below HB.out).cell k hlt
      have HD : ∀ m, Hid (Below w.heap.size w (wr.drewN m)) := fun m => Lib.hid (HB.out.trans (below_drewN _ _ _))
      go_wp2
      go_quiet (fail)
      go_wp2
      first
        | (go_roundw
           case rel => exact ⟨k + 1, by omega, by go_num, HD _⟩
           case measure => simp [intOf]; omega)
        | (refine ⟨⟨k + 1, by omega, by go_num, HD _⟩, ?_⟩
           simp [intOf]; omega)
    · obtain rfl : k = xs.length := by omega
      go_wp2
      go_ret
      exact ⟨rfl, HB.out⟩
set_option maxHeartbeats 1000000 in
theorem f6only_c (a : Option Addr) (c : Nat) (xs : List Int) (n : Int) (w : World) (hx : SlI Any w a xs) (hl : xs.length ≤ 1000) :
    Calls Try.prog 31 #[.slice a xs.length c, .int .i64 n] w (fun e w' => ∃ (b : Option Addr) (d : Nat), e = .returned (.slice b (xs.count n) d) ∧ Below w.heap.size w w' ∧ SlI Any w' b (List.replicate (xs.count n) n)) := by
  have l1 := hx.len
  unfold maxLen at l1
  have i1 := hx.ix tabI.under tabI.size c
  have HX := Lib.hid hx
  have hcx : Hid (∀ k, k ≤ xs.length → (xs.take k).count n ≤ k) := Lib.hid (fun k hk => by have := List.count_le_length (a := n) (l := xs.take k); simp at this; omega)
  have HCN : Hid (∀ k, k < xs.length → (xs.take (k + 1)).count n = (xs.take k).count n + if nth xs k = n then 1 else 0) := Lib.hid (fun k hk => by
    rw [List.take_succ_eq_append_getElem hk, List.count_append, ← nth_lt hk]
    congr 1
    by_cases e : nth xs k = n
    · simp [e]
    · simp [e, List.count_cons])
  clear hx
  go_enter Try.func31, Try.ntmps31
  go_wp2
  go_loopw [5, 6] (fun g i wr => ∃ k : Nat, k ≤ xs.length ∧ i = .int .i64 k ∧ Hid (Below w.heap.size w wr) ∧ Hid (Bld 2 wr w.heap.size g ((List.replicate ((xs.take k).count n) n).map (.int .i64)))) (fun _ i _ => xs.length - (intOf i).toNat)
  case atStart => exact ⟨0, Nat.zero_le _, rfl, Lib.hid ((Below.refl _ _).alloc (Nat.le_refl _) _), Lib.hid (Bld.empty 2 w _ (Nat.le_refl _))⟩
  case round =>
    obtain ⟨k, hk, rfl, HB, HL⟩ := hrel
    by_cases hlt : k < xs.length
    · have g1 := (HX.out.below HB.out).cell k hlt
      have hcs := HCN.out k hlt
      have hck := hcx.out k hk
      obtain ⟨y, hy⟩ : ∃ y, y = nth xs k := ⟨_, rfl⟩
      rw [← hy] at g1 hcs
      clear hy
      by_cases e : y = n
      · subst e
        rw [if_pos rfl] at hcs
        have HCS := Lib.hid hcs
        have hb6 := below_alloc wr (.cells #[.int .i64 y] 2)
        have hbl6 := Lib.hid (HL.out.below hb6)
        have hz5 := HB.out.size
        have HB6 : Hid (Below w.heap.size w (wr.alloc (.cells #[.int .i64 y] 2))) := Lib.hid (HB.out.trans (hb6.mono hz5))
        have HCK := Lib.hid hck
        clear hcs hb6 hck
        go_wp2_with (at_builtin; refine app_one rfl _ _ 24 rfl tabI rfl (by decide) w.heap.size _ _ rfl hbl6.out wr.heap.size (.int .i64 y) rfl rfl ?c1 ?c2 ?c3 ?_)
        case c1 => simp
        case c2 => have := HCK.out; simp; omega
        case c3 => simp; omega
        intro v' w7 hbl7 hb7
        have HB7 : Hid (Bld 2 w7 w.heap.size v' ((List.replicate ((xs.take (k + 1)).count y) y).map (.int .i64))) := Lib.hid (by rw [HCS.out, List.replicate_succ']; simpa using hbl7)
        have HW7 : Hid (Below w.heap.size w w7) := Lib.hid (HB6.out.trans hb7)
        clear hbl7 hb7 HL HB
        go_wp2
        go_roundw
        case rel => exact ⟨k + 1, by omega, by go_num, HW7, HB7⟩
        case measure => simp [intOf]; omega
      · rw [if_neg e] at hcs
        have HL2 : Hid (Bld 2 wr w.heap.size _ ((List.replicate ((xs.take (k + 1)).count n) n).map (.int .i64))) := Lib.hid (by rw [hcs]; exact HL.out)
        clear hcs hck
        go_wp2
        go_roundw
        case rel => exact ⟨k + 1, by omega, by go_num, HB, HL2⟩
        case measure => simp [intOf]; omega
    · have hkm : Hid (k = xs.length) := Lib.hid (by omega)
      have hl9 := HL.out
      rw [hkm.out, List.take_length] at hl9
      have hcl : xs.count n ≤ xs.length := List.count_le_length
      obtain ⟨b, d, F, hv, ho, _, _⟩ := hl9.ow (by simp [maxLen]; omega)
      obtain ⟨b', d', e', hs'⟩ := ho.slA
      rw [List.length_replicate] at hv
      subst hv
      cases e'
      have HSL := Lib.hid hs'
      clear hl9 ho hs'
      go_wp2
      go_ret
      exact ⟨_, _, rfl, HB.out, HSL.out⟩
end Go.Proofs.Ytncndnholheemaa
