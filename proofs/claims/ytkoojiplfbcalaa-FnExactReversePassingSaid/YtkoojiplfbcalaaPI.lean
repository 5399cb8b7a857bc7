/- Weights of places; the invariant's value: contracts. -/
import Derived.Test.YtkoojiplfbcalaaST
import Derived.Test.YtkoojiplfbcalaaI
namespace Go.Proofs.Ytkoojiplfbcalaa
open Go.RowKit

def passInvS (x0 : Int) (x1 : List Int) (x2 : List Bool) (x3 : List PR) (y0 : List (List Int)) (y1 : List Int) (ws : List (List Int)) : Int × Int :=
  if stCode x0 x1 x2 x3 y0 y1 = 0 then (if areW x0 x1.length ws = true then (invTo ws y0 y1 x1.length x1.length, 0) else (0, 2)) else (0, stCode x0 x1 x2 x3 y0 y1)
theorem take_flat {xss : List (List Int)} {k : Nat} (h : k < xss.length) : (xss.take (k + 1)).flatten = (xss.take k).flatten ++ nthR xss k := by
  rw [List.take_succ_eq_append_getElem h, List.flatten_append, nthR_lt h]; simp
theorem takeflat_len {xss : List (List Int)} {K : Nat} (h : ∀ i, i < xss.length → (nthR xss i).length = K) : ∀ k, k ≤ xss.length → (xss.take k).flatten.length = k * K
  | 0, _ => by simp
  | k + 1, hk => by rw [take_flat (by omega), List.length_append, takeflat_len h k (by omega), h k (by omega), Nat.add_mul, Nat.one_mul]
theorem bags_flat (y0 : List (List Int)) (y1 : List Int) : (bagsS y0 y1).flatten = (y0.take y0.length).flatten ++ y1 := by simp [bagsS]
theorem small_mul {k K n : Nat} (h1 : k ≤ n) (h2 : K ≤ 8) : k * K ≤ 8 * n := by
  have := Nat.mul_le_mul h1 h2; rw [Nat.mul_comm n 8] at this; exact this
theorem SlI.addr0 {S : Nat → Prop} {w : World} {a : Option Addr} {xs : List Int} (h : SlI S w a xs) (h0 : 1 ≤ xs.length) : ∃ ad, a = some ad := h.addr h0
set_option maxHeartbeats 400000 in
theorem indexFuncII_v (f : FuncId) (caps : Array Value) (p : List Int → Bool) (hcall : ∀ args w, (callFunc f args).run Try.prog w = .ok (.enter f args) w)
   (S : Nat → Prop) (a : Option Addr) (c : Nat) (xs : List (List Int)) (w : World) (hx : SlII S w a xs)
   (hf : Hid (∀ j, j < xs.length → ∀ a' c' w', Below w.heap.size w w' → SlI S w' a' (nthR xs j) → Calls Try.prog f (#[.slice a' (nthR xs j).length c'] ++ caps) w' (RetV w' (.bool (p (nthR xs j)))))) :
    Calls Try.prog 181 #[.slice a xs.length c, .func (.func f) #[] caps] w (RetV w (.int .i64 (idxII p xs))) := by
  have l1 := hx.len
  unfold maxLen at l1
  have i1 := hx.ix tabII.under tabII.size c
  go_enter Try.func181, Try.ntmps181
  go_wp2
  go_loopw [5, 8] (fun _ i wr => ∃ k : Nat, k ≤ xs.length ∧ i = .int .i64 k ∧ Below w.heap.size w wr ∧ (∀ j, j < k → p (nthR xs j) = false)) (fun _ i _ => xs.length - (intOf i).toNat)
  case atStart => exact ⟨0, Nat.zero_le _, rfl, Below.refl _ _, by omega⟩
  case round =>
      obtain ⟨k, hk, rfl, hb, hj⟩ := hrel
      have HJ := Lib.hid hj
      have HB := Lib.hid hb
      clear hj hb
      by_cases hlt : k < xs.length
      · obtain ⟨a', c', g1, hs⟩ := (hx.below HB.out).cell k hlt
        have HC := Lib.hid (hf.out k hlt a' c' wr HB.out hs)
        clear hs
        go_wp2_with fail
        refine HC.out.mono ?_
        rintro e w' ⟨rfl, hb2⟩
        have HB2 := Lib.hid (bnext HB.out hb2 (Nat.le_refl _))
        clear hb2
        cases hp : p (nthR xs k)
        · have hp' := Lib.hid hp
          clear hp
          go_wp2
          go_roundw
          case rel => exact ⟨k + 1, by omega, by go_num, HB2.out, upto HJ.out hp'.out⟩
          case measure => simp [intOf]; omega
        · have HP := Lib.hid hp
          clear hp
          go_wp2
          go_ret
          exact ⟨ret_int (idxII_at hlt HJ.out HP.out).symm, HB2.out⟩
      · go_wp2
        go_ret
        have e : k = xs.length := by omega
        exact ⟨ret_int (idxII_none (e ▸ HJ.out)).symm, HB.out⟩
theorem containsFuncII_v (f : FuncId) (caps : Array Value) (p : List Int → Bool) (hcall : ∀ args w, (callFunc f args).run Try.prog w = .ok (.enter f args) w)
   (S : Nat → Prop) (a : Option Addr) (c : Nat) (xs : List (List Int)) (w : World) (hx : SlII S w a xs)
   (hf : Hid (∀ j, j < xs.length → ∀ a' c' w', Below w.heap.size w w' → SlI S w' a' (nthR xs j) → Calls Try.prog f (#[.slice a' (nthR xs j).length c'] ++ caps) w' (RetV w' (.bool (p (nthR xs j)))))) :
    Calls Try.prog 140 #[.slice a xs.length c, .func (.func f) #[] caps] w (RetV w (.bool (anyII p xs))) := by
  go_enter Try.func140, Try.ntmps140
  go_wp2_with fail
  refine (indexFuncII_v f caps p hcall S a c xs w hx hf).mono ?_
  rintro e w' ⟨rfl, hb⟩
  go_wp2
  go_ret
  exact ⟨ret_bool (idxII_any p xs), hb⟩
theorem outside_c (x0 : Int) (n c1 : Nat) (a1 : Option Addr) (v2 v3 : Value) (w : World) (hn : n ≤ maxLen) :
    Calls Try.prog 184 #[.agg #[.int .i64 x0, .slice a1 n c1, v2, v3]] w (RetV w (.int .i64 n)) := by
  have hb0 := below_alloc w (.cells #[.int .i64 x0, .slice a1 n c1, v2, v3] 36)
  go_enter Try.func184, Try.ntmps184
  go_wp2_with fail
  refine (size_int_c _ _ _ _ hn).mono ?_
  rintro e w' ⟨rfl, rfl⟩
  go_wp2
  go_ret
  exact ⟨rfl, hb0⟩
set_option maxHeartbeats 2000000 in
set_option maxRecDepth 100000 in
theorem l06Flat_c (K : Nat) (y0 : List (List Int)) (y1 : List Int) (b0 b1 : Option Addr) (d0 d1 : Nat) (p q : Addr) (qb : Nat) (w : World) (k0 : SlII Any w b0 y0) (k1 : SlI Any w b1 y1) (hq : q = ⟨qb, 0, none⟩)
    (hq0 : w.cell? ⟨qb, 0, none⟩ = some (.slice b0 y0.length d0)) (hq1 : w.cell? ⟨qb, 1, none⟩ = some (.slice b1 y1.length d1)) (hr : Hid (∀ i, i < y0.length → (nthR y0 i).length = K)) (h1 : y1.length = K) (hK : 1 ≤ K) (hK8 : K ≤ 8) (hn : y0.length ≤ 4) :
    Calls Try.prog 132 #[.pointer (some p), .pointer (some q)] w (RetB 2 w (bagsS y0 y1).flatten) := by
  subst hq
  have i1 := k0.ix tabII.under tabII.size d0
  have zq : qb < w.heap.size := World.block_lt_of_cell? w _ hq0
  have hbl := Bld.empty 2 w w.heap.size (Nat.le_refl _)
  have K0 := Lib.hid k0
  have K1 := Lib.hid k1
  have H1 := Lib.hid h1
  have HL := Lib.hid (fun k (h : k ≤ y0.length) => takeflat_len hr.out k h)
  have HBL := Lib.hid hbl
  have HB0 := Lib.hid (below_alloc w (.cells #[] 2))
  clear k0 k1 h1 hbl
  go_enter Try.func132, Try.ntmps132
  go_wp2
  go_loopw [5, 6] (fun v i wr => ∃ k : Nat, k ≤ y0.length ∧ i = .int .i64 k ∧ Below w.heap.size w wr ∧ Bld 2 wr w.heap.size v ((y0.take k).flatten.map (.int .i64))) (fun _ i _ => y0.length - (intOf i).toNat)
  case atStart => exact ⟨0, Nat.zero_le _, rfl, HB0.out, HBL.out⟩
  case round =>
    obtain ⟨k, hk, rfl, hb, hbl⟩ := hrel
    have f0 := (bcell1 hb zq).trans hq0
    have f1 := (bcell1 hb zq).trans hq1
    have hz := hb.size
    have HB := Lib.hid hb
    have HL2 := Lib.hid hbl
    clear hb hbl
    by_cases hlt : k < y0.length
    · obtain ⟨ay, cy, gy, hsy⟩ := (K0.out.below HB.out).cell k hlt
      have hrk := hr.out k hlt
      have had := hsy.addr (by omega)
      have hln := HL.out k hk
      have hm := small_mul (k := k) (K := K) (n := 4) (by omega) hK8
      have HS := Lib.hid hsy.any
      have HAD := Lib.hid had
      have HLT : Hid (((y0.take k).flatten.map (Value.int .i64)).length + (nthR y0 k).length < 4294967296) := Lib.hid (by rw [List.length_map, hln, hrk]; omega)
      clear hsy had hln hm hrk
      go_wp2_with (at_builtin; refine app_many rfl _ _ 22 rfl tabI rfl (by decide) w.heap.size _ _ rfl HL2.out Any ay cy (nthR y0 k) rfl HS.out HAD.out HLT.out hz ?_)
      intro v' w1 hbl1 hb1
      have HB1 := Lib.hid (HB.out.trans hb1)
      have HBL1 : Hid (Bld 2 w1 w.heap.size v' ((y0.take (k + 1)).flatten.map (.int .i64))) := Lib.hid (by rw [take_flat hlt]; simpa [List.map_flatten, List.map_take] using hbl1)
      clear hbl1 hb1 gy f0 f1
      go_wp2
      go_roundw
      case rel => exact ⟨k + 1, by omega, by go_num, HB1.out, HBL1.out⟩
      case measure => simp [intOf]; omega
    · have e : k = y0.length := by omega
      subst e
      have had := (K1.out.below HB.out).addr (by have := H1.out; omega)
      have hln := HL.out _ hk
      have hm := small_mul (k := y0.length) (K := K) (n := 4) (by omega) hK8
      have HS := Lib.hid (K1.out.below HB.out)
      have HAD := Lib.hid had
      have HLT : Hid (((y0.take y0.length).flatten.map (Value.int .i64)).length + y1.length < 4294967296) := Lib.hid (by rw [List.length_map, hln, H1.out]; omega)
      clear had hln hm
      go_wp2_with (at_builtin; refine app_many rfl _ _ 22 rfl tabI rfl (by decide) w.heap.size _ _ rfl HL2.out Any b1 d1 y1 rfl HS.out HAD.out HLT.out hz ?_)
      intro v' w1 hbl1 hb1
      have HB1 := Lib.hid (HB.out.trans hb1)
      have HBL1 : Hid (Bld 2 w1 w.heap.size v' ((bagsS y0 y1).flatten.map (.int .i64))) := Lib.hid (by rw [bags_flat]; simpa [List.map_flatten, List.map_take] using hbl1)
      clear hbl1 hb1 f0 f1
      go_wp2
      go_ret
      exact ⟨_, rfl, HB1.out, HBL1.out⟩
theorem wOk_len {x0 : Int} {l : List Int} (h : ¬ (l.length : Int) = x0) : wOk x0 l = false := by simp [wOk, h]
theorem wOk_eq {x0 : Int} {l : List Int} (h : (l.length : Int) = x0) : wOk x0 l = allB (fun w => inRg w (-1000) 1000) l := by simp [wOk, h]
