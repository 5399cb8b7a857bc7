/- The laws over bytes: what a parameter of bytes reads as; the laws' own small functions: contracts. -/
import Derived.Test.YtbnikblhnibgiaaDoorDR
import Derived.Test.YtbnikblhnibgiaaDoorWB
namespace Go.Proofs.YtbnikblhnibgiaaDoor
open Go.ChangeShapes Go.WideShapes Go.ChangeAt Go.RowKit

/-- A parameter of bytes. -/
theorem open_U {H : Type} {enc : TypeId × Value → H} {P : Program} {W : World} {T E : TypeId} (hT : P.underlying T = some (.slice E)) (hE : P.underlying E = some (.int .u8)) (hc : P.cellsOf E = 1) {v : Value} {d : DataW H} {p : List MemPlace} {base : Nat}
    (hval : Value.okWide P W .any base T v) (h : DataW.Trod enc P W 0 (fun _ => true) true T v d p) : ∃ a n c, v = .slice a n c ∧ SlU (· < W.heap.size) W a n := by
  obtain ⟨a0, n0, c0, rfl⟩ := okWide_slice hT hval
  obtain ⟨fuel, hf⟩ := h
  rcases open_ints hT hE hc hf with ⟨hcs, _⟩ | ⟨a, len', cap', zs, hcs, _, hl, hm, hz, _, hcell, hwz⟩
  · simp [Value.cells] at hcs
    obtain ⟨rfl, rfl, rfl⟩ := hcs
    exact ⟨none, 0, 0, rfl, by simp [maxLen], by simp, by simp⟩
  · simp [Value.cells] at hcs
    obtain ⟨rfl, rfl, rfl⟩ := hcs
    simp only [if_true] at hz
    refine ⟨some a, n0, c0, rfl, by omega, fun h0 => ?_, fun i hi => ?_⟩
    · have g0 := hcell 0 (by omega)
      have e := spot_none g0
      exact ⟨World.block_lt_of_cell? W (a.add 0) g0, a.block, a.off, by rw [← e]⟩
    · have g0 := spot_none (hcell 0 (by omega))
      have gi := hcell i (by omega)
      have hw := hwz (zs.getD i 0) (by
        have : i < zs.length := by omega
        simp [List.getD, this])
      have h1 : IntKind.u8.min = 0 := rfl
      have h2 : IntKind.u8.max = 255 := rfl
      simp only [Lit.wf, Bool.and_eq_true, decide_eq_true_eq] at hw
      refine ⟨zs.getD i 0, by omega, by omega, ?_⟩
      rw [g0] at gi ⊢
      rw [Addr.add_lit] at gi
      exact gi
theorem SlI.anyT {S : Nat → Prop} {w : World} {a : Option Addr} {xs : List Int} (h : SlI S w a xs) : SlI Any w a xs := ⟨h.len, fun h0 => ⟨trivial, (h.ptr h0).2⟩, h.cell⟩
theorem Ow.slA {w : World} {xs : List Int} {v : Value} {F : List Nat} (h : Ow w (dI xs) v F) : ∃ a c, v = .slice a xs.length c ∧ SlI Any w a xs := by
  obtain ⟨a, c, e, hs⟩ := h.slI
  exact ⟨a, c, e, hs.anyT⟩
theorem a2Long_c (a b : Option Addr) (n c m d : Nat) (w : World) (hn : n ≤ maxLen) (hm : m ≤ maxLen) :
    Calls Tryd.prog 11 #[.slice a n c, .slice b m d] w (RetP w (.bool (decide (3000 < n) || decide (3000 < m)))) := by
  unfold maxLen at hn hm
  by_cases h1 : 3000 < n
  · have e : (decide (3000 < n) || decide (3000 < m)) = true := by simp [h1]
    have q : (3000 : Int) < n := by omega
    rw [e]
    clear e
    go_enter Tryd.func11, Tryd.ntmps11
    go_wp2
    go_ret
    exact ⟨rfl, rfl⟩
  · have q : ¬ (3000 : Int) < n := by omega
    by_cases h2 : 3000 < m
    · have e : (decide (3000 < n) || decide (3000 < m)) = true := by simp [h2]
      have q2 : (3000 : Int) < m := by omega
      rw [e]
      clear e
      go_enter Tryd.func11, Tryd.ntmps11
      go_wp2
      go_ret
      exact ⟨rfl, rfl⟩
    · have e : (decide (3000 < n) || decide (3000 < m)) = false := by simp [h1, h2]
      have q2 : ¬ (3000 : Int) < m := by omega
      rw [e]
      clear e
      go_enter Tryd.func11, Tryd.ntmps11
      go_wp2
      go_ret
      exact ⟨rfl, rfl⟩
theorem retQ2 {w : World} {b c : Bool} (h : b = c) {n m : Nat} : RetQ w (.bool b) (.returned (.bool c)) ((w.drewN n).drewN m) := ⟨by rw [h], n + m, by simp [World.drewN, Nat.add_assoc]⟩
set_option maxHeartbeats 400000 in
theorem a2Same_c (S T : Nat → Prop) (a b : Option Addr) (c c' : Nat) (xs ys : List Int) (w : World) (hx : SlI S w a xs) (hy : SlI T w b ys) :
    Calls Tryd.prog 15 #[.slice a xs.length c, .slice b ys.length c'] w (RetQ w (.bool (decide (xs = ys)))) := by
  have l1 := hx.len
  have l2 := hy.len
  unfold maxLen at l1 l2
  cases hl : ((xs.length : Int) != ys.length)
  · have hq : xs.length = ys.length := by simp at hl; omega
    have HQ := Lib.hid hq
    clear hq
    have i1 := hx.ix tabI.under tabI.size c
    have i2 := hy.ix tabI.under tabI.size c'
    go_enter Tryd.func15, Tryd.ntmps15
    go_wp2
    go_loopw [5] (fun i wr => ∃ k n : Nat, k ≤ xs.length ∧ i = .int .i64 k ∧ wr = w.drewN n ∧ (∀ j, j < k → nth xs j = nth ys j)) (fun i _ => xs.length - (intOf i).toNat)
    case atStart => exact ⟨0, 0, Nat.zero_le _, rfl, rfl, by omega⟩
    case round =>
      obtain ⟨k, n, hk, rfl, rfl, hj⟩ := hrel
      have HJ := Lib.hid hj
      clear hj
      by_cases hlt : k < xs.length
      · have g1 := hx.cell k hlt
        have g2 := hy.cell k (by have := HQ.out; omega)
        have k2 : (k : Int) < ys.length := by have := HQ.out; omega
        by_cases hne : nth xs k = nth ys k
        · have HN := Lib.hid hne
          rw [← hne] at g2
          clear hne
          go_wp2
          go_quiet (fail)
          go_wp2
          go_roundw
          case rel => exact ⟨k + 1, _, by omega, by go_num, rfl, upto HJ.out HN.out⟩
          case measure => simp [intOf]; omega
        · have hb : (nth xs k != nth ys k) = true := by simp [hne]
          have HE : Hid (decide (xs = ys) = false) := Lib.hid (decide_eq_false fun e => hne (by rw [e]))
          go_wp2
          go_quiet (fail)
          go_wp2
          go_ret
          exact retQ2 HE.out
      · have e : k = xs.length := by omega
        have e2 : decide (xs = ys) = true := decide_eq_true (by
          refine List.ext_getElem HQ.out fun i h1 h2 => ?_
          have := HJ.out i (by omega)
          rwa [nth_lt h1, nth_lt h2] at this)
        have HE := Lib.hid e2
        clear e2 e
        go_wp2
        go_ret
        exact ⟨ret_bool HE.out.symm, n, rfl⟩
  · have e : decide (xs = ys) = false := decide_eq_false fun e => by rw [e] at hl; simp at hl
    rw [e]
    clear e
    go_enter Tryd.func15, Tryd.ntmps15
    go_wp2
    go_ret
    exact ⟨rfl, 0, rfl⟩
/-- The call draws two lists of which p holds. -/
def RetLL (w : World) (p : List Int → List Int → Prop) (e : Ending) (w' : World) : Prop := ∃ xs ys a c b d, e = .returned (.tuple #[.slice a xs.length c, .slice b ys.length d]) ∧ Below w.heap.size w w' ∧ SlI Any w' a xs ∧ SlI Any w' b ys ∧ p xs ys
theorem A2Bags_c (a : Option Addr) (n c : Nat) (w : World) (h : SlU (· < w.heap.size) w a n) :
    Calls Tryd.prog 12 #[.slice a n c] w (RetLL w fun xs ys => xs.length = ys.length ∧ 1 ≤ xs.length ∧ xs.length ≤ 4 ∧ (∀ j, j < xs.length → 0 ≤ nth xs j ∧ nth xs j ≤ 6) ∧ (∀ j, j < ys.length → 0 ≤ nth ys j ∧ nth ys j ≤ 4)) := by
  have HF := Lib.hid (l00From_c a n c w h)
  have HP := Lib.hid (fun m w h hm => pick_c w.heap.size m 4 w h hm (by omega))
  clear h
  go_enter Tryd.func12, Tryd.ntmps12
  go_wp2_with fail
  refine HF.out.mono ?_
  rintro e w1 ⟨rfl, hb1, hz1, hs1⟩
  have HB1 := Lib.hid hb1
  have HPK := Lib.hid (pick_c w.heap.size 0 4 w1 hs1 (by omega) (by omega))
  clear hb1 hs1
  go_wp2_with fail
  refine HPK.out.mono ?_
  rintro e w2 ⟨x, rfl, hx, he2, hs2⟩
  obtain ⟨k, hk⟩ : ∃ k : Nat, x + 1 = k := ⟨(x + 1).toNat, by omega⟩
  have hk4 : 1 ≤ k ∧ k ≤ 4 := by omega
  obtain rfl : x = (k : Int) - 1 := by omega
  have HB2 : Hid (Below w.heap.size w w2) := Lib.hid (HB1.out.trans (he2.below (fun g hg => by simp at hg; omega)))
  have hz2 := he2.size
  have HD := Lib.hid (l01Draw_c w.heap.size 2 k 6 w2 hs2 (by omega) (by omega) (by omega))
  have e1 : (1 : Int) + ((k : Int) - 1) = k := by omega
  clear he2 hs2 HPK hk
  go_wp2_with fail
  try simp only [e1]
  refine HD.out.mono ?_
  rintro e w3 ⟨xs, v1, F1, rfl, hc3, ho3, _, hF3, ⟨hxl, hxb⟩, hs3⟩
  obtain ⟨a1, c1, rfl, hsl1⟩ := ho3.slA
  have HB3 : Hid (Below w.heap.size w w3) := Lib.hid (HB2.out.trans (hc3.below HB2.out.size (fun g hg => by simp at hg; omega)))
  have hz3 := hc3.size
  have HD2 := Lib.hid (l01Draw_c w.heap.size (2 + 4 * k) k 4 w3 hs3 (by omega) (by omega) (by omega))
  have HO3 := Lib.hid ho3
  have HF3 := Lib.hid hF3
  have HXB := Lib.hid hxb
  clear hc3 ho3 hs3 hF3 hxb hsl1 HD
  go_wp2_with fail
  refine HD2.out.mono ?_
  rintro e w4 ⟨ys, v2, F2, rfl, hc4, ho4, _, hF4, ⟨hyl, hyb⟩, hs4⟩
  obtain ⟨a2, c2, rfl, hsl2⟩ := ho4.slA
  have HB4 : Hid (Below w.heap.size w w4) := Lib.hid (HB3.out.trans (hc4.below HB3.out.size (fun g hg => by simp at hg; omega)))
  have HO4 := Lib.hid (hc4.ow HO3.out (fun g hg h2 => by have := HF3.out g hg; simp at h2; omega))
  obtain ⟨a9, c9, e9, hsl9⟩ := HO4.out.slA
  cases e9
  have HS9 := Lib.hid hsl9
  have HS2 := Lib.hid hsl2
  have HYB := Lib.hid hyb
  clear hc4 ho4 hs4 hF4 hyb hsl2 hsl9
  go_wp2
  go_ret2
  exact ⟨xs, ys, a1, c1, a2, c2, by rw [hxl, hyl]; rfl, HB4.out, HS9.out, HS2.out, by omega, by omega, by omega, HXB.out, HYB.out⟩
end Go.Proofs.YtbnikblhnibgiaaDoor
