/- Drawn bags and parts: contracts. -/
import Derived.Test.YthlbogmnnenkoaaDM
import Derived.Test.YthlbogmnnenkoaaBZ
import Derived.Test.YthlbogmnnenkoaaBW
namespace Go.Proofs.Ythlbogmnnenkoaa
open Go.RowKit

theorem sumX_set {xs : List Int} {i : Nat} {v : Int} (h : i < xs.length) : ∀ n, i < n → sumX (xs.set i v) n = sumX xs n + (v - nth xs i)
  | 0, hn => absurd hn (by omega)
  | n + 1, hn => by
    have e : ∀ j, nth (xs.set i v) j = if j = i then v else nth xs j := fun j => by
      by_cases e : j = i
      · subst e; simp [nth, h]
      · simp [nth, e, Ne.symm e]
    rw [sumX, sumX, e n]
    by_cases hi : n = i
    · subst hi
      have same : ∀ m, m ≤ n → sumX (xs.set n v) m = sumX xs m := by
        intro m
        induction m with
        | zero => intro _; rfl
        | succ m ih => intro hm; rw [sumX, sumX, ih (by omega), e m, if_neg (by omega)]
      rw [same n (Nat.le_refl _), if_pos rfl]; omega
    · rw [sumX_set h n (by omega), if_neg hi]; omega
theorem sumX_rep (K : Nat) : ∀ n, sumX (List.replicate K 0) n = 0
  | 0 => rfl
  | n + 1 => by
    have : nth (List.replicate K (0 : Int)) n = 0 := by
      simp only [nth, List.getD_eq_getElem?_getD, List.getElem?_replicate]
      split <;> rfl
    rw [sumX, sumX_rep K n, this]; rfl
theorem nth_set1 {xs : List Int} {i j : Nat} {v : Int} (h : i < xs.length) : nth (xs.set i v) j = if j = i then v else nth xs j := by
  by_cases e : j = i
  · subst e; simp [nth, h]
  · simp [nth, e, Ne.symm e]
theorem nth_rep (K j : Nat) : nth (List.replicate K (0 : Int)) j = 0 := by
  simp only [nth, List.getD_eq_getElem?_getD, List.getElem?_replicate]
  split <;> rfl
theorem Bld.at1 {E : Nat} {w : World} {B g n c : Nat} {xs : List Int} (h : Bld E w B (.slice (some ⟨g, 0, none⟩) n c) (xs.map (.int .i64))) {i : Nat} (hi : i < xs.length) : w.cell? ⟨g, i, none⟩ = some (.int .i64 (nth xs i)) :=
  h.cell (by simp [nth, hi])
theorem Bld.set1 {E : Nat} {w : World} {B g n c : Nat} {xs : List Int} (h : Bld E w B (.slice (some ⟨g, 0, none⟩) n c) (xs.map (.int .i64))) (i : Nat) (x : Int) : Bld E (w.setCell ⟨g, i, none⟩ (.int .i64 x)) B (.slice (some ⟨g, 0, none⟩) n c) ((xs.set i x).map (.int .i64)) := by
  have := h.set i (.int .i64 x)
  rwa [show (xs.map (Value.int .i64)).set i (.int .i64 x) = (xs.set i x).map (.int .i64) by rw [List.map_set]] at this
/-- The call draws a list of which p holds, in a block of its own. -/
def RetBd (w : World) (s m : Nat) (p : List Int → Prop) (e : Ending) (w' : World) : Prop := ∃ (xs : List Int) (g c : Nat), e = .returned (.slice (some ⟨g, 0, none⟩) xs.length c) ∧ Chg [s] w w' ∧ Bld 2 w' w.heap.size (.slice (some ⟨g, 0, none⟩) xs.length c) (xs.map (.int .i64)) ∧ p xs ∧ SrcE w' s m
set_option maxHeartbeats 2000000 in
theorem l02Few_c (s m : Nat) (kinds most : Nat) (w : World) (h : SrcE w s m) (hm : m ≤ 1000000000) (hk : 1 ≤ kinds ∧ kinds ≤ 8) (h0 : most ≤ 100) :
    Calls Try.prog 165 #[.pointer (some ⟨s, 0, none⟩), .int .i64 kinds, .int .i64 most] w (RetBd w s (m + 2 + 2 * most) fun xs => xs.length = kinds ∧ (∀ j, 0 ≤ nth xs j ∧ nth xs j ≤ most) ∧ 0 ≤ sumX xs kinds ∧ sumX xs kinds ≤ most) := by
  have hsz := h.lt
  have HS := Lib.hid h
  clear h
  go_enter Try.func165, Try.ntmps165
  go_wp2_with (at_make; refine make_one rfl _ _ 34 rfl tabI rfl (by decide) kinds _ _ rfl rfl rfl rfl (by omega) w.heap.size (Nat.le_refl _) ?_)
  intro w1 hbl1 hb1 hz1
  have HS1 := Lib.hid (HS.out.below hb1 hsz)
  have HC1 : Hid (Chg [s] w w1) := Lib.hid (Chg.ofBelow hb1)
  have HB1 : Hid (Bld 2 w1 w.heap.size (.slice (some ⟨w.heap.size, 0, none⟩) kinds kinds) ((List.replicate kinds (0 : Int)).map (.int .i64))) := Lib.hid (by rw [List.map_replicate]; exact hbl1)
  have C := Lib.hid (pick_c s m ((most : Int) + 1) w1 HS1.out (by omega) (by omega))
  clear hbl1 hb1
  go_wp2_with fail
  refine C.out.mono ?_
  rintro e w2 ⟨x, rfl, hx, he2, hs2⟩
  obtain ⟨q, rfl⟩ : ∃ q : Nat, x = q := ⟨x.toNat, by omega⟩
  have hqm : q ≤ most := by omega
  have HC2 := Lib.hid (HC1.out.trans he2.chg)
  have HB2 := Lib.hid (HB1.out.exc he2 hsz)
  have HS2 := Lib.hid hs2
  clear he2 hs2 C HC1 HB1 HS1
  have i2 := ix_of (P := Try.prog) tabI.under tabI.size (a := some ⟨w.heap.size, 0, none⟩) (n := kinds) (fun _ => ⟨w.heap.size, 0, rfl⟩) kinds
  simp only [Nat.mul_one, adr, blk, ofs, Nat.zero_add] at i2
  go_wp2
  go_loopw [8] (fun i wr => ∃ (r : Nat) (xs : List Int), r ≤ q ∧ i = .int .i64 r ∧ Hid (xs.length = kinds) ∧ Hid (∀ j, 0 ≤ nth xs j ∧ nth xs j ≤ (q : Int) - r) ∧ Hid (0 ≤ sumX xs kinds ∧ sumX xs kinds + r ≤ q) ∧ Hid (Chg [s] w wr) ∧ Hid (Bld 2 wr w.heap.size (.slice (some ⟨w.heap.size, 0, none⟩) kinds kinds) (xs.map (.int .i64))) ∧ Hid (SrcE wr s (m + 2 + 2 * (q - r)))) (fun i _ => (intOf i).toNat)
  case atStart => exact ⟨q, List.replicate kinds 0, Nat.le_refl _, rfl, Lib.hid (by simp), Lib.hid (fun j => by rw [nth_rep]; omega), Lib.hid (by rw [sumX_rep]; omega), HC2, HB2, Lib.hid (HS2.out.more (by omega))⟩
  case round =>
    obtain ⟨r, xs, hr, rfl, HL, HX, HU, HC, HB, HE⟩ := hrel
    by_cases h0r : 0 < r
    · have h0i : (0 : Int) < r := by omega
      have C := Lib.hid (pick_c s _ kinds wr HE.out (by omega) (by omega))
      go_wp2_with fail
      refine C.out.mono ?_
      rintro e w3 ⟨x, rfl, hx, he3, hs3⟩
      obtain ⟨i, rfl⟩ : ∃ i : Nat, x = i := ⟨x.toNat, by omega⟩
      have hik : i < kinds := by omega
      have hik2 : (i : Int) < kinds := by omega
      have HC3 := Lib.hid (HC.out.trans he3.chg)
      have HB3 := Lib.hid (HB.out.exc he3 hsz)
      have HS3 := Lib.hid hs3
      have hz3 := HC3.out.size
      have g1 := HB3.out.at1 (i := i) (by have := HL.out; omega)
      have g2 := HB3.out.free i
      have b1 := HX.out i
      have HCS : Hid (Chg [s] w (w3.setCell ⟨w.heap.size, i, none⟩ (.int .i64 (nth xs i + 1)))) := Lib.hid (HC3.out.low ((Below.refl w.heap.size w3).setCell (by exact Nat.le_refl _) _))
      have HBS := Lib.hid (HB3.out.set1 i (nth xs i + 1))
      have HSS : Hid (SrcE (w3.setCell ⟨w.heap.size, i, none⟩ (.int .i64 (nth xs i + 1))) s (m + 2 + 2 * (q - (r - 1)))) := Lib.hid ((HS3.out.below (B := w.heap.size) ((Below.refl w.heap.size w3).setCell (by exact Nat.le_refl _) _) hsz).more (by omega))
      have HXS : Hid (∀ j, 0 ≤ nth (xs.set i (nth xs i + 1)) j ∧ nth (xs.set i (nth xs i + 1)) j ≤ (q : Int) - (r - 1 : Nat)) := Lib.hid fun j => by
        rw [nth_set1 (by have := HL.out; omega)]
        have := HX.out j
        have := HX.out i
        split <;> omega
      have HUS : Hid (0 ≤ sumX (xs.set i (nth xs i + 1)) kinds ∧ sumX (xs.set i (nth xs i + 1)) kinds + (r - 1 : Nat) ≤ q) := Lib.hid (by
        rw [sumX_set (by have := HL.out; omega) kinds hik]
        have := HU.out; omega)
      clear C he3 hs3 HC3 HB3 HS3
      go_wp2
      go_roundw
      case rel => exact ⟨r - 1, xs.set i (nth xs i + 1), by omega, by go_num, Lib.hid (by have := HL.out; simp; omega), HXS, HUS, HCS, HBS, HSS⟩
      case measure => simp [intOf]; omega
    · have h0i : ¬ (0 : Int) < r := by omega
      have HR : Hid (r = 0) := Lib.hid (by omega)
      clear h0r
      go_wp2
      go_ret
      refine ⟨xs, w.heap.size, kinds, by rw [HL.out]; rfl, HC.out, by rw [HL.out]; exact HB.out, ⟨HL.out, fun j => by have := HX.out j; omega, by have := HU.out; omega, by have := HU.out; omega⟩, HE.out.more (by omega)⟩
theorem Bld.slI1 {E : Nat} {w : World} {B g n c : Nat} {xs : List Int} (h : Bld E w B (.slice (some ⟨g, 0, none⟩) n c) (xs.map (.int .i64))) (hl : xs.length ≤ maxLen) : SlI Any w (some ⟨g, 0, none⟩) xs := (SlI.ofBld h hl).anyT
theorem sumS_X {xs : List Int} (h : ∀ j, 0 ≤ nth xs j ∧ nth xs j ≤ 100) (hl : xs.length ≤ 8) : sumS xs = sumX xs xs.length := (sumTo_X xs.length (by omega) fun j _ => by have := h j; omega).1
theorem sumX_pos {xs : List Int} (h : ∀ j, 0 ≤ nth xs j) {i : Nat} (hi : 1 ≤ nth xs i) : ∀ n, i < n → 1 ≤ sumX xs n
  | 0, hn => absurd hn (by omega)
  | n + 1, hn => by
    have p : ∀ k, 0 ≤ sumX xs k := by
      intro k
      induction k with
      | zero => exact Int.le_refl _
      | succ k ih => have := h k; rw [sumX]; omega
    rw [sumX]
    by_cases e : i = n
    · subst e; have := p i; omega
    · have := sumX_pos h hi n (by omega); have := h n; omega
/-- A part of few objects. -/
def partOk (kinds : Nat) (xs : List Int) : Prop := xs.length = kinds ∧ (∀ j, 0 ≤ nth xs j ∧ nth xs j ≤ 3) ∧ ¬ sumS xs = 0
set_option maxHeartbeats 2000000 in
theorem l02Some_c (s m : Nat) (kinds : Nat) (w : World) (h : SrcE w s m) (hm : m ≤ 100000000) (hk : 1 ≤ kinds ∧ kinds ≤ 8) :
    Calls Try.prog 166 #[.pointer (some ⟨s, 0, none⟩), .int .i64 kinds, .int .i64 3] w (RetBd w s (m + 10) (partOk kinds)) := by
  have hsz := h.lt
  have C := Lib.hid (l02Few_c s m kinds 3 w h (by omega) hk (by omega))
  clear h
  go_enter Try.func166, Try.ntmps166
  go_wp2_with fail
  refine C.out.mono ?_
  rintro e w1 ⟨xs, g, c, rfl, hc1, hbl1, ⟨hl1, hx1, hu1, hu2⟩, hs1⟩
  have hg := hbl1.base
  have S1 := Lib.hid (hbl1.slI1 (by unfold maxLen; omega))
  have HC1 := Lib.hid hc1
  have HB1 := Lib.hid hbl1
  have HS1 := Lib.hid hs1
  have HL := Lib.hid hl1
  have HX := Lib.hid hx1
  have hxl : xs.length ≤ 8 := by omega
  have hxl1 : 1 ≤ xs.length := by omega
  have ES := Lib.hid (sumS_X (xs := xs) (fun j => by have := hx1 j; omega) hxl)
  have hkx : (kinds : Int) = xs.length := by omega
  have HKX := Lib.hid hkx
  clear hc1 hbl1 hs1 hl1 hx1 hkx hu1 hu2 C
  have D := Lib.hid (l01Size_c Any (some ⟨g, 0, none⟩) c xs w1 S1.out)
  go_wp2_with fail
  refine D.out.mono ?_
  rintro e w2 ⟨rfl, rfl⟩
  by_cases hz : sumS xs = 0
  · have hzb : (sumS xs == 0) = true := by simpa using hz
    have HZ := Lib.hid hz
    clear hz D
    have C := pick_c s _ kinds w1 HS1.out (by omega) (by omega)
    replace C := Lib.hid C
    go_wp2_with fail
    refine C.out.mono ?_
    rintro e w3 ⟨x, rfl, hx, he3, hs3⟩
    obtain ⟨i, rfl⟩ : ∃ i : Nat, x = i := ⟨x.toNat, by omega⟩
    have hik : i < xs.length := by have := HKX.out; omega
    have hik2 : (i : Int) < xs.length := by omega
    have i2 := ix_of (P := Try.prog) tabI.under tabI.size (a := some ⟨g, 0, none⟩) (n := xs.length) (fun _ => ⟨g, 0, rfl⟩) c
    simp only [Nat.mul_one, adr, blk, ofs, Nat.zero_add] at i2
    have HB3 := Lib.hid (HB1.out.exc he3 hsz)
    have g1 := HB3.out.at1 hik
    have g2 := HB3.out.free i
    have hz3 := (HC1.out.trans he3.chg).size
    have HCS : Hid (Chg [s] w (w3.setCell ⟨g, i, none⟩ (.int .i64 1))) := Lib.hid ((HC1.out.trans he3.chg).low ((Below.refl _ _).setCell hg.1 _))
    have HBS := Lib.hid (HB3.out.set1 i 1)
    have HSS : Hid (SrcE (w3.setCell ⟨g, i, none⟩ (.int .i64 1)) s (m + 10)) := Lib.hid ((hs3.below (B := w.heap.size) ((Below.refl _ _).setCell hg.1 _) hsz).more (by omega))
    have HP : Hid (partOk kinds (xs.set i 1)) := Lib.hid (by
      have h2 : ∀ j, 0 ≤ nth (xs.set i 1) j ∧ nth (xs.set i 1) j ≤ 3 := fun j => by
        rw [nth_set1 hik]; have := HX.out j; split <;> omega
      refine ⟨by rw [List.length_set]; exact HL.out, h2, ?_⟩
      rw [sumS_X (fun j => by have := h2 j; omega) (by rw [List.length_set]; exact hxl)]
      have := sumX_pos (xs := xs.set i 1) (fun j => (h2 j).1) (i := i) (by rw [nth_set1 hik, if_pos rfl]; omega) (xs.set i 1).length (by rw [List.length_set]; exact hik)
      omega)
    clear C he3 hs3 HB3 hx
    go_wp2
    go_ret
    exact ⟨xs.set i 1, g, c, by rw [List.length_set]; rfl, HCS.out, by rw [List.length_set]; exact HBS.out, HP.out, HSS.out⟩
  · have hzb : (sumS xs == 0) = false := by simpa using hz
    have HZ := Lib.hid hz
    clear hz D
    go_wp2
    go_ret
    exact ⟨xs, g, c, rfl, HC1.out, HB1.out, ⟨HL.out, HX.out, HZ.out⟩, HS1.out.more (by omega)⟩
theorem A2Counts_c (a : Option Addr) (n c : Nat) (k : Nat) (w : World) (h : SlU (· < w.heap.size) w a n) (hk : k ≤ 8) :
    Calls Try.prog 62 #[.slice a n c, .int .i64 k] w (fun e w' => ∃ xs a1 c1, e = .returned (.slice a1 xs.length c1) ∧ Below w.heap.size w w' ∧ SlI Any w' a1 xs ∧ xs.length = k ∧ ∀ j, j < xs.length → 0 ≤ nth xs j ∧ nth xs j ≤ 2) := by
  have C := Lib.hid (l00From_c a n c w h)
  clear h
  go_enter Try.func62, Try.ntmps62
  go_wp2_with fail
  refine C.out.mono ?_
  rintro e w1 ⟨rfl, hb1, hz1, hs1⟩
  have HB1 := Lib.hid hb1
  have D := Lib.hid (l01Draw_c w.heap.size 0 k 2 w1 hs1 (by omega) (by omega) (by omega))
  clear hb1 hs1 C
  go_wp2_with fail
  refine D.out.mono ?_
  rintro e w2 ⟨xs, v1, F1, rfl, hc2, ho2, _, _, ⟨hl, hb⟩, _⟩
  obtain ⟨a1, c1, rfl, hsl⟩ := ho2.slA
  have HB2 : Hid (Below w.heap.size w w2) := Lib.hid (HB1.out.trans (hc2.below (Nat.le_of_lt hz1) (fun g hg => by simp at hg; omega)))
  have HSL := Lib.hid hsl
  have HL := Lib.hid hl
  have HBD := Lib.hid hb
  clear hc2 ho2 hl hb hsl D
  go_wp2
  go_ret
  exact ⟨xs, a1, c1, rfl, HB2.out, HSL.out, HL.out, HBD.out⟩
/-- A drawn bag with drawn parts. -/
structure BagParts (b : List Int) (ps : List (List Int)) : Prop where
  lo : 1 ≤ b.length
  hi : b.length ≤ 3
  bd : ∀ j, 0 ≤ nth b j ∧ nth b j ≤ 8
  sum : 0 ≤ sumX b b.length ∧ sumX b b.length ≤ 8
  pl : ps.length ≤ 3
  pk : ∀ p, p ∈ ps → partOk b.length p
def RetBP (w : World) (e : Ending) (w' : World) : Prop := ∃ (b : List Int) (ps : List (List Int)) (a1 : Option Addr) (c1 : Nat) (a2 : Option Addr) (c2 : Nat), e = .returned (.tuple #[.slice a1 b.length c1, .slice a2 ps.length c2]) ∧ Below w.heap.size w w' ∧ SlI Any w' a1 b ∧ SlII Any w' a2 ps ∧ BagParts b ps
set_option maxHeartbeats 4000000 in
set_option maxRecDepth 100000 in
theorem A2Parts_c (a : Option Addr) (n c : Nat) (w : World) (h : SlU (· < w.heap.size) w a n) :
    Calls Try.prog 61 #[.slice a n c] w (RetBP w) := by
  have C := Lib.hid (l00From_c a n c w h)
  clear h
  go_enter Try.func61, Try.ntmps61
  go_wp2_with fail
  refine C.out.mono ?_
  rintro e w1 ⟨rfl, hb1, hz1, hs1⟩
  have HB1 := Lib.hid hb1
  have D := Lib.hid (pick_c w.heap.size 0 3 w1 hs1 (by omega) (by omega))
  clear hb1 hs1 C
  go_wp2_with fail
  refine D.out.mono ?_
  rintro e w2 ⟨x, rfl, hx, he2, hs2⟩
  obtain ⟨K, hK⟩ : ∃ k : Nat, x + 1 = k := ⟨(x + 1).toNat, by omega⟩
  have hK3 : 1 ≤ K ∧ K ≤ 3 := by omega
  obtain rfl : x = (K : Int) - 1 := by omega
  have HB2 : Hid (Below w.heap.size w w2) := Lib.hid (HB1.out.trans (he2.below (fun g hg => by simp at hg; omega)))
  have hz2 := he2.size
  have E := Lib.hid (l02Few_c w.heap.size 2 K 8 w2 hs2 (by omega) (by omega) (by omega))
  have e1 : (1 : Int) + ((K : Int) - 1) = K := by omega
  clear he2 hs2 D hK hx
  go_wp2_with fail
  try simp only [e1]
  refine E.out.mono ?_
  rintro e w3 ⟨b, gb, cb, rfl, hc3, hbl3, ⟨hl3, hx3, hu1, hu2⟩, hs3⟩
  have HB3 : Hid (Below w.heap.size w w3) := Lib.hid (HB2.out.trans (hc3.below HB2.out.size (fun g hg => by simp at hg; omega)))
  have hz3 := hc3.size
  have HBL3 := Lib.hid hbl3
  have hgb := hbl3.base
  have HL := Lib.hid hl3
  have HX := Lib.hid hx3
  have HU : Hid (0 ≤ sumX b b.length ∧ sumX b b.length ≤ 8) := Lib.hid (by rw [hl3]; omega)
  have hbl8 : b.length ≤ 3 := by omega
  have HS3 := Lib.hid hs3
  clear hc3 hbl3 hs3 hl3 hx3 hu1 hu2 E
  have HNIL := Lib.hid (Lst.made 34 1 w3 w3.heap.size (Nat.le_refl _))
  have hz4 : w.heap.size < w3.heap.size := by omega
  have D := Lib.hid (pick_c w.heap.size _ 4 (w3.alloc (.cells #[] 34)) (HS3.out.below (below_alloc _ _) hz4) (by omega) (by omega))
  go_wp2_with fail
  refine D.out.mono ?_
  rintro e w5 ⟨x, rfl, hx, he5, hs5⟩
  obtain ⟨q, rfl⟩ : ∃ q : Nat, x = q := ⟨x.toNat, by omega⟩
  have hq3 : q ≤ 3 := by omega
  have HB5 : Hid (Below w3.heap.size w3 w5 ∨ True) := Lib.hid (.inr trivial)
  have HC5 : Hid (Chg [w.heap.size] w3 w5) := Lib.hid ((Chg.ofBelow (below_alloc _ _)).trans he5.chg)
  have HLS5 : Hid (Lst 34 1 w5 w3.heap.size (.slice (some ⟨w3.heap.size, 0, none⟩) 0 0) 0 [] [w3.heap.size]) := Lib.hid (HNIL.out.keep he5.chg (fun g hg h2 => by simp at hg h2; omega))
  have HS5 := Lib.hid hs5
  clear he5 hs5 D hx HB5
  go_wp2
  go_loopw [7, 8] (fun v i wr => ∃ (r : Nat) (ps : List (List Int)) (G : List Nat), r ≤ q ∧ i = .int .i64 r ∧ Hid (ps.length + r = q) ∧ Hid (∀ p, p ∈ ps → partOk K p) ∧ Hid (Chg [w.heap.size] w3 wr) ∧ Hid (Lst 34 1 wr w3.heap.size v ps.length (ps.map dI) G) ∧ Hid (SrcE wr w.heap.size (100 + 20 * (q - r)))) (fun _ i _ => (intOf i).toNat)
  case atStart => exact ⟨q, [], _, Nat.le_refl _, rfl, Lib.hid (by simp), Lib.hid (by simp), HC5, HLS5, Lib.hid (HS5.out.more (by omega))⟩
  case round =>
    obtain ⟨r, ps, G, hr, rfl, HPL, HPK, HC, HLS, HE⟩ := hrel
    obtain ⟨_, av, cv, rfl⟩ := HLS.out.val
    have hzr := HC.out.size
    by_cases h0r : 0 < r
    · have h0i : (0 : Int) < r := by omega
      have D := Lib.hid (l02Some_c w.heap.size _ K wr HE.out (by omega) (by omega))
      go_wp2_with fail
      refine D.out.mono ?_
      rintro e w6 ⟨p, gp, cp, rfl, hc6, hbl6, hp6, hs6⟩
      have hpl : p.length ≤ 3 := by rw [hp6.1]; omega
      obtain ⟨ap, cp2, Fp, ep, hop, hnp, hfp⟩ := hbl6.ow (by unfold maxLen; omega)
      cases ep
      have HLS6 := Lib.hid (HLS.out.keep hc6 (fun g hg h2 => by have := (HLS.out.lt g hg).1; simp at h2; omega))
      have HC6 := Lib.hid (HC.out.trans hc6)
      have hz6 := hc6.size
      have HOP := Lib.hid hop
      have HFP := Lib.hid hfp
      have HP6 := Lib.hid hp6
      have HLT := Lib.hid HLS.out.lt
      have HLT6 := Lib.hid HLS6.out.lt
      have HS6 := Lib.hid hs6
      have hpsl : ps.length ≤ 3 := by have := HPL.out; omega
      clear hc6 hbl6 hop hfp hp6 hs6 D
      go_wp2_with (at_builtin; refine app_lst rfl _ _ 39 rfl tabII rfl (by omega) (by decide) w3.heap.size _ ps.length (ps.map dI) [dI p] G Fp [.slice (some ⟨gp, 0, none⟩) p.length cp] rfl (HLS6.out.below (below_alloc _ _)) w6.heap.size rfl ⟨⟨Fp, [], HOP.out.below (below_alloc _ _), rfl, by simp⟩, rfl, hnp, fun x hx => Nat.le_trans hzr (HFP.out x hx), fun x hx hg => (by have h9 : wr.heap.size ≤ x := HFP.out x hx; have := (HLT.out x hg).2; omega), (fun j u hu => by match j, hu with | 0, hu => (simp at hu; subst hu; simp)), by simp [Value.oneCell']⟩ (by omega) (by first | omega | (simp; omega)) ?_)
      intro v3 w7 G4 hN
      obtain ⟨_, a3, c3, rfl⟩ := hN.lst.val
      have HL7 : Hid (Lst 34 1 w7 w3.heap.size (.slice a3 (ps.length + 1) c3) (ps ++ [p]).length ((ps ++ [p]).map dI) G4) := Lib.hid (by have := hN.lst; simpa using this)
      have hlow : Below w3.heap.size (w6.alloc (.cells #[.slice (some ⟨gp, 0, none⟩) p.length cp] 34)) w7 := hN.chg.below (by simp; omega) (fun g hg => (HLT6.out g (ob_sub HLS6.out g hg)).1)
      have HC7 : Hid (Chg [w.heap.size] w3 w7) := Lib.hid ((HC6.out.trans (Chg.ofBelow (below_alloc _ _))).low hlow)
      have HS7 : Hid (SrcE w7 w.heap.size (100 + 20 * (q - (r - 1)))) := Lib.hid (((HS6.out.below (below_alloc _ _) (by omega)).below hlow hz4).more (by omega))
      have HPK7 : Hid (∀ x, x ∈ ps ++ [p] → partOk K x) := Lib.hid (fun x hx => by
        rcases List.mem_append.1 hx with hx | hx
        · exact HPK.out x hx
        · simp at hx; subst hx; exact HP6.out)
      clear hN hlow
      go_wp2
      go_roundw
      case rel => exact ⟨r - 1, ps ++ [p], G4, by omega, by go_num, Lib.hid (by have := HPL.out; simp; omega), HPK7, HC7, HL7, HS7⟩
      case measure => simp [intOf]; omega
    · have h0i : ¬ (0 : Int) < r := by omega
      have HPL0 : Hid (ps.length = q) := Lib.hid (by have := HPL.out; omega)
      have HBF : Hid (Below w.heap.size w wr) := Lib.hid (HB3.out.trans (HC.out.below HB3.out.size (fun g hg => by simp at hg; omega)))
      have HBB : Hid (SlI Any wr (some ⟨gb, 0, none⟩) b) := Lib.hid (by
        obtain ⟨ab, cb2, Fb, eb, hob, _, hfb⟩ := HBL3.out.ow (by unfold maxLen; omega)
        cases eb
        exact (HC.out.ow hob (fun g hg h2 => by have := hfb g hg; simp at h2; omega)).arg)
      obtain ⟨a3, c3, e3, hsl3⟩ := HLS.out.slII (by have := HPL0.out; unfold maxLen; omega)
      cases e3
      have HS3 := Lib.hid hsl3
      have HPR : Hid (BagParts b ps) := Lib.hid ⟨by have := HL.out; omega, hbl8, HX.out, HU.out, by have := HPL0.out; omega, by rw [HL.out]; exact HPK.out⟩
      clear hsl3 h0r
      go_wp2
      go_ret2
      exact ⟨b, ps, _, _, _, _, rfl, HBF.out, HBB.out, HS3.out, HPR.out⟩
set_option maxHeartbeats 1000000 in
theorem a2Has_c (a b : Option Addr) (c c' : Nat) (all : List (List Int)) (xs : List Int) (w : World) (hx : SlII Any w a all) (hy : SlI Any w b xs) :
    Calls Try.prog 68 #[.slice a all.length c, .slice b xs.length c'] w (RetV w (.bool (decide (xs ∈ all)))) := by
  have l1 := hx.len
  unfold maxLen at l1
  have i1 := hx.ix tabII.under tabII.size c
  go_enter Try.func68, Try.ntmps68
  go_wp2
  go_loopw [5] (fun i wr => ∃ k : Nat, k ≤ all.length ∧ i = .int .i64 k ∧ Hid (Below w.heap.size w wr) ∧ Hid (∀ j, j < k → ¬ nthR all j = xs)) (fun i _ => all.length - (intOf i).toNat)
  case atStart => exact ⟨0, Nat.zero_le _, rfl, Lib.hid (Below.refl _ _), Lib.hid (by omega)⟩
  case round =>
    obtain ⟨k, hk, rfl, HB, HJ⟩ := hrel
    by_cases hlt : k < all.length
    · obtain ⟨a1, c1, g1, s1⟩ := (hx.below HB.out).cell k hlt
      have C := Lib.hid (callsQ (a2Same_c Any Any a1 b c1 c' _ xs wr s1 (hy.below HB.out)))
      clear s1
      go_wp2_with fail
      refine C.out.mono ?_
      rintro e w1 ⟨rfl, hb1⟩
      have HB1 := Lib.hid (bnext HB.out hb1 (Nat.le_refl _))
      clear hb1 C
      by_cases he : nthR all k = xs
      · have HE : Hid (decide (xs ∈ all) = true) := Lib.hid (decide_eq_true (by rw [← he, nthR_lt hlt]; exact List.getElem_mem hlt))
        have hd : decide (nthR all k = xs) = true := decide_eq_true he
        clear he
        go_wp2
        go_ret
        exact ⟨ret_bool HE.out.symm, HB1.out⟩
      · have hd : decide (nthR all k = xs) = false := decide_eq_false he
        have HJ1 := Lib.hid (upto (P := fun j => ¬ nthR all j = xs) HJ.out he)
        clear he
        go_wp2
        go_roundw
        case rel => exact ⟨k + 1, by omega, by go_num, HB1, HJ1⟩
        case measure => simp [intOf]; omega
    · have HE : Hid (decide (xs ∈ all) = false) := Lib.hid (decide_eq_false fun h => by
        obtain ⟨j, hj, e⟩ := List.getElem_of_mem h
        exact HJ.out j (by omega) (by rw [nthR_lt hj]; exact e))
      go_wp2
      go_ret
      exact ⟨ret_bool HE.out.symm, HB.out⟩
end Go.Proofs.Ythlbogmnnenkoaa
