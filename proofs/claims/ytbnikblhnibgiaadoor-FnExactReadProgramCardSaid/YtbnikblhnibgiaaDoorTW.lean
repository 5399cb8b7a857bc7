/- The text of a bag: the program's functions. -/
import Derived.Test.YtbnikblhnibgiaaDoorTB
import Derived.Test.YtbnikblhnibgiaaDoorD
import Derived.Test.YtbnikblhnibgiaaDoorSHL
import Derived.Lib.AppendIntMem
import Derived.Lib.SmallJoins
import Derived.Lib.Join
namespace Go.Proofs.YtbnikblhnibgiaaDoor
open Go.RowKit

theorem join_snoc (r : List (List UInt8)) (y sep : List UInt8) : Lib.join (r ++ [y]) sep = if r = [] then y else Lib.join r sep ++ sep ++ y := by
  cases r with
  | nil => simp [Lib.join_one]
  | cons x r =>
    rw [if_neg (by simp), List.cons_append, Lib.join_cons, Lib.join_cons]
    simp [Lib.joinTail, List.append_assoc]
/-- The words of the first k kinds. -/
def wordsT (b : List Int) : Nat → List ByteArray
  | 0 => []
  | k + 1 => if nth b k = 0 then wordsT b k else wordsT b k ++ [wordT k (nth b k).toNat]
theorem wordsT_len (b : List Int) : ∀ k, (wordsT b k).length ≤ k
  | 0 => Nat.le_refl 0
  | k + 1 => by
    have := wordsT_len b k
    unfold wordsT
    split
    · omega
    · simp; omega
theorem words_out (b : List Int) (hb : ∀ j, 0 ≤ nth b j ∧ nth b j ≤ 1000) : ∀ k, (⟨(Lib.join ((wordsT b k).map (·.data.toList)) [32]).toArray⟩ : ByteArray) = outT b k ∧ (wordsT b k = [] ↔ (outT b k).size = 0)
  | 0 => ⟨rfl, by simp [wordsT, outT]; rfl⟩
  | k + 1 => by
    obtain ⟨i1, i2⟩ := words_out b hb k
    have hw := wordT_size (k := k) (m := (nth b k).toNat) (by have := hb k; omega)
    unfold wordsT outT
    by_cases h0 : nth b k = 0
    · rw [if_pos h0, if_pos h0]; exact ⟨i1, i2⟩
    · rw [if_neg h0, if_neg h0, List.map_append, List.map_cons, List.map_nil, join_snoc]
      by_cases hz : (outT b k).size = 0
      · rw [if_pos hz, if_pos (by rw [i2.2 hz]; rfl)]
        refine ⟨by simp, ?_⟩
        constructor
        · intro e; simp at e
        · intro e; omega
      · have hne : ¬ wordsT b k = [] := fun e => hz (i2.1 e)
        rw [if_neg hz, if_neg (by simpa using hne)]
        refine ⟨?_, ?_⟩
        · rw [← ByteArray.mk_append_mk, ← ByteArray.mk_append_mk, i1, ByteArray.append_assoc]
        · constructor
          · intro e; simp at e
          · intro e; rw [ByteArray.size_append, ByteArray.size_append] at e; omega
theorem Bld.full {E : Nat} {w : World} {B : Nat} {v : Value} {vs : List Value} (h : Bld E w B v vs) (h0 : vs ≠ []) : ∃ g c, v = .slice (some ⟨g, 0, none⟩) vs.length c ∧ g < w.heap.size ∧ vs.length ≤ c ∧ ∀ j u, vs[j]? = some u → w.cell? ⟨g, j, none⟩ = some u := by
  have hcells := fun g => World.ownsRow.cells (g := g) h
  have hlt := h.lt
  obtain ⟨_, h2⟩ := h
  rcases h2 with ⟨rfl, h3⟩ | ⟨g, cap, cur, rfl, hB, hg, hn, _⟩
  · exact absurd (by simpa using h3) h0
  · refine ⟨g, cap, rfl, (hlt g rfl).2, hn, fun j u hu => ?_⟩
    have := hcells g rfl j u hu
    rwa [Addr.add_lit, Nat.zero_add] at this
theorem Bld.anyV {E : Nat} {w : World} {B : Nat} {v : Value} {vs : List Value} (h : Bld E w B v vs) : ∃ a c, v = .slice a vs.length c := by
  obtain ⟨_, h2⟩ := h
  rcases h2 with ⟨rfl, h3⟩ | ⟨g, cap, cur, rfl, _⟩
  · have : vs = [] := by simpa using h3
    subst this
    exact ⟨none, 0, rfl⟩
  · exact ⟨_, cap, rfl⟩
theorem tabStr : Tab Tryd.prog 53 9 (.string ⟨#[]⟩) 1 16 := ⟨by kernel_rfl, by kernel_rfl⟩
/-- The table of powers lies where it lay. -/
abbrev PowAt (w : World) : Prop := Lib.TabIs Tryd.prog w "internal/strconv.uint64pow10" .u64 Lib.pow10Tab
theorem gPow : ∃ g, Tryd.prog.globalNamed "internal/strconv.uint64pow10" = some g := ⟨3, by kernel_rfl⟩
theorem PowAt.below {w w' : World} (h : PowAt w) (hb : Below w.heap.size w w') : PowAt w' := by
  obtain ⟨g, hg⟩ := gPow
  exact Go.Joins.tab_stays hg h hb (Nat.le_refl _)
theorem decimalN_c (m : Nat) (hm : m < 10000) (w : World) (h : PowAt w) : Calls Tryd.prog 55 #[.int .i64 m] w (RetV w (.string (decN m))) := by
  have e : Lib.itoa (m : Int) = Lib.decDigits m := by rw [Lib.itoa, if_neg (by omega), Int.toNat_natCast]
  go_enter Tryd.func55, Tryd.ntmps55
  go_wp2_with fail
  refine (Tryd.strconv_FormatInt_10 (m : Int) (by omega) (by omega) w h).mono ?_
  rintro e' w' ⟨rfl, k, os, rfl⟩
  have HB := Lib.hid (Go.Lib.below_grow w.heap.size w (Nat.le_refl _) k os)
  go_wp2
  go_ret
  exact ⟨rfl, HB.out⟩
set_option maxHeartbeats 4000000 in
set_option maxRecDepth 100000 in
theorem bagText_c (a : Option Addr) (c : Nat) (b : List Int) (w : World) (hx : SlI Any w a b) (h8 : b.length ≤ 8) (hb : ∀ j, 0 ≤ nth b j ∧ nth b j ≤ 1000) (hp : PowAt w) :
    Calls Tryd.prog 30 #[.slice a b.length c] w (RetV w (.string (bagTextT b))) := by
  have i1 := hx.ix tabI.under tabI.size c
  have HX := Lib.hid hx
  have HB := Lib.hid hb
  have HPW := Lib.hid hp
  have HWO := Lib.hid (words_out b hb b.length)
  have HSZ := Lib.hid (outT_size (b := b) (fun j => (hb j).2) b.length)
  clear hx hb hp
  go_enter Tryd.func30, Tryd.ntmps30
  go_wp2
  go_loopw [3, 4, 5, 6, 10] (fun g _ _ _ i wr => ∃ (k : Nat) (W : List ByteArray), k ≤ b.length ∧ i = .int .i64 k ∧ Hid (W = wordsT b k) ∧ Hid (Below w.heap.size w wr) ∧ Hid (Bld 9 wr w.heap.size g (W.map Value.string))) (fun _ _ _ _ i _ => b.length - (intOf i).toNat)
  case atStart => exact ⟨0, [], Nat.zero_le _, rfl, Lib.hid rfl, Lib.hid (below_alloc _ _), Lib.hid (Bld.empty 9 w _ (Nat.le_refl _))⟩
  case round =>
    obtain ⟨k, W, hk, rfl, HWK, HBW, HBL⟩ := hrel
    have HWL : Hid (W.length ≤ 8) := Lib.hid (by rw [HWK.out]; have := wordsT_len b k; omega)
    by_cases hlt : k < b.length
    · have g1 := (HX.out.below HBW.out).cell k hlt
      have hbk := HB.out k
      obtain ⟨m, hm⟩ : ∃ m : Nat, nth b k = (m : Int) := ⟨(nth b k).toNat, by omega⟩
      rw [hm] at g1 hbk
      have hkk : k < 100 := by omega
      have e3 : IntKind.u8.wrap (97 + (k : Int)) = 97 + k := by simp [IntKind.wrap, IntKind.bits, IntKind.signed]; omega
      have kc := convK k hkk wr.heap.size (wr.alloc (.cells #[.int .u8 (97 + (k : Int))] 5)) (by simp [go_sem])
      have HBA : Hid (Below w.heap.size w (wr.alloc (.cells #[.int .u8 (97 + (k : Int))] 5))) := Lib.hid (HBW.out.alloc HBW.out.size _)
      have HBX := Lib.hid (below_alloc wr (.cells #[.int .u8 (97 + (k : Int))] 5))
      by_cases h0 : m = 0
      · subst h0
        have HN : Hid (W = wordsT b (k + 1)) := Lib.hid (by rw [wordsT, if_pos (by rw [hm]; rfl)]; exact HWK.out)
        have HBL2 := Lib.hid (HBL.out.below HBX.out)
        clear hm
        go_wp2
        first
          | (go_roundw
             case rel => exact ⟨k + 1, _, by omega, by go_num, HN, HBA, HBL2⟩
             case measure => simp [intOf]; omega)
          | (refine ⟨⟨k + 1, _, by omega, by go_num, HN, HBA, HBL2⟩, ?_⟩
             simp [intOf]; omega)
      · have HM : Hid (wordsT b (k + 1) = W ++ [wordT k m]) := Lib.hid (by rw [wordsT, if_neg (by rw [hm]; omega), hm, HWK.out]; rfl)
        have h0' : (0 : Int) < m := by omega
        have HP1 := Lib.hid (HPW.out.below HBA.out)
        have HD := Lib.hid (decimalN_c m (by omega) _ HP1.out)
        have hms := (decN_size (i := m) (by omega)).1
        have HWT : Hid (wordT k m = ⟨#[UInt8.ofNat (97 + k)]⟩ ++ (if 1 < m then decN m else ⟨#[]⟩)) := Lib.hid rfl
        obtain ⟨y, hy⟩ : ∃ y, y = UInt8.ofNat (97 + k) := ⟨_, rfl⟩
        rw [← hy] at kc HWT
        obtain ⟨t, ht⟩ : ∃ t, t = decN m := ⟨_, rfl⟩
        rw [← ht] at HD HWT hms
        clear hm hy ht HP1
        by_cases h1 : 1 < m
        · have h1' : (1 : Int) < m := by omega
          have HW : Hid (⟨#[y]⟩ ++ t = wordT k m) := Lib.hid (by rw [HWT.out, if_pos h1])
          go_wp2_with fail
          refine HD.out.mono ?_
          rintro e w5 ⟨rfl, hb5⟩
          have HB5 : Hid (Below w.heap.size w w5) := Lib.hid (bnext HBA.out hb5 (Nat.le_refl _))
          have HBY : Hid (Below wr.heap.size wr w5) := Lib.hid (HBX.out.trans (hb5.mono HBX.out.size))
          clear hb5 HD
          have hb6 := below_alloc w5 (.cells #[.string (⟨#[y]⟩ ++ t)] 9)
          have hbl6 := Lib.hid ((HBL.out.below HBY.out).below hb6)
          have hz5 : Hid (w.heap.size ≤ w5.heap.size) := Lib.hid HB5.out.size
          have HB6 : Hid (Below w.heap.size w (w5.alloc (.cells #[.string (⟨#[y]⟩ ++ t)] 9))) := Lib.hid (HB5.out.trans (hb6.mono hz5.out))
          clear hb6
          go_wp2_with (at_builtin; refine app_one rfl _ _ 53 rfl tabStr rfl (by decide) w.heap.size _ _ rfl hbl6.out w5.heap.size (.string (⟨#[y]⟩ ++ t)) rfl rfl ?c1 ?c2 ?c3 ?_)
          first | (case c1 => simp) | skip
          case c2 => have := HWL.out; simp; omega
          case c3 => have := hz5.out; have := HBW.out.size; simp; omega
          intro v' w7 hbl7 hb7
          have HB7 : Hid (Below w.heap.size w w7) := Lib.hid (HB6.out.trans hb7)
          have HBL7 : Hid (Bld 9 w7 w.heap.size v' ((wordsT b (k + 1)).map Value.string)) := Lib.hid (by rw [HM.out, ← HW.out]; simpa using hbl7)
          clear hbl7 hb7 hbl6 HBL
          go_wp2
          go_roundw
          case rel => exact ⟨k + 1, _, by omega, by go_num, Lib.hid rfl, HB7, HBL7⟩
          case measure => simp [intOf]; omega
        · have h1' : ¬ (1 : Int) < m := by omega
          have HW : Hid (⟨#[y]⟩ = wordT k m) := Lib.hid (by rw [HWT.out, if_neg h1, append_nil])
          have hb6 := below_alloc (wr.alloc (.cells #[.int .u8 (97 + (k : Int))] 5)) (.cells #[.string (⟨#[y]⟩)] 9)
          have hbl6 := Lib.hid ((HBL.out.below HBX.out).below hb6)
          have hz5 : Hid (w.heap.size ≤ (wr.alloc (.cells #[.int .u8 (97 + (k : Int))] 5)).heap.size) := Lib.hid HBA.out.size
          have HB6 : Hid (Below w.heap.size w ((wr.alloc (.cells #[.int .u8 (97 + (k : Int))] 5)).alloc (.cells #[.string (⟨#[y]⟩)] 9))) := Lib.hid (HBA.out.trans (hb6.mono hz5.out))
          clear hb6
          go_wp2_with (at_builtin; refine app_one rfl _ _ 53 rfl tabStr rfl (by decide) w.heap.size _ _ rfl hbl6.out (wr.heap.size + 1) (.string (⟨#[y]⟩)) rfl rfl ?c1 ?c2 ?c3 ?_)
          first | (case c1 => simp) | skip
          case c2 => have := HWL.out; simp; omega
          case c3 => have := hz5.out; have := HBW.out.size; simp; omega
          intro v' w7 hbl7 hb7
          have HB7 : Hid (Below w.heap.size w w7) := Lib.hid (HB6.out.trans hb7)
          have HBL7 : Hid (Bld 9 w7 w.heap.size v' ((wordsT b (k + 1)).map Value.string)) := Lib.hid (by rw [HM.out, ← HW.out]; simpa using hbl7)
          clear hbl7 hb7 hbl6 HBL
          go_wp2
          go_roundw
          case rel => exact ⟨k + 1, _, by omega, by go_num, Lib.hid rfl, HB7, HBL7⟩
          case measure => simp [intOf]; omega
    · obtain rfl : k = b.length := by omega
      by_cases hW : W = []
      · subst hW
        obtain ⟨a2, c2, rfl⟩ := HBL.out.anyV
        have HT : Hid (bagTextT b = ⟨#[45]⟩) := Lib.hid (by rw [bagTextT, if_pos (HWO.out.2.1 HWK.out.symm)])
        simp only [List.map_nil, List.length_nil]
        go_wp2
        go_ret
        exact ⟨ret_strB HT.out.symm, HBW.out⟩
      · obtain ⟨g, c2, rfl, hg, hc2, hcell⟩ := HBL.out.full (by simpa using hW)
        have hWn : 0 < W.length := List.length_pos_iff.2 hW
        have HT : Hid ((⟨(Lib.join (W.map (·.data.toList)) [32]).toArray⟩ : ByteArray) = bagTextT b) := Lib.hid (by
          rw [HWK.out, HWO.out.1, bagTextT, if_neg (fun e => hW (HWK.out.trans (HWO.out.2.2 e)))])
        have hjl : (Lib.join (W.map (·.data.toList)) [32]).length ≤ 140737488355328 := by
          have h1 : (⟨(Lib.join (W.map (·.data.toList)) [32]).toArray⟩ : ByteArray).size ≤ 6 * b.length := by rw [HWK.out, HWO.out.1]; exact HSZ.out
          have h2 : (⟨(Lib.join (W.map (·.data.toList)) [32]).toArray⟩ : ByteArray).size = (Lib.join (W.map (·.data.toList)) [32]).length := by show (List.toArray _).size = _; simp
          omega
        have HJ := Lib.hid (Tryd.strings_Join g 0 c2 W ⟨#[32]⟩ wr (fun j x hj => by
          rw [Nat.zero_add]; exact hcell j (.string x) (by simp [hj])) hg (by have := HWL.out; omega) (by simpa using hc2) hjl)
        simp only [List.length_map]
        obtain ⟨M, hM⟩ : ∃ M, M = W.length := ⟨_, rfl⟩
        rw [← hM] at HJ hWn ⊢
        have hMi : ¬ (M : Int) = 0 := by omega
        clear hM hcell hc2 hjl
        go_wp2_with fail
        refine HJ.out.mono ?_
        rintro e w9 ⟨rfl, hb9⟩
        have HB9 : Hid (Below w.heap.size w w9) := Lib.hid (bnext HBW.out hb9 (Nat.le_refl _))
        clear hb9 HJ
        go_wp2
        go_ret
        exact ⟨ret_strB HT.out, HB9.out⟩
theorem isBagS_ok {b : List Int} (h : isBagS b = true) : b.length ≤ 8 ∧ ∀ j, 0 ≤ nth b j ∧ nth b j ≤ 1000 := by
  simp only [isBagS, Bool.and_eq_true] at h
  refine ⟨by have := h.2; simp [inRg] at this; omega, fun j => ?_⟩
  by_cases e : j < b.length
  · have := allB_at h.1 e
    simp [cntOk, inRg] at this; omega
  · have : nth b j = 0 := by simp [nth, List.getElem?_eq_none (Nat.le_of_not_lt e)]
    omega
theorem implBagText_d (b : List Int) {v : Value} (w : World) (h1 : Rd Any w (dI b) v) (hp : PowAt w) :
    Calls Tryd.prog 13 #[v] w (RetV w (.string (bagT b))) := by
  obtain ⟨a, c, rfl, hx⟩ := Rd_I.1 h1
  have HI := Lib.hid (isBag_c Any a c b w hx)
  cases hv : isBagS b
  · have e : bagT b = ⟨#[]⟩ := by rw [bagT, if_neg (by rw [hv]; simp)]
    rw [e]
    rw [hv] at HI
    clear e hv hx h1
    go_enter Tryd.func13, Tryd.ntmps13
    go_wp2_with fail
    refine HI.out.mono ?_
    rintro e w1 ⟨rfl, rfl⟩
    go_wp2
    go_ret
    exact ⟨rfl, Below.refl _ _⟩
  · have e : bagT b = bagTextT b := by rw [bagT, if_pos hv]
    obtain ⟨h8, hb⟩ := isBagS_ok hv
    rw [e]
    rw [hv] at HI
    have HT := Lib.hid (bagText_c a c b w hx h8 hb hp)
    clear e hv hx h1 hb hp
    go_enter Tryd.func13, Tryd.ntmps13
    go_wp2_with fail
    refine HI.out.mono ?_
    rintro e w1 ⟨rfl, rfl⟩
    go_wp2_with fail
    refine HT.out.mono ?_
    rintro e w2 ⟨rfl, hb2⟩
    have HB := Lib.hid hb2
    clear hb2
    go_wp2
    go_ret
    exact ⟨rfl, HB.out⟩
theorem specBagText_d (b : List Int) {v : Value} (w : World) (h1 : Rd Any w (dI b) v) :
    Calls Tryd.prog 14 #[v] w (RetV w (.string (bagT b))) := by
  obtain ⟨a, c, rfl, hx⟩ := Rd_I.1 h1
  have HI := Lib.hid (l01Bag_c Any a c b w hx)
  cases hv : isBagS b
  · have e : bagT b = ⟨#[]⟩ := by rw [bagT, if_neg (by rw [hv]; simp)]
    rw [e]
    rw [hv] at HI
    clear e hv hx h1
    go_enter Tryd.func14, Tryd.ntmps14
    go_wp2_with fail
    refine HI.out.mono ?_
    rintro e w1 ⟨rfl, rfl⟩
    go_wp2
    go_ret
    exact ⟨rfl, Below.refl _ _⟩
  · have e : bagT b = bagTextT b := by rw [bagT, if_pos hv]
    obtain ⟨h8, hb⟩ := isBagS_ok hv
    rw [e]
    rw [hv] at HI
    have HT := Lib.hid (l01Text_c a c b w hx h8 hb)
    clear e hv hx h1 hb
    go_enter Tryd.func14, Tryd.ntmps14
    go_wp2_with fail
    refine HI.out.mono ?_
    rintro e w1 ⟨rfl, rfl⟩
    go_wp2_with fail
    refine HT.out.mono ?_
    rintro e w2 ⟨rfl, hb2⟩
    have HB := Lib.hid hb2
    clear hb2
    go_wp2
    go_ret
    exact ⟨rfl, HB.out⟩
end Go.Proofs.YtbnikblhnibgiaaDoor
