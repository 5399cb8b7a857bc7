/- All bags of a size: the reference's functions. -/
import Derived.Test.YthlbogmnnenkoaaBS
namespace Go.Proofs.Ythlbogmnnenkoaa
open Go.RowKit

theorem capA_over {L : List (List Int)} (h : 2000 < L.length) (h2 : L.length ≤ 2001) (x : List (List Int)) : capA L x = L := by
  unfold capA; rw [List.take_append_of_le_length (by omega), List.take_of_length_le (by omega)]
theorem Bld.lower {E : TypeId} {w : World} {B B' : Nat} {v : Value} {vs : List Value} (h : Bld E w B v vs) (hB : B' ≤ B) : Bld E w B' v vs := by
  obtain ⟨h0, h2⟩ := h
  refine ⟨h0, ?_⟩
  rcases h2 with h2 | ⟨g, cap, cur, e, h1, h3⟩
  · exact .inl h2
  · exact .inr ⟨g, cap, cur, e, Nat.le_trans hB h1, h3⟩
theorem SlI.chg {w w' : World} {ad : Addr} {xs : List Int} {F : List Nat} (h : SlI Any w (some ad) xs) (hc : Chg F w w') (hn : ad.block ∉ F) : SlI Any w' (some ad) xs :=
  ⟨h.len, h.ptr, fun i hi => by
    have h1 := h.cell i hi
    have hlt := World.block_lt_of_cell? w _ h1
    simp only [adr, blk, ofs] at h1 hlt ⊢
    rw [hc.cell hlt hn]; exact h1⟩
/-- What a function that adds lists to those at gl leaves. -/
def OutPost (w : World) (B gl : Nat) (L' : List (List Int)) (G : List Nat) (E : TypeId) (e : Ending) (w' : World) : Prop :=
  e = .returned (.tuple #[]) ∧ ∃ G', Box E 1 w' B gl L'.length (L'.map dI) G' ∧ Chg (gl :: G) w w' ∧ ∀ g, g ∈ G' → g ∈ G ∨ w.heap.size ≤ g
/- All parts of a bag: the program's functions and the reference's. -/
theorem drop_nth {b : List Int} {k : Nat} (h : k < b.length) : b.drop k = nth b k :: b.drop (k + 1) := by
  rw [nth_lt h, List.drop_eq_getElem_cons h]
theorem partsTo_split (p bs : List Int) {j m : Nat} (h : j ≤ m) : ∃ rest, partsTo p bs m = partsTo p bs j ++ rest := by
  induction m with
  | zero => exact ⟨[], by rw [show j = 0 from by omega]; simp⟩
  | succ m ih =>
    by_cases e : j = m + 1
    · subst e; exact ⟨[], by simp⟩
    · obtain ⟨rest, e⟩ := ih (by omega)
      exact ⟨_, by rw [partsTo_succ, e, List.append_assoc]⟩
set_option maxHeartbeats 2000000 in
theorem partsFrom_c (w0 : World) (ab : Option Addr) (cb : Nat) (b : List Int) (hsl : SlI Any w0 ab b) (hbb : ∀ j, j < b.length → 0 ≤ nth b j ∧ nth b j ≤ 1000) (hK : b.length ≤ 8) (gb gl : Nat) (px pp po pf : Nat) (C : List (Nat × Value)) (hC : C = [(px, .slice ab b.length cb), (po, .pointer (some ⟨gl, 0, none⟩)), (pp, .slice (some ⟨gb, 0, none⟩) b.length b.length), (pf, .func (.func 164) #[] #[.pointer (some ⟨px, 0, none⟩), .pointer (some ⟨po, 0, none⟩), .pointer (some ⟨pp, 0, none⟩), .pointer (some ⟨pf, 0, none⟩)])]) :
    ∀ (r k : Nat) (bs : List Int) (L : List (List Int)) (G : List Nat) (w : World) (kv : Int), kv = k → b.length = k + r → bs.length = b.length → L.length ≤ 2000 → Below w0.heap.size w0 w → Enm w w0.heap.size C gb gl bs L G 34 →
    Calls Try.prog 164 #[.int .i64 kv, .pointer (some ⟨px, 0, none⟩), .pointer (some ⟨po, 0, none⟩), .pointer (some ⟨pp, 0, none⟩), .pointer (some ⟨pf, 0, none⟩)] w (EnmPost w w0.heap.size C gb gl bs k (capA L ((partsS (b.drop k)).map (bs.take k ++ ·))) G 34) := by
  have HC := Lib.hid hC
  clear hC
  intro r
  induction r with
  | zero =>
    intro k bs L G w kv hkv hKr hbs hL hw hE
    subst hkv
    have c1 := (hE.caps _ _ (by rw [HC.out]; exact .head _)).1
    have c2 := (hE.caps _ _ (by rw [HC.out]; exact .tail _ (.head _))).1
    have c3 := (hE.caps _ _ (by rw [HC.out]; exact .tail _ (.tail _ (.head _)))).1
    have ht : ((k : Int) == (b.length : Int)) = true := by simp; omega
    have hA := add_c w0.heap.size gl ⟨gb, 0, none⟩ b.length bs L.length (L.map dI) G w hE.box (hE.slI (by unfold maxLen; omega)) (by omega) hL hE.base.2.2
    rw [hbs] at hA
    have HA := Lib.hid hA
    have hone : (partsS (b.drop k)).map (bs.take k ++ ·) = [bs] := by
      rw [List.drop_eq_nil_of_le (by omega)]
      rw [List.take_of_length_le (by omega)]
      simp [partsS]
    rw [hone, capA_one hL]
    have HE := Lib.hid hE
    have HBS := Lib.hid hbs
    clear hA hE hKr hbs hone
    go_enter Try.func164, Try.ntmps164
    go_wp2_with fail
    refine HA.out.mono ?_
    rintro e w1 ⟨rfl, G1, hb1, hc1, hm1⟩
    have HP : Hid (EnmPost w w0.heap.size C gb gl bs k (L ++ [bs]) G 34 (.returned (.bool (decide ((L.length : Int) + 1 ≤ 2000)))) w1) := Lib.hid (by
      refine ⟨ret_bool (by simp; omega), bs, G1, HE.out.chg (L' := L ++ [bs]) hc1 ?_ hm1, rfl, rfl, hc1.wider (fun x hx => List.mem_cons_of_mem _ hx), hm1⟩
      simpa using hb1)
    clear hb1 hc1 hm1
    go_wp2
    go_ret
    exact HP.out
  | succ r ih =>
    intro k bs L G w kv hkv hKr hbs hL hw hE
    subst hkv
    have IH := Lib.hid ih
    have c1 := (hE.caps _ _ (by rw [HC.out]; exact .head _)).1
    have i0 := hsl.ix tabI.under tabI.size cb
    have i1 := ix_of (P := Try.prog) tabI.under tabI.size (a := some ⟨gb, 0, none⟩) (n := b.length) (fun _ => ⟨gb, 0, rfl⟩) b.length
    simp only [Nat.mul_one, adr, blk, ofs, Nat.zero_add] at i1
    have ht : ((k : Int) == (b.length : Int)) = false := by simp; omega
    have hkb0 : k < b.length := by omega
    obtain ⟨l, hl⟩ : ∃ l : Nat, nth b k = l := ⟨(nth b k).toNat, by have := hbb k hkb0; omega⟩
    have hl1 : l ≤ 1000 := by have := hbb k hkb0; omega
    have hk2 : (k : Int) < b.length := by omega
    have HL0 := Lib.hid hl
    have HSL := Lib.hid hsl
    have HW := Lib.hid hw
    have HK := Lib.hid hKr
    have HBS := Lib.hid hbs
    have HE := Lib.hid hE
    have HCELL : Hid (∀ wr, Below w0.heap.size w0 wr → wr.cell? (adr ab k) = some (.int .i64 l)) := Lib.hid (fun wr h => by rw [← hl]; exact (hsl.below h).cell k hkb0)
    clear hbs hKr hE ih hbb hl hw hsl
    go_enter Try.func164, Try.ntmps164
    go_wp2
    go_loopw [7] (fun i0 wr => ∃ (j : Nat) (bs' : List Int) (L' : List (List Int)) (G' : List Nat), j ≤ l + 1 ∧ i0 = .int .i64 j ∧ Hid (L' = capA L (partsTo (bs.take k) (b.drop (k + 1)) j)) ∧ L'.length ≤ 2000 ∧ Enm wr w0.heap.size C gb gl bs' L' G' 34 ∧ Hid (bs'.length = bs.length ∧ bs'.take k = bs.take k) ∧ Chg (gb :: gl :: G) w wr ∧ (∀ g, g ∈ G' → g ∈ G ∨ w.heap.size ≤ g)) (fun i0 _ => l + 1 - (intOf i0).toNat)
    case atStart => exact ⟨0, bs, L, G, by omega, rfl, Lib.hid (by simp [partsTo, capA_nil (show L.length ≤ 2001 by omega)]), hL, HE.out, Lib.hid ⟨rfl, rfl⟩, Chg.refl _ _, fun g hg => .inl hg⟩
    case round =>
      obtain ⟨j, bs', L', G', hj, rfl, hL', hn', hE', hb', hc', hm'⟩ := hrel
      have hwr : Below w0.heap.size w0 wr := HW.out.trans (hc'.below HE.out.base.2.2 (fun g hg => by
        simp at hg
        rcases hg with rfl | rfl | hg
        · exact HE.out.base.1
        · exact HE.out.base.2.1
        · exact (HE.out.box.lt.2 g hg).1))
      have HCH := Lib.hid hc'
      have HM := Lib.hid hm'
      have c0 := (hE'.caps _ _ (by rw [HC.out]; exact .head _)).1
      have g0 := HCELL.out wr hwr
      have HWR := Lib.hid hwr
      clear hc' hm' c1 ht hwr
      by_cases hlt : j ≤ l
      · have hkb : k < bs'.length := by have := hb'.out.1; have := HBS.out; have := HK.out; omega
        have c2 := (hE'.caps _ _ (by rw [HC.out]; exact .tail _ (.tail _ (.head _)))).1
        have g1 := hE'.cells k hkb
        have g2 := hE'.free k
        have hset := hE'.set hkb j
        have d4 := (hset.caps _ _ (by rw [HC.out]; exact .tail _ (.tail _ (.tail _ (.head _))))).1
        have n4 := (hset.caps _ _ (by rw [HC.out]; exact .tail _ (.tail _ (.tail _ (.head _))))).2.1
        have hws : Below w0.heap.size w0 (wr.setCell ⟨gb, k, none⟩ (.int .i64 j)) := HWR.out.setCell hE'.base.1 _
        have hcall := IH.out (k + 1) (bs'.set k j) L' G' _ ((k : Int) + 1) (by omega) (by have := HK.out; omega) (by have := hb'.out.1; have := HBS.out; simp; omega) hn' hws hset
        rw [take_set_succ hkb, hb'.out.2] at hcall
        have hL2 : capA L' ((partsS (b.drop (k + 1))).map (bs.take k ++ [(j : Int)] ++ ·)) = capA L (partsTo (bs.take k) (b.drop (k + 1)) (j + 1)) := by
          rw [hL'.out, capA_capA, partsTo_succ]; simp
        rw [hL2] at hcall
        have hz : (wr.setCell ⟨gb, k, none⟩ (.int .i64 j)).heap.size = wr.heap.size := (Exc.setCell wr ⟨gb, k, none⟩ (.int .i64 j)).size
        have HCL := Lib.hid hcall
        have HZ := Lib.hid hz
        have HKB := Lib.hid hkb
        clear hcall hL2 hset hz hE' hws
        obtain ⟨L2, hL2⟩ : ∃ L2, L2 = capA L (partsTo (bs.take k) (b.drop (k + 1)) (j + 1)) := ⟨_, rfl⟩
        rw [← hL2] at HCL
        have HL2 := Lib.hid hL2
        clear hL2
        have hfin : ∀ (bs2 : List Int) (G2 : List Nat) (w1 : World), bs2.length = (bs'.set k (j : Int)).length → bs2.take (k + 1) = bs.take k ++ [(j : Int)] → Chg (gb :: gl :: G') (wr.setCell ⟨gb, k, none⟩ (.int .i64 j)) w1 → (∀ g, g ∈ G2 → g ∈ G' ∨ (wr.setCell ⟨gb, k, none⟩ (.int .i64 j)).heap.size ≤ g) →
            (bs2.length = bs.length ∧ bs2.take k = bs.take k) ∧ Chg (gb :: gl :: G) w w1 ∧ ∀ g, g ∈ G2 → g ∈ G ∨ w.heap.size ≤ g := by
          intro bs2 G2 w1 h1 h2 h3 h4
          have hw := HCH.out.size
          refine ⟨⟨by have := hb'.out.1; simp at h1; omega, ?_⟩, ?_, fun g hg => ?_⟩
          · have := congrArg (List.take k) h2
            rw [List.take_take, Nat.min_eq_left (by omega)] at this
            rw [this, List.take_append_of_le_length (by have := HKB.out; have := hb'.out.1; simp; omega), List.take_take, Nat.min_self]
          · refine ⟨(h3.os.trans ?_).trans HCH.out.os, (h3.tape.trans ?_).trans HCH.out.tape, (h3.output.trans ?_).trans HCH.out.output, by have := h3.size; rw [HZ.out] at this; omega, fun q hq hn => ?_⟩
            · exact (Exc.setCell wr ⟨gb, k, none⟩ (.int .i64 j)).os
            · exact (Exc.setCell wr ⟨gb, k, none⟩ (.int .i64 j)).tape
            · exact (Exc.setCell wr ⟨gb, k, none⟩ (.int .i64 j)).output
            · have a1 := HCH.out.block q hq hn
              have a2 := (Exc.setCell wr ⟨gb, k, none⟩ (.int .i64 j)).block q (by simp at hn ⊢; exact hn.1)
              have a3 := h3.block q (by rw [HZ.out]; omega) (by
                simp at hn ⊢
                refine ⟨hn.1, hn.2.1, fun hg => ?_⟩
                rcases HM.out q hg with hh | hh
                · exact hn.2.2 hh
                · omega)
              rw [a3, a2, a1]
          · rcases h4 g hg with hh | hh
            · exact HM.out g hh
            · rw [HZ.out] at hh; exact .inr (by omega)
        have HF := Lib.hid hfin
        clear hfin
        go_wp2_with fail
        refine HCL.out.mono ?_
        rintro e w1 ⟨he, bs2, G2, hE2, hbl2, hbt2, hc2, hm2⟩
        have HR := Lib.hid (HF.out bs2 G2 w1 hbl2 (hbt2.trans (by rw [take_set_succ HKB.out, hb'.out.2])) hc2 hm2)
        have HE2 := Lib.hid hE2
        clear hbl2 hbt2 hc2 hm2 g1 g2 g0 c0 d4 c2 hE2
        by_cases hq : L2.length ≤ 2000
        · rw [decide_eq_true hq] at he
          subst he
          go_wp2
          go_roundw
          case rel => exact ⟨j + 1, bs2, L2, G2, by omega, by go_num, HL2, hq, HE2.out, Lib.hid HR.out.1, HR.out.2.1, HR.out.2.2⟩
          case measure => simp [intOf]; omega
        · rw [decide_eq_false hq] at he
          subst he
          go_wp2
          go_ret
          have hfull : capA L ((partsS (b.drop k)).map (bs.take k ++ ·)) = L2 := by
            obtain ⟨rest, hr⟩ := partsTo_split (bs.take k) (b.drop (k + 1)) (show j + 1 ≤ l + 1 by omega)
            rw [drop_nth hkb0, ← partsTo_full, HL0.out, Int.toNat_natCast, hr, capA_full rest (by rw [← HL2.out]; exact hq), ← HL2.out]
          rw [hfull]
          exact ⟨ret_bool (by simpa using hq), bs2, G2, HE2.out, HR.out.1.1, HR.out.1.2, HR.out.2.1, HR.out.2.2⟩
      · go_wp2
        go_ret
        have e : j = l + 1 := by omega
        have hfull : capA L ((partsS (b.drop k)).map (bs.take k ++ ·)) = L' := by rw [drop_nth hkb0, ← partsTo_full, HL0.out, Int.toNat_natCast, ← e, ← hL'.out]
        rw [hfull]
        exact ⟨ret_bool (by simpa using hn'), bs', G', hE', hb'.out.1, hb'.out.2, HCH.out, HM.out⟩
set_option maxHeartbeats 2000000 in
theorem implPartsOf_d (b : List Int) {v : Value} (w : World) (h : Rd Any w (dI b) v) :
    Calls Try.prog 60 #[v] w (RetLists w (partsOfS b)) := by
  obtain ⟨ab, cb, rfl, hx⟩ := Rd_I.1 h
  clear h
  have hx' := hx.below (below_alloc w (.cells #[.slice ab b.length cb] 34))
  cases h1 : isBagS b
  · have e : partsOfS b = ([], 1) := by simp [partsOfS, h1]
    rw [e]
    have H1 := Lib.hid h1
    clear h1 e
    go_enter Try.func60, Try.ntmps60
    go_wp2_with fail
    refine (isBag_c Any ab cb b _ hx').mono ?_
    rintro e w' ⟨rfl, rfl⟩
    rw [H1.out]
    go_wp2
    go_ret2
    exact RetDC.none _ _ _ (below_alloc _ _)
  · have hb8 := isBagS_len h1
    have e : partsOfS b = lim (partsS b) := by simp [partsOfS, h1]
    have HBB : Hid (∀ j, j < b.length → 0 ≤ nth b j ∧ nth b j ≤ 1000) := Lib.hid (fun j hj => isBagS_at h1 hj)
    rw [e]
    have H1 := Lib.hid h1
    clear h1 e
    have hmk := make_run1 (P := Try.prog) tabI rfl (by decide) b.length (by omega)
    go_enter Try.func60, Try.ntmps60
    go_upto_region 3 with (go_at_call 153; refine (isBag_c Any ab cb b _ hx').mono ?_; rintro e w' ⟨rfl, rfl⟩; rw [H1.out])
    go_cut [4, 5] (fun s6 s7 wx => Init (w.alloc (.cells #[.slice ab b.length cb] 34)) b.length s6 s7 wx)
    case first =>
      go_region
      all_goals
        go_wp2_with fail
        go_meet
      all_goals first
        | (refine ⟨_, _, w.heap.size + 1, w.heap.size + 1 + 1, rfl, rfl, ?_, ?_, ?_, ?_, ?_, ?_, ?_, ?_, ?_⟩ <;> (first | (simp [go_sem]; done) | omega | (simp; omega) | (intro i hi; simp [go_sem, hi]; done) | (intro i; simp [go_sem]; done) | ((repeat (first | exact Below.refl _ _ | refine Below.drew ?_ | refine Below.alloc ?_ (by simp <;> omega) _)); done)))
        | (refine ⟨_, _, w.heap.size + 1, w.heap.size + 1 + 1 + 1, rfl, rfl, ?_, ?_, ?_, ?_, ?_, ?_, ?_, ?_, ?_⟩ <;> (first | (simp [go_sem]; done) | omega | (simp; omega) | (intro i hi; simp [go_sem, hi]; done) | (intro i; simp [go_sem]; done) | ((repeat (first | exact Below.refl _ _ | refine Below.drew ?_ | refine Below.alloc ?_ (by simp <;> omega) _)); done)))
        | (refine ⟨_, _, w.heap.size + 1, w.heap.size + 1 + 1 + 1 + 1, rfl, rfl, ?_, ?_, ?_, ?_, ?_, ?_, ?_, ?_, ?_⟩ <;> (first | (simp [go_sem]; done) | omega | (simp; omega) | (intro i hi; simp [go_sem, hi]; done) | (intro i; simp [go_sem]; done) | ((repeat (first | exact Below.refl _ _ | refine Below.drew ?_ | refine Below.alloc ?_ (by simp <;> omega) _)); done)))
        | (refine ⟨_, _, w.heap.size + 1 + 1, w.heap.size + 1, rfl, rfl, ?_, ?_, ?_, ?_, ?_, ?_, ?_, ?_, ?_⟩ <;> (first | (simp [go_sem]; done) | omega | (simp; omega) | (intro i hi; simp [go_sem, hi]; done) | (intro i; simp [go_sem]; done) | ((repeat (first | exact Below.refl _ _ | refine Below.drew ?_ | refine Below.alloc ?_ (by simp <;> omega) _)); done)))
        | (refine ⟨_, _, w.heap.size + 1 + 1, w.heap.size + 1 + 1 + 1, rfl, rfl, ?_, ?_, ?_, ?_, ?_, ?_, ?_, ?_, ?_⟩ <;> (first | (simp [go_sem]; done) | omega | (simp; omega) | (intro i hi; simp [go_sem, hi]; done) | (intro i; simp [go_sem]; done) | ((repeat (first | exact Below.refl _ _ | refine Below.drew ?_ | refine Below.alloc ?_ (by simp <;> omega) _)); done)))
        | (refine ⟨_, _, w.heap.size + 1 + 1, w.heap.size + 1 + 1 + 1 + 1, rfl, rfl, ?_, ?_, ?_, ?_, ?_, ?_, ?_, ?_, ?_⟩ <;> (first | (simp [go_sem]; done) | omega | (simp; omega) | (intro i hi; simp [go_sem, hi]; done) | (intro i; simp [go_sem]; done) | ((repeat (first | exact Below.refl _ _ | refine Below.drew ?_ | refine Below.alloc ?_ (by simp <;> omega) _)); done)))
        | (refine ⟨_, _, w.heap.size + 1 + 1 + 1, w.heap.size + 1, rfl, rfl, ?_, ?_, ?_, ?_, ?_, ?_, ?_, ?_, ?_⟩ <;> (first | (simp [go_sem]; done) | omega | (simp; omega) | (intro i hi; simp [go_sem, hi]; done) | (intro i; simp [go_sem]; done) | ((repeat (first | exact Below.refl _ _ | refine Below.drew ?_ | refine Below.alloc ?_ (by simp <;> omega) _)); done)))
        | (refine ⟨_, _, w.heap.size + 1 + 1 + 1, w.heap.size + 1 + 1, rfl, rfl, ?_, ?_, ?_, ?_, ?_, ?_, ?_, ?_, ?_⟩ <;> (first | (simp [go_sem]; done) | omega | (simp; omega) | (intro i hi; simp [go_sem, hi]; done) | (intro i; simp [go_sem]; done) | ((repeat (first | exact Below.refl _ _ | refine Below.drew ?_ | refine Below.alloc ?_ (by simp <;> omega) _)); done)))
        | (refine ⟨_, _, w.heap.size + 1 + 1 + 1, w.heap.size + 1 + 1 + 1 + 1, rfl, rfl, ?_, ?_, ?_, ?_, ?_, ?_, ?_, ?_, ?_⟩ <;> (first | (simp [go_sem]; done) | omega | (simp; omega) | (intro i hi; simp [go_sem, hi]; done) | (intro i; simp [go_sem]; done) | ((repeat (first | exact Below.refl _ _ | refine Below.drew ?_ | refine Below.alloc ?_ (by simp <;> omega) _)); done)))
        | (refine ⟨_, _, w.heap.size + 1 + 1 + 1 + 1, w.heap.size + 1, rfl, rfl, ?_, ?_, ?_, ?_, ?_, ?_, ?_, ?_, ?_⟩ <;> (first | (simp [go_sem]; done) | omega | (simp; omega) | (intro i hi; simp [go_sem, hi]; done) | (intro i; simp [go_sem]; done) | ((repeat (first | exact Below.refl _ _ | refine Below.drew ?_ | refine Below.alloc ?_ (by simp <;> omega) _)); done)))
        | (refine ⟨_, _, w.heap.size + 1 + 1 + 1 + 1, w.heap.size + 1 + 1, rfl, rfl, ?_, ?_, ?_, ?_, ?_, ?_, ?_, ?_, ?_⟩ <;> (first | (simp [go_sem]; done) | omega | (simp; omega) | (intro i hi; simp [go_sem, hi]; done) | (intro i; simp [go_sem]; done) | ((repeat (first | exact Below.refl _ _ | refine Below.drew ?_ | refine Below.alloc ?_ (by simp <;> omega) _)); done)))
        | (refine ⟨_, _, w.heap.size + 1 + 1 + 1 + 1, w.heap.size + 1 + 1 + 1, rfl, rfl, ?_, ?_, ?_, ?_, ?_, ?_, ?_, ?_, ?_⟩ <;> (first | (simp [go_sem]; done) | omega | (simp; omega) | (intro i hi; simp [go_sem, hi]; done) | (intro i; simp [go_sem]; done) | ((repeat (first | exact Below.refl _ _ | refine Below.drew ?_ | refine Below.alloc ?_ (by simp <;> omega) _)); done)))
    case rest =>
      obtain ⟨po, pb, gl, gb, rfl, rfl, h1, h2, h3, h4, h5, h6, ⟨o1, o2, o3, o4⟩, ⟨k1, k2, k3, k4, k5, k6, k7⟩, hb⟩ := hcut
      have hk0 : wc.cell? ⟨w.heap.size, 0, none⟩ = some (.slice ab b.length cb) := by rw [bcell1 hb (by simp)]; simp [go_sem]
      simp only [World.size_alloc] at o1 o2 o3 o4
      have z1 := World.block_lt_of_cell? wc _ h1
      have z2 := World.block_lt_of_cell? wc _ h2
      have z3 := World.block_lt_of_cell? wc _ h3
      have z0 := World.block_lt_of_cell? wc _ hk0
      simp only at z1 z2 z3 z0
      have hE : Enm (wc.alloc (.cells #[.func (.func 164) #[] #[.pointer (some ⟨w.heap.size, 0, none⟩), .pointer (some ⟨po, 0, none⟩), .pointer (some ⟨pb, 0, none⟩), .pointer (some ⟨wc.heap.size, 0, none⟩)]] 185)) w.heap.size
          [(w.heap.size, .slice ab b.length cb), (po, .pointer (some ⟨gl, 0, none⟩)), (pb, .slice (some ⟨gb, 0, none⟩) b.length b.length), (wc.heap.size, .func (.func 164) #[] #[.pointer (some ⟨w.heap.size, 0, none⟩), .pointer (some ⟨po, 0, none⟩), .pointer (some ⟨pb, 0, none⟩), .pointer (some ⟨wc.heap.size, 0, none⟩)])]
          gb gl (List.replicate b.length 0) [] [] 34 := by
        have hA := below_alloc wc (.cells #[.func (.func 164) #[] #[.pointer (some ⟨w.heap.size, 0, none⟩), .pointer (some ⟨po, 0, none⟩), .pointer (some ⟨pb, 0, none⟩), .pointer (some ⟨wc.heap.size, 0, none⟩)]] 185)
        refine Init.enm (by rw [bcell1 hA z3]; exact h3) (by rw [hA.frozen (p := ⟨gl, 0, none⟩) z3]; exact h4) (fun i hi => by rw [bcell1 hA k1]; exact h5 i hi) (fun i => by rw [hA.frozen (p := ⟨gb, i, none⟩) k1]; exact h6 i) (by simp; omega) k7 ⟨by omega, by omega, by simp; omega⟩ ?_
        intro p v hp
        simp only [List.mem_cons, Prod.mk.injEq, List.not_mem_nil, or_false] at hp
        rcases hp with ⟨rfl, rfl⟩ | ⟨rfl, rfl⟩ | ⟨rfl, rfl⟩ | ⟨rfl, rfl⟩
        · exact ⟨by rw [bcell1 hA z0]; exact hk0, by omega, by omega⟩
        · exact ⟨by rw [bcell1 hA z1]; exact h1, by omega, by omega⟩
        · exact ⟨by rw [bcell1 hA z2]; exact h2, by omega, by omega⟩
        · exact ⟨by simp [go_sem], by omega, by omega⟩
      have hb0 : Below w.heap.size w wc := bnext (below_alloc _ _) hb (Nat.le_refl _)
      have hcall := partsFrom_c w ab cb b hx HBB.out (by omega) gb gl w.heap.size pb po wc.heap.size _ rfl b.length 0 (List.replicate b.length 0) [] [] _ 0 rfl (by omega) (by simp) (by simp) (hb0.alloc hb0.size _) hE
      have HCL := Lib.hid hcall
      have HB := Lib.hid hb0
      have HE := Lib.hid hE
      clear hE hcall hb0 hb h1 h2 h3 h4 h5 h6 hk0
      go_wp2_with fail
      refine HCL.out.mono ?_
      rintro e w1 ⟨he, bs', G', hE', -, -, hc', hm'⟩
      have hlen : (capA [] ((partsS (b.drop 0)).map ((List.replicate b.length (0 : Int)).take 0 ++ ·))) = (partsS b).take 2001 := by simp [capA]
      rw [hlen] at he hE'
      subst he
      have o5 := (hE'.caps po _ (.tail _ (.head _))).1
      have hb1 : Below w.heap.size w w1 := (HB.out.alloc (by have := HB.out.size; omega) _).trans (hc'.below (by have := HB.out.size; simp; omega) (fun g hg => by simp at hg; rcases hg with rfl | rfl <;> omega))
      have hres := result_c w.heap.size gl _ G' w w1 hE'.box hb1 (Nat.le_refl _) (by simp; omega)
      rw [lim_take] at hres
      have HR := Lib.hid hres
      clear hE' hc' hm' hb1 hres hlen
      go_wp2_with fail
      refine HR.out.mono ?_
      rintro e w2 ⟨v, F, rfl, h1, h2, h3, h4⟩
      have HX := Lib.hid (show RetLists w (lim (partsS b)) _ w2 from ⟨v, F, rfl, h1, h2, h3, h4⟩)
      clear h1 h2 h3 h4
      go_wp2
      go_ret2
      exact HX.out
end Go.Proofs.Ythlbogmnnenkoaa
