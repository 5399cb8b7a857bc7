/- Parts, counts and packings: contracts. -/
import Derived.Test.YtdcpdipakglnnaaPK
import Derived.Test.YtdcpdipakglnnaaBW
namespace Go.Proofs.Ytdcpdipakglnnaa
open Go.RowKit

set_option maxHeartbeats 400000 in
theorem indexFuncII_c (f : FuncId) (caps : Array Value) (p : List Int → Bool) (hcall : ∀ args w, (callFunc f args).run Try.prog w = .ok (.enter f args) w)
   (S : Nat → Prop) (a : Option Addr) (c : Nat) (xs : List (List Int)) (w : World) (hx : SlII S w a xs)
   (hf : Hid (∀ j, j < xs.length → ∀ a' c', SlI S w a' (nthR xs j) → Calls Try.prog f (#[.slice a' (nthR xs j).length c'] ++ caps) w (RetP w (.bool (p (nthR xs j)))))) :
    Calls Try.prog 187 #[.slice a xs.length c, .func (.func f) #[] caps] w (RetP w (.int .i64 (idxII p xs))) := by
  have l1 := hx.len
  unfold maxLen at l1
  have i1 := hx.ix tabII.under tabII.size c
  go_enter Try.func187, Try.ntmps187
  go_wp2
  go_loopw [5, 8] (fun _ i wr => ∃ k : Nat, k ≤ xs.length ∧ i = .int .i64 k ∧ w = wr ∧ (∀ j, j < k → p (nthR xs j) = false)) (fun _ i _ => xs.length - (intOf i).toNat)
  case atStart => exact ⟨0, Nat.zero_le _, rfl, rfl, by omega⟩
  case round =>
      obtain ⟨k, hk, rfl, rfl, hj⟩ := hrel
      have HJ := Lib.hid hj
      clear hj
      by_cases hlt : k < xs.length
      · obtain ⟨a', c', g1, hs⟩ := hx.cell k hlt
        have HC := Lib.hid (hf.out k hlt a' c' hs)
        go_wp2_with fail
        refine HC.out.mono ?_
        rintro e w' ⟨rfl, rfl⟩
        cases hp : p (nthR xs k)
        · have hp' := Lib.hid hp
          clear hp
          go_wp2
          go_roundw
          case rel => exact ⟨k + 1, by omega, by go_num, trivial, upto HJ.out hp'.out⟩
          case measure => simp [intOf]; omega
        · go_wp2
          go_ret
          exact ⟨ret_int (idxII_at hlt HJ.out hp).symm, rfl⟩
      · go_wp2
        go_ret
        have e : k = xs.length := by omega
        exact ⟨ret_int (idxII_none (e ▸ HJ.out)).symm, rfl⟩
theorem containsFuncII_c (f : FuncId) (caps : Array Value) (p : List Int → Bool) (hcall : ∀ args w, (callFunc f args).run Try.prog w = .ok (.enter f args) w)
   (S : Nat → Prop) (a : Option Addr) (c : Nat) (xs : List (List Int)) (w : World) (hx : SlII S w a xs)
   (hf : Hid (∀ j, j < xs.length → ∀ a' c', SlI S w a' (nthR xs j) → Calls Try.prog f (#[.slice a' (nthR xs j).length c'] ++ caps) w (RetP w (.bool (p (nthR xs j)))))) :
    Calls Try.prog 139 #[.slice a xs.length c, .func (.func f) #[] caps] w (RetP w (.bool (anyII p xs))) := by
  go_enter Try.func139, Try.ntmps139
  go_wp2_with fail
  refine (indexFuncII_c f caps p hcall S a c xs w hx hf).mono ?_
  rintro e w' ⟨rfl, rfl⟩
  go_wp2
  go_ret
  exact ⟨ret_bool (idxII_any p xs), rfl⟩
theorem partsCode1_c (S : Nat → Prop) (a : Option Addr) (c : Nat) (xs : List Int) (w : World) (hx : SlI S w a xs) : Calls Try.prog 146 #[.slice a xs.length c] w (RetP w (.bool (!isBagS xs))) := by
  go_enter Try.func146, Try.ntmps146
  go_wp2_with fail
  refine (isBag_c S _ _ _ _ hx).mono ?_
  rintro e w' ⟨rfl, rfl⟩
  go_wp2
  go_ret
  exact ⟨rfl, rfl⟩
theorem codeS_bad {kinds : Int} {ps : List (List Int)} {cs : List Int} (h : allII isBagS ps = false) : codeS kinds ps cs = 1 := by simp [codeS, askS, h]
theorem codeS_two {kinds : Int} {ps : List (List Int)} {cs : List Int} (h : allII isBagS ps = true) (h2 : ¬ (ps.length ≤ 8 ∧ allII (fitPart kinds) ps = true ∧ cntsOk ps.length cs = true)) : codeS kinds ps cs = 2 := by
  unfold codeS askS
  simp only [h, if_true]
  by_cases h3 : ps.length ≤ 8 ∧ allII (fitPart kinds) ps = true
  · have h4 : ¬ cntsOk ps.length cs = true := fun e => h2 ⟨h3.1, h3.2, e⟩
    simp [h3, h4]
  · simp [h3]
theorem codeS_zero {kinds : Int} {ps : List (List Int)} {cs : List Int} (h : allII isBagS ps = true) (h1 : ps.length ≤ 8) (h2 : allII (fitPart kinds) ps = true) (h3 : cntsOk ps.length cs = true) : codeS kinds ps cs = 0 := by
  simp [codeS, askS, h, h1, h2, h3]
theorem cntsOk_true {n : Nat} {cs : List Int} (hl : cs.length = n) (h : ∀ j, j < n → cntOk (nth cs j) = true) : cntsOk n cs = true := by
  simp [cntsOk, allB_true (p := cntOk) (xs := cs) (by rw [hl]; exact h), hl]
theorem cntsOk_false {n : Nat} {cs : List Int} {k : Nat} (hk : k < cs.length) (h : cntOk (nth cs k) = false) : ¬ cntsOk n cs = true := by
  simp [cntsOk, allB_false hk h]
set_option maxHeartbeats 2000000 in
theorem partsCode_c (kinds : Int) (S T : Nat → Prop) (a b : Option Addr) (c c' : Nat) (ps : List (List Int)) (cs : List Int) (w : World) (hx : SlII S w a ps) (hy : SlI T w b cs) :
    Calls Try.prog 77 #[.int .i64 kinds, .slice a ps.length c, .slice b cs.length c'] w (RetP w (.int .i64 (codeS kinds ps cs))) := by
  have l1 := hx.len
  have l2 := hy.len
  unfold maxLen at l1 l2
  have HC := Lib.hid (containsFuncII_c 146 #[] (fun p => !isBagS p) (callFunc_run Try.func146 (by kernel_rfl) rfl) S a c ps w hx (Lib.hid fun j hj a' c' h => partsCode1_c S a' c' _ w h))
  rw [anyII_not] at HC
  have i1 := hx.ix tabII.under tabII.size c
  have i2 := hy.ix tabI.under tabI.size c'
  cases hA : allII isBagS ps
  · have HR := Lib.hid (codeS_bad (kinds := kinds) (cs := cs) hA)
    rw [hA] at HC
    clear hA
    go_enter Try.func77, Try.ntmps77
    go_wp2_with fail
    refine HC.out.mono ?_
    rintro e w' ⟨rfl, rfl⟩
    go_wp2
    go_ret
    exact ⟨ret_int HR.out.symm, rfl⟩
  · rw [hA] at HC
    have HA := Lib.hid hA
    clear hA
    by_cases hq : 8 < ps.length
    · have HR := Lib.hid (codeS_two (kinds := kinds) (cs := cs) HA.out (fun h => by omega))
      have hq' : (8 : Int) < ps.length := by omega
      go_enter Try.func77, Try.ntmps77
      go_wp2_with fail
      refine HC.out.mono ?_
      rintro e w' ⟨rfl, rfl⟩
      go_wp2
      go_ret
      exact ⟨ret_int HR.out.symm, rfl⟩
    · have hq' : ¬ (8 : Int) < ps.length := by omega
      cases hl : ((cs.length : Int) != ps.length)
      · have hle : cs.length = ps.length := by simp at hl; omega
        have HLE := Lib.hid hle
        clear hle
        go_enter Try.func77, Try.ntmps77
        go_wp2_with fail
        refine HC.out.mono ?_
        rintro e w' ⟨rfl, rfl⟩
        go_wp2
        go_loopw [7, 8, 23] (fun _ _ i wr => ∃ k : Nat, k ≤ ps.length ∧ i = .int .i64 k ∧ w = wr ∧ (∀ j, j < k → fitPart kinds (nthR ps j) = true) ∧ (∀ j, j < k → cntOk (nth cs j) = true)) (fun _ _ i _ => ps.length - (intOf i).toNat)
        case atStart => exact ⟨0, Nat.zero_le _, rfl, rfl, by omega, by omega⟩
        case round =>
          obtain ⟨k, hk, rfl, rfl, hj, hj2⟩ := hrel
          have HJ := Lib.hid hj
          have HJ2 := Lib.hid hj2
          clear hj hj2
          by_cases hlt : k < ps.length
          · obtain ⟨a', d', g1, hs⟩ := hx.cell k hlt
            have hlt2 : k < cs.length := by have := HLE.out; omega
            have k2 : (k : Int) < cs.length := by omega
            have g2 := hy.cell k hlt2
            have HS := Lib.hid hs
            clear hs
            cases e1 : (((nthR ps k).length : Int) != kinds)
            · cases e2 : (sumS (nthR ps k) == 0)
              · go_wp2_with fail
                refine (bagSize_c S _ _ _ _ HS.out).mono ?_
                rintro e w' ⟨rfl, rfl⟩
                go_wp2_with fail
                refine (inRange_c _ _ _ _).mono ?_
                rintro e w' ⟨rfl, rfl⟩
                cases e3 : inRg (nth cs k) 0 1000
                · have HR := Lib.hid (codeS_two (kinds := kinds) (cs := cs) HA.out (fun h => cntsOk_false hlt2 e3 h.2.2))
                  clear e1 e2 e3
                  go_wp2
                  go_ret
                  exact ⟨ret_int HR.out.symm, rfl⟩
                · have HR : Hid (fitPart kinds (nthR ps k) = true ∧ cntOk (nth cs k) = true) := Lib.hid ⟨by simp [fitPart]; exact ⟨by simpa using e1, by simpa using e2⟩, e3⟩
                  clear e1 e2 e3
                  go_wp2
                  go_roundw
                  case rel => exact ⟨k + 1, by omega, by go_num, trivial, upto HJ.out HR.out.1, upto HJ2.out HR.out.2⟩
                  case measure => simp [intOf]; omega
              · have HR := Lib.hid (codeS_two (kinds := kinds) (cs := cs) HA.out (fun h => by have := allII_at h.2.1 hlt; simp [fitPart] at this; simp at e2; exact this.2 e2))
                go_wp2_with fail
                refine (bagSize_c S _ _ _ _ HS.out).mono ?_
                rintro e w' ⟨rfl, rfl⟩
                go_wp2
                go_ret
                exact ⟨ret_int HR.out.symm, rfl⟩
            · have HR := Lib.hid (codeS_two (kinds := kinds) (cs := cs) HA.out (fun h => by have := allII_at h.2.1 hlt; simp [fitPart] at this; simp at e1; exact e1 this.1))
              go_wp2
              go_ret
              exact ⟨ret_int HR.out.symm, rfl⟩
          · go_wp2
            go_ret
            have e : k = ps.length := by omega
            exact ⟨ret_int (codeS_zero HA.out (by omega) (allII_true (e ▸ HJ.out)) (cntsOk_true HLE.out (e ▸ HJ2.out))).symm, rfl⟩
      · have hle : ¬ cs.length = ps.length := by simp at hl; omega
        have HR := Lib.hid (codeS_two (kinds := kinds) (cs := cs) HA.out (fun h => hle (cntsOk_at h.2.2).1))
        clear hle
        go_enter Try.func77, Try.ntmps77
        go_wp2_with fail
        refine HC.out.mono ?_
        rintro e w' ⟨rfl, rfl⟩
        go_wp2
        go_ret
        exact ⟨ret_int HR.out.symm, rfl⟩
/-- The value holds the datum in blocks of its own that were not there in w. -/
def Kept (w wr : World) (d : D) (v : Value) : Prop := Below w.heap.size w wr ∧ ∃ F, Ow wr d v F ∧ F.Nodup ∧ ∀ g, g ∈ F → w.heap.size ≤ g
theorem Kept.next {w wr w' : World} {d : D} {v : Value} (hb : Below w.heap.size w wr) (h : RetD wr d (.returned v) w') : Kept w w' d v := by
  obtain ⟨u, F, e, h1, h2, h3, h4⟩ := h
  cases e
  exact ⟨bnext hb h1 (Nat.le_refl _), F, h2, h3, fun g hg => Nat.le_trans hb.size (h4 g hg)⟩
theorem Kept.ret {w wr : World} {d : D} {v : Value} (h : Kept w wr d v) : RetD w d (.returned v) wr := by
  obtain ⟨hb, F, h2, h3, h4⟩ := h
  exact ⟨v, F, rfl, hb, h2, h3, h4⟩
theorem Kept.below {w wr w' : World} {d : D} {v : Value} (h : Kept w wr d v) (hb : Below wr.heap.size wr w') : Kept w w' d v := by
  obtain ⟨hb0, F, h2, h3, h4⟩ := h
  exact ⟨bnext hb0 hb (Nat.le_refl _), F, h2.below hb, h3, h4⟩
theorem Kept.val {w wr : World} {xs : List Int} {v : Value} (h : Kept w wr (dI xs) v) : ∃ a c, v = .slice a xs.length c ∧ SlI Any wr a xs := by
  obtain ⟨_, F, h2, _, _⟩ := h
  obtain ⟨a, c, rfl⟩ := h2.val
  exact ⟨a, c, rfl, h2.arg⟩
theorem Kept.ofBld {E : Nat} {w w' : World} {v : Value} {xs : List Int} (h : Bld E w' w.heap.size v (xs.map (.int .i64))) (hl : xs.length ≤ maxLen) (hb : Below w.heap.size w w') : Kept w w' (dI xs) v := by
  obtain ⟨u, F, e, h1, h2, h3, h4⟩ := RetD.ofBld h hl hb
  cases e
  exact ⟨h1, F, h2, h3, h4⟩
set_option maxHeartbeats 2000000 in
theorem packed_c (kinds : Nat) (S T : Nat → Prop) (a b : Option Addr) (c c' : Nat) (ps : List (List Int)) (cs : List Int) (w : World) (hx : SlII S w a ps) (hy : SlI T w b cs) (hk : kinds ≤ 8) (hp : Hid (∀ j, j < ps.length → (nthR ps j).length = kinds)) (hl : ps.length ≤ cs.length) :
    Calls Try.prog 79 #[.int .i64 kinds, .slice a ps.length c, .slice b cs.length c'] w (RetD w (dI (packS kinds ps cs))) := by
  have l1 := hx.len
  have l2 := hy.len
  unfold maxLen at l1 l2
  have i1 := hx.ix tabII.under tabII.size c
  have i2 := hy.ix tabI.under tabI.size c'
  go_enter Try.func79, Try.ntmps79
  go_wp2_with (refine make_one rfl _ _ 23 rfl tabI rfl (by decide) kinds kinds kinds rfl rfl rfl rfl (by omega) w.heap.size (Nat.le_refl _) ?_)
  intro w0 hbl hb0 _
  have hK : Kept w w0 (dI (packTo kinds ps cs 0)) (.slice (some ⟨w.heap.size, 0, none⟩) kinds kinds) := Kept.ofBld (by simpa [packTo] using hbl) (by simp [packTo]; unfold maxLen; omega) hb0
  have HK := Lib.hid hK
  clear hbl hb0 hK
  go_wp2
  go_loopw [7, 8, 9, 14] (fun v _ _ i wr => ∃ k : Nat, k ≤ ps.length ∧ i = .int .i64 k ∧ Kept w wr (dI (packTo kinds ps cs k)) v) (fun _ _ _ i _ => ps.length - (intOf i).toNat)
  case atStart => exact ⟨0, Nat.zero_le _, rfl, HK.out⟩
  case round =>
      obtain ⟨k, hk, rfl, hkp⟩ := hrel
      have hw := hkp.1
      by_cases hlt : k < ps.length
      · obtain ⟨a1, c1, g1, hs⟩ := (hx.below hw).cell k hlt
        have hlt2 : k < cs.length := by omega
        have k2 : (k : Int) < cs.length := by omega
        have g2 := (hy.below hw).cell k hlt2
        obtain ⟨ao, co, rfl, hao⟩ := hkp.val
        have HC := Lib.hid (plus_c Any ao a1 co c1 _ _ (nth cs k) wr hao hs.any (by rw [packTo_len, hp.out k hlt]; exact Nat.le_refl _) (by rw [packTo_len]; omega))
        have HW := Lib.hid hw
        clear hs hkp hao hw
        go_wp2_with fail
        refine HC.out.mono ?_
        intro e w1 h
        obtain ⟨v1, F1, rfl, h1⟩ := h
        have H1 := Lib.hid (Kept.next HW.out (show RetD wr _ _ w1 from ⟨v1, F1, rfl, h1⟩))
        rw [← packTo_succ] at H1
        clear h1 g1 g2
        go_wp2
        go_roundw
        case rel => exact ⟨k + 1, by omega, by go_num, H1.out⟩
        case measure => simp [intOf]; omega
      · have e : k = ps.length := by omega
        have HR := Lib.hid hkp.ret
        clear hkp hw
        subst e
        go_wp2
        go_ret
        exact HR.out
theorem isFull1_c (S : Nat → Prop) (a b : Option Addr) (c c' : Nat) (xs rest : List Int) (p : Addr) (w : World) (hx : SlI S w a xs) (hy : SlI S w b rest) (hp : w.cell? p = some (.slice b rest.length c')) (hl : xs.length ≤ rest.length) :
    Calls Try.prog 184 #[.slice a xs.length c, .pointer (some p)] w (RetP w (.bool (withinS xs rest))) := by
  go_enter Try.func184, Try.ntmps184
  go_wp2_with fail
  refine (isWithin_c S _ _ _ _ _ _ _ hx hy hl).mono ?_
  rintro e w' ⟨rfl, rfl⟩
  go_wp2
  go_ret
  exact ⟨rfl, rfl⟩
theorem isFull_c (a b : Option Addr) (c c' : Nat) (rest : List Int) (ps : List (List Int)) (w : World) (hx : SlI Any w a rest) (hy : SlII Any w b ps) (hl : Hid (∀ j, j < ps.length → (nthR ps j).length ≤ rest.length)) :
    Calls Try.prog 136 #[.slice a rest.length c, .slice b ps.length c'] w (RetV w (.bool (fullS rest ps))) := by
  have hb0 := below_alloc w (.cells #[.slice a rest.length c] 23)
  have HC := Lib.hid (containsFuncII_c 184 #[.pointer (some ⟨w.heap.size, 0, none⟩)] (fun p => withinS p rest) (callFunc_run Try.func184 (by kernel_rfl) rfl) Any b c' ps _ (hy.below hb0)
    (Lib.hid fun j hj a' d' h => isFull1_c Any a' a d' c _ rest ⟨w.heap.size, 0, none⟩ _ h (hx.below hb0) (by simp [go_sem]) (hl.out j hj)))
  have HB := Lib.hid hb0
  clear hb0
  go_enter Try.func136, Try.ntmps136
  go_wp2_with fail
  refine HC.out.mono ?_
  rintro e w' ⟨rfl, rfl⟩
  go_wp2
  go_ret
  exact ⟨ret_bool (by rw [anyII_nn]; rfl), HB.out⟩
