/- Parts, counts and packings: the reference's functions. -/
import Derived.Test.YtdcpdipakglnnaaPN
namespace Go.Proofs.Ytdcpdipakglnnaa
open Go.RowKit

theorem askS_bad {kinds : Int} {ps : List (List Int)} (h : allII isBagS ps = false) : askS kinds ps = 1 := by simp [askS, h]
theorem askS_two {kinds : Int} {ps : List (List Int)} (h : allII isBagS ps = true) (h2 : ¬ (ps.length ≤ 8 ∧ allII (fitPart kinds) ps = true)) : askS kinds ps = 2 := by
  unfold askS; rw [if_pos h, if_neg h2]
theorem askS_zero {kinds : Int} {ps : List (List Int)} (h : allII isBagS ps = true) (h1 : ps.length ≤ 8) (h2 : allII (fitPart kinds) ps = true) : askS kinds ps = 0 := by simp [askS, h, h1, h2]
set_option maxHeartbeats 2000000 in
theorem l01Parts_c (kinds : Int) (S : Nat → Prop) (a : Option Addr) (c : Nat) (ps : List (List Int)) (w : World) (hx : SlII S w a ps) :
    Calls Try.prog 73 #[.int .i64 kinds, .slice a ps.length c] w (RetP w (.int .i64 (askS kinds ps))) := by
  have l1 := hx.len
  unfold maxLen at l1
  have i1 := hx.ix tabII.under tabII.size c
  go_enter Try.func73, Try.ntmps73
  go_wp2
  go_loopw [5] (fun i wr => ∃ k : Nat, k ≤ ps.length ∧ i = .int .i64 k ∧ w = wr ∧ (∀ j, j < k → isBagS (nthR ps j) = true)) (fun i _ => ps.length - (intOf i).toNat)
  case atStart => exact ⟨0, Nat.zero_le _, rfl, rfl, by omega⟩
  case round =>
    obtain ⟨k, hk, rfl, rfl, hj⟩ := hrel
    have HJ := Lib.hid hj
    clear hj
    by_cases hlt : k < ps.length
    · obtain ⟨a', d', g1, hs⟩ := hx.cell k hlt
      have HC := Lib.hid (l01Bag_c S _ d' _ _ hs)
      clear hs
      go_wp2_with fail
      refine HC.out.mono ?_
      rintro e w' ⟨rfl, rfl⟩
      cases hp : isBagS (nthR ps k)
      · have HR := Lib.hid (askS_bad (kinds := kinds) (allII_false hlt hp))
        clear hp
        go_wp2
        go_ret
        exact ⟨ret_int HR.out.symm, rfl⟩
      · have HP := Lib.hid hp
        clear hp
        go_wp2
        go_roundw
        case rel => exact ⟨k + 1, by omega, by go_num, trivial, upto HJ.out HP.out⟩
        case measure => simp [intOf]; omega
    · have e : k = ps.length := by omega
      have HA := Lib.hid (allII_true (p := isBagS) (xs := ps) (e ▸ HJ.out))
      clear hk HJ
      subst e
      go_wp2
      go_loopw [6] (fun i wr => ∃ k : Nat, k ≤ ps.length ∧ i = .int .i64 k ∧ w = wr ∧ (∀ j, j < k → fitPart kinds (nthR ps j) = true)) (fun i _ => ps.length - (intOf i).toNat)
      case atStart => exact ⟨0, Nat.zero_le _, rfl, rfl, by omega⟩
      case round =>
        obtain ⟨k, hk, rfl, rfl, hj⟩ := hrel
        have HJ := Lib.hid hj
        clear hj
        by_cases hlt : k < ps.length
        · obtain ⟨a', d', g1, hs⟩ := hx.cell k hlt
          have HC := Lib.hid (l01Size_c S _ d' _ _ hs)
          clear hs
          cases e1 : (((nthR ps k).length : Int) != kinds)
          · cases e2 : (sumS (nthR ps k) == 0)
            · have HR : Hid (fitPart kinds (nthR ps k) = true) := Lib.hid (by simp [fitPart]; exact ⟨by simpa using e1, by simpa using e2⟩)
              go_wp2_with fail
              refine HC.out.mono ?_
              rintro e w' ⟨rfl, rfl⟩
              go_wp2
              go_roundw
              case rel => exact ⟨k + 1, by omega, by go_num, trivial, upto HJ.out HR.out⟩
              case measure => simp [intOf]; omega
            · have HR := Lib.hid (askS_two (kinds := kinds) HA.out (fun h => by have := allII_at h.2 hlt; simp [fitPart] at this; simp at e2; exact this.2 e2))
              go_wp2_with fail
              refine HC.out.mono ?_
              rintro e w' ⟨rfl, rfl⟩
              go_wp2
              go_ret
              exact ⟨ret_int HR.out.symm, rfl⟩
          · have HR := Lib.hid (askS_two (kinds := kinds) HA.out (fun h => by have := allII_at h.2 hlt; simp [fitPart] at this; simp at e1; exact e1 this.1))
            go_wp2
            go_ret
            exact ⟨ret_int HR.out.symm, rfl⟩
        · have e : k = ps.length := by omega
          have HF := Lib.hid (allII_true (p := fitPart kinds) (xs := ps) (e ▸ HJ.out))
          by_cases hq : (8 : Int) < ps.length
          · have HR := Lib.hid (askS_two (kinds := kinds) HA.out (fun h => by omega))
            go_wp2
            go_ret
            exact ⟨ret_int HR.out.symm, rfl⟩
          · have HR := Lib.hid (askS_zero (kinds := kinds) HA.out (by omega) HF.out)
            go_wp2
            go_ret
            exact ⟨ret_int HR.out.symm, rfl⟩
/-- The code of a bag and parts. -/
def asked (xs : List Int) (ps : List (List Int)) : Int := if isBagS xs = true then askS xs.length ps else 1
theorem l01Asked_c (S T : Nat → Prop) (a b : Option Addr) (c c' : Nat) (xs : List Int) (ps : List (List Int)) (w : World) (hx : SlI S w a xs) (hy : SlII T w b ps) :
    Calls Try.prog 80 #[.slice a xs.length c, .slice b ps.length c'] w (RetP w (.int .i64 (asked xs ps))) := by
  have HC := Lib.hid (l01Parts_c xs.length T b c' ps w hy)
  cases hA : isBagS xs
  · have HR : Hid (asked xs ps = 1) := Lib.hid (by simp [asked, hA])
    have HA := Lib.hid hA
    clear hA
    go_enter Try.func80, Try.ntmps80
    go_wp2_with fail
    refine (l01Bag_c S _ _ _ _ hx).mono ?_
    rintro e w' ⟨rfl, rfl⟩
    rw [HA.out]
    go_wp2
    go_ret
    exact ⟨ret_int HR.out.symm, rfl⟩
  · have HR : Hid (asked xs ps = askS xs.length ps) := Lib.hid (by simp [asked, hA])
    have HA := Lib.hid hA
    clear hA
    go_enter Try.func80, Try.ntmps80
    go_wp2_with fail
    refine (l01Bag_c S _ _ _ _ hx).mono ?_
    rintro e w' ⟨rfl, rfl⟩
    rw [HA.out]
    go_wp2_with fail
    refine HC.out.mono ?_
    rintro e w' ⟨rfl, rfl⟩
    go_wp2
    go_ret
    exact ⟨ret_int HR.out.symm, rfl⟩
set_option maxHeartbeats 800000 in
theorem l01Counts_c (n : Nat) (S : Nat → Prop) (a : Option Addr) (c : Nat) (cs : List Int) (w : World) (hx : SlI S w a cs) :
    Calls Try.prog 74 #[.int .i64 n, .slice a cs.length c] w (RetP w (.bool (cntsOk n cs))) := by
  have l1 := hx.len
  unfold maxLen at l1
  have i1 := hx.ix tabI.under tabI.size c
  go_enter Try.func74, Try.ntmps74
  go_wp2
  go_loopw [5] (fun i wr => ∃ k : Nat, k ≤ cs.length ∧ i = .int .i64 k ∧ w = wr ∧ (∀ j, j < k → cntOk (nth cs j) = true)) (fun i _ => cs.length - (intOf i).toNat)
  case atStart => exact ⟨0, Nat.zero_le _, rfl, rfl, by omega⟩
  case round =>
    obtain ⟨k, hk, rfl, rfl, hj⟩ := hrel
    have HJ := Lib.hid hj
    clear hj
    by_cases hlt : k < cs.length
    · have g1 := hx.cell k hlt
      go_wp2_with fail
      refine (l00In_c _ _ _ _).mono ?_
      rintro e w' ⟨rfl, rfl⟩
      cases hp : inRg (nth cs k) 0 1000
      · have HR := Lib.hid (cntsOk_false (n := n) hlt hp)
        clear hp
        go_wp2
        go_ret
        exact ⟨ret_bool (by have := HR.out; simpa using this), rfl⟩
      · have HP := Lib.hid (show cntOk (nth cs k) = true from hp)
        clear hp
        go_wp2
        go_roundw
        case rel => exact ⟨k + 1, by omega, by go_num, trivial, upto HJ.out HP.out⟩
        case measure => simp [intOf]; omega
    · have e : k = cs.length := by omega
      have HP := Lib.hid (allB_true (p := cntOk) (xs := cs) (e ▸ HJ.out))
      go_wp2
      go_ret
      exact ⟨ret_bool (by rw [cntsOk, HP.out, Bool.true_and]), rfl⟩
set_option maxHeartbeats 2000000 in
set_option maxRecDepth 100000 in
theorem l01Packed_c (kinds : Nat) (S T : Nat → Prop) (a b : Option Addr) (c c' : Nat) (ps : List (List Int)) (cs : List Int) (w : World) (hx : SlII S w a ps) (hy : SlI T w b cs) (hk : kinds ≤ 8) (hp : Hid (∀ j, j < ps.length → (nthR ps j).length = kinds)) (hl : ps.length ≤ cs.length) :
    Calls Try.prog 76 #[.int .i64 kinds, .slice a ps.length c, .slice b cs.length c'] w (RetD w (dI (packS kinds ps cs))) := by
  have l1 := hx.len
  have l2 := hy.len
  unfold maxLen at l1 l2
  have i1 := hx.ix tabII.under tabII.size c
  have i2 := hy.ix tabI.under tabI.size c'
  have hrun := callFunc_run Try.func145 (by kernel_rfl) rfl
  go_enter Try.func76, Try.ntmps76
  go_wp2_with (refine make_one rfl _ _ 23 rfl tabI rfl (by decide) kinds kinds kinds rfl rfl rfl rfl (by omega) w.heap.size (Nat.le_refl _) ?_)
  intro w0 hbl hb0 _
  have hK : Kept w w0 (dI (packTo kinds ps cs 0)) (.slice (some ⟨w.heap.size, 0, none⟩) kinds kinds) := Kept.ofBld (by simpa [packTo] using hbl) (by simp [packTo]; unfold maxLen; omega) hb0
  have HK := Lib.hid hK
  clear hbl hb0 hK
  go_wp2
  go_loopw [7, 8] (fun v i wr => ∃ k : Nat, k ≤ ps.length ∧ i = .int .i64 k ∧ Kept w wr (dI (packTo kinds ps cs k)) v) (fun _ i _ => ps.length - (intOf i).toNat)
  case atStart => exact ⟨0, Nat.zero_le _, rfl, HK.out⟩
  case round =>
      obtain ⟨k, hk, rfl, hkp⟩ := hrel
      have hw := hkp.1
      by_cases hlt : k < ps.length
      · obtain ⟨a1, c1, g1, hs⟩ := (hx.below hw).cell k hlt
        have hlt2 : k < cs.length := by omega
        have k2 : (k : Int) < cs.length := by omega
        have g2 := (hy.below hw).cell k hlt2
        obtain ⟨ao, co, rfl, hao⟩ := hkp.val
        have HC : Hid (∀ wx, Below wr.heap.size wr wx → Calls Try.prog 145 #[.slice ao (packTo kinds ps cs k).length co, .slice a1 (nthR ps k).length c1, .int .i64 (nth cs k)] wx (RetD wx (dI (plusS (packTo kinds ps cs k) (nthR ps k) (nth cs k))))) :=
          Lib.hid (fun wx hb => l01Plus_c Any ao a1 co c1 _ _ (nth cs k) wx (hao.below hb) (hs.any.below hb) (by rw [packTo_len, hp.out k hlt]; exact Nat.le_refl _) (by rw [packTo_len]; omega))
        have HW := Lib.hid hw
        clear hs hkp hao hw
        go_wp2_with fail
        go_region_law (refine step_callD rfl 145 #[.tmp 17, .tmp 21, .tmp 25] _ rfl hrun #[.slice ao (packTo kinds ps cs k).length co, .slice a1 (nthR ps k).length c1, .int .i64 (nth cs k)] (by first | rfl | (simp [Act.eval]; done) | (simp [Act.eval]; rfl)) (dI (plusS (packTo kinds ps cs k) (nthR ps k) (nth cs k))) (HC.out _ (Below.refl _ _).drew) ?_; intro v1 F1 w1 hb1 ho1 hn1 hl1; obtain ⟨av, cv, rfl⟩ := ho1.val)
        all_goals
          have H1 : Hid (Kept w w1 (dI (packTo kinds ps cs (k + 1))) _) := Lib.hid (by rw [packTo_succ]; exact Kept.next (HW.out.trans ((Below.refl _ _).drew.mono HW.out.size)) (show RetD wr.drew _ _ w1 from ⟨_, F1, rfl, hb1, ho1, hn1, hl1⟩))
          clear hb1 ho1 hn1 hl1 g1 g2
          go_wp2
          go_roundw
          case rel => exact ⟨k + 1, by omega, by go_num, H1.out⟩
          case measure => simp [intOf]; omega
      · have e : k = ps.length := by omega
        have HR := Lib.hid hkp.ret
        clear hkp hw
        subst e
        go_wp2
        go_ret
        exact HR.out
set_option maxHeartbeats 800000 in
theorem l01Full_c (a b : Option Addr) (c c' : Nat) (rest : List Int) (ps : List (List Int)) (w : World) (hx : SlI Any w a rest) (hy : SlII Any w b ps) (hl : Hid (∀ j, j < ps.length → (nthR ps j).length ≤ rest.length)) :
    Calls Try.prog 203 #[.slice a rest.length c, .slice b ps.length c'] w (RetQ w (.bool (fullS rest ps))) := by
  have l1 := hy.len
  unfold maxLen at l1
  have i1 := hy.ix tabII.under tabII.size c'
  go_enter Try.func203, Try.ntmps203
  go_wp2
  go_loopw [5] (fun i wr => ∃ k n : Nat, k ≤ ps.length ∧ i = .int .i64 k ∧ wr = w.drewN n ∧ (∀ j, j < k → withinS (nthR ps j) rest = false)) (fun i _ => ps.length - (intOf i).toNat)
  case atStart => exact ⟨0, 0, Nat.zero_le _, rfl, rfl, by omega⟩
  case round =>
    obtain ⟨k, n, hk, rfl, rfl, hj⟩ := hrel
    have HJ := Lib.hid hj
    clear hj
    by_cases hlt : k < ps.length
    · obtain ⟨a', d', g1, hs⟩ := hy.cell k hlt
      have HC := Lib.hid (l01Within_c Any a' a d' c _ _ _ (hs.below (below_drewN _ w n)) (hx.below (below_drewN _ w n)) (hl.out k hlt))
      clear hs
      go_wp2_with fail
      refine HC.out.mono ?_
      rintro e w' ⟨rfl, n', rfl⟩
      cases hp : withinS (nthR ps k) rest
      · have HP := Lib.hid hp
        clear hp
        go_wp2
        go_roundw
        case rel => exact ⟨k + 1, _, by omega, by go_num, rfl, upto HJ.out HP.out⟩
        case measure => simp [intOf]; omega
      · have HP := Lib.hid hp
        clear hp
        go_wp2
        go_ret
        exact ⟨ret_bool (allII_false hlt (by simp [HP.out])).symm, _, rfl⟩
    · have e : k = ps.length := by omega
      have HP := Lib.hid (allII_true (p := fun p => !withinS p rest) (xs := ps) (by rw [← e]; intro j hj; simp [HJ.out j hj]))
      go_wp2
      go_ret
      exact ⟨ret_bool HP.out.symm, _, rfl⟩
theorem isPackingS_bad {xs : List Int} {ps : List (List Int)} {cs : List Int} {k : Int} (hk : k ≠ 0) (h : asked xs ps = k) : isPackingS xs ps cs = (false, k) := by
  unfold asked at h
  unfold isPackingS
  split at h
  · rename_i hA
    have : codeS xs.length ps cs = k := by rw [codeS, if_neg (by rw [h]; exact hk), h]
    rw [if_pos hA, this, if_neg hk]
  · rename_i hA
    rw [if_neg hA, ← h]
