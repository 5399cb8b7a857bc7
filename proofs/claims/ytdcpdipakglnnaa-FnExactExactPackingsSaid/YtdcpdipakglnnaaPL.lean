/- All packings of a bag: the reference's functions. Written by mkpl.py. -/
import Derived.Test.YtdcpdipakglnnaaPJ
namespace Go.Proofs.Ytdcpdipakglnnaa
open Go.RowKit

theorem nthR_drop {ps : List (List Int)} {k : Nat} (h : k < ps.length) : ps.drop k = nthR ps k :: ps.drop (k + 1) := by rw [nthR_lt h, List.drop_eq_getElem_cons h]
theorem Box.rd {E : TypeId} {w : World} {B gl : Nat} {L : List (List Int)} {G : List Nat} (h : Box E 1 w B gl L.length (L.map dI) G) : ∃ a c, w.cell? ⟨gl, 0, none⟩ = some (.slice a L.length c) := by
  obtain ⟨v, h1, h2⟩ := h.has
  obtain ⟨_, a, c, rfl⟩ := h2.val
  exact ⟨a, c, h1⟩
set_option maxHeartbeats 4000000 in
set_option maxRecDepth 100000 in
theorem l01Pack_c (w0 : World) (M : Nat) (ab : Option Addr) (cb : Nat) (ps : List (List Int)) (hsl : SlII Any w0 ab ps) (hM : M ≤ 8) (hat : Hid (∀ k, k < ps.length → isBagS (nthR ps k) = true ∧ (nthR ps k).length = M ∧ ¬ sumS (nthR ps k) = 0)) (hK : ps.length ≤ 8) (gl : Nat) (hgl : w0.heap.size ≤ gl) :
    ∀ (r : Nat) (p : List Int) (L : List (List Int)) (G : List Nat) (w : World) (ar : Option Addr) (cr : Nat) (rest : List Int) (ad : Option Addr) (c : Nat), ps.length = p.length + r → L.length ≤ 2000 → Below w0.heap.size w0 w → Box 23 1 w w0.heap.size gl L.length (L.map dI) G → SlI (fun g => g ≠ gl ∧ g ∉ G) w ar rest → rest.length = M → small rest → SlI (fun g => g ≠ gl ∧ g ∉ G) w ad p →
    Calls Try.prog 183 #[.slice ar rest.length cr, .slice ab ps.length cb, .slice ad p.length c, .pointer (some ⟨gl, 0, none⟩)] w (OutPost w w0.heap.size gl (capA L ((packs (maxP ps) (ps.drop p.length) rest).map (p ++ ·))) G 23) := by
  intro r
  induction r with
  | zero =>
    intro p L G w ar cr rest ad c hKr hL hw hb hrest hrl hrs hp
    have ht : ((p.length : Int) == (ps.length : Int)) = true := by simp; omega
    have hdrop : ps.drop p.length = [] := List.drop_eq_nil_of_le (by omega)
    have hpl : p.length ≤ 8 := by omega
    rw [hdrop]
    have HBX := Lib.hid hb
    have HF := Lib.hid (l01Full_c ar ab cr cb rest ps w hrest.any (hsl.below hw) (Lib.hid fun j hj => by have := (hat.out j hj).2.1; omega))
    cases hP : maxP ps rest
    · have hP' := hP
      rw [show fullS rest ps = false from hP] at HF
      have hone : capA L ((packs (maxP ps) [] rest).map (p ++ ·)) = L := by simp [packs, hP, capA_nil (show L.length ≤ 2001 by omega)]
      rw [hone]
      clear hone hP hb hdrop hrest hrl hrs hp hKr
      go_enter Try.func183, Try.ntmps183
      go_wp2_with fail
      refine HF.out.mono ?_
      rintro e w1 ⟨rfl, n, rfl⟩
      have HB6 := Lib.hid (HBX.out.keep (F' := []) (Chg.ofBelow (below_drewN _ w n)) (by simp))
      go_wp2
      go_end0
      exact ⟨rfl, G, HB6.out, Chg.ofBelow (below_drewN _ w n), fun g hg => .inl hg⟩
    · have hP' := hP
      rw [show fullS rest ps = true from hP] at HF
      have hone : capA L ((packs (maxP ps) [] rest).map (p ++ ·)) = L ++ [p] := by simp [packs, hP, capA_one hL]
      rw [hone]
      obtain ⟨v, hc, hLs⟩ := hb.has
      obtain ⟨hdl, a, cp, rfl⟩ := hLs.val
      have hfr := hb.free
      have hlt := hb.lt
      have HLS := Lib.hid hLs
      have HO := Lib.hid hb.out
      have HLT := Lib.hid hlt
      have hB := hw.size
      have hrun := callFunc_run Try.func148 (by kernel_rfl) rfl
      have hown : ∀ wx, Below w.heap.size w wx → Calls Try.prog 148 #[.slice ad p.length c] wx (RetD wx (dI p)) := fun wx h => (l00OwnN_c Any ad c p wx (hp.any.below h) (by omega)).mono fun e w' h => h.d (by unfold maxLen; omega)
      have HOW := Lib.hid hown
      clear hone hP hb hdrop hrest hrl hrs hp hKr hLs hlt hown
      go_enter Try.func183, Try.ntmps183
      go_wp2_with fail
      refine HF.out.mono ?_
      rintro e w1 ⟨rfl, n, rfl⟩
      go_wp2
      go_region_law (first
        | (refine step_callD rfl 148 #[.tmp 23] _ rfl hrun #[.slice ad p.length c] (by first | rfl | (simp [Act.eval]; done) | (simp [Act.eval]; rfl)) (dI p) (HOW.out _ (below_drewN _ w (n + 1))) ?_; intro v1 F1 w1 hb1 ho1 hn1 hl1; obtain ⟨a1, c1, rfl⟩ := ho1.val; have f1 := (bcell1 (i := 0) hb1 HLT.out.1).trans hc; have f1b := fun (o : Obj) => (bcell1 (i := 0) (below_alloc w1 o) (by have h3 : w.heap.size ≤ w1.heap.size := hb1.size; have := HLT.out.1; omega)).trans f1)
        | (refine step_lst rfl (.tmp 22) (.tmp 25) 22 rfl tabII rfl (by omega) (by decide) w0.heap.size _ L.length (L.map dI) [dI p] G F1 [.slice a1 p.length c1] rfl (HLS.out.below (((below_drewN _ w (n + 1)).trans hb1).alloc hb1.size _)) w1.heap.size rfl ⟨⟨F1, [], ho1.below (below_alloc _ _), rfl, by simp⟩, rfl, hn1, fun x hx => Nat.le_trans hB (hl1 x hx), fun x hx hg => (by have h9 : w.heap.size ≤ x := hl1 x hx; have := (HLT.out.2 x hg).2; omega), (fun j u hu => by match j, hu with | 0, hu => (simp at hu; subst hu; simp)), by simp [Value.oneCell']⟩ (by omega) (by have h3 : w.heap.size ≤ w1.heap.size := hb1.size; first | omega | (simp; omega)) ?_; intro v2 w2 G2 hN; obtain ⟨_, a2, c2, rfl⟩ := hN.lst.val; have hz1 : w.heap.size ≤ w1.heap.size := hb1.size; have z2 : gl < (w1.alloc (.cells #[.slice a1 p.length c1] 23)).heap.size := (by have := HLT.out.1; first | omega | (simp; omega)); have f2 := (hN.chg.cell (b := gl) z2 (fun hg => HO.out (ob_sub HLS.out _ hg)) 0).trans ((bcell1 (below_alloc _ _) (by have := HLT.out.1; omega)).trans f1); have e2 : w2.frozen? ⟨gl, 0, none⟩ = false := (hN.chg.frozen (b := gl) z2 (fun hg => HO.out (ob_sub HLS.out _ hg)) 0).trans ((((below_drewN _ w (n + 1)).trans hb1).alloc hz1 _).frozen (p := ⟨gl, 0, none⟩) HLT.out.1 |>.trans hfr)))
      all_goals
        have hG : ∀ g, g ∈ G2 → g ∈ G ∨ w.heap.size ≤ g := fun g hg => by
          rcases hN.mem g hg with h | h | h
          · exact .inl h
          · exact .inr (hl1 g h)
          · refine .inr ?_
            have h' : w1.heap.size + 1 ≤ g := by simpa using h
            omega
        have hch : Chg (gl :: G) w w2 := (Chg.ofBelow ((below_drewN _ w (n + 1)).trans hb1)).trans ((Chg.ofBelow (below_alloc _ _)).trans (hN.chg.wider (fun k hk => List.mem_cons_of_mem _ (ob_sub HLS.out _ hk))))
        have hng : gl ∉ G2 := fun h => by
          rcases hG gl h with h | h
          · exact HO.out h
          · have := HLT.out.1; omega
        have HS := Lib.hid (World.cell?_setCell_same w2 ⟨gl, 0, none⟩ (.slice a2 (L.length + 1) c2) f2)
        have HLN := Lib.hid (hN.lst.keep (chg_set w2 ⟨gl, 0, none⟩ (.slice a2 (L.length + 1) c2) [gl] (by simp)) (fun g hg => by simp; rintro rfl; exact hng hg))
        have HE := Lib.hid e2
        have HCH := Lib.hid (hch.trans (chg_set w2 ⟨gl, 0, none⟩ (.slice a2 (L.length + 1) c2) (gl :: G) (by simp)))
        have HG := Lib.hid hG
        have HNG := Lib.hid hng
        clear hN hch hG hng e2 hb1 ho1 hl1 hn1
        go_wp2
        go_end0
        refine ⟨rfl, G2, ?_, HCH.out, HG.out⟩
        exact ⟨by rw [World.frozen?_setCell]; exact HE.out, ⟨_, HS.out, by have := HLN.out; simpa using this⟩, HNG.out⟩
  | succ r ih =>
    intro p L G w ar cr rest ad c hKr hL hw hb hrest hrl hrs hp
    have ht : ((p.length : Int) == (ps.length : Int)) = false := by simp; omega
    have hkb0 : p.length < ps.length := by omega
    have hk2 : (p.length : Int) < ps.length := by omega
    have hat0 := hat.out p.length hkb0
    have hlen : (nthR ps p.length).length = rest.length := by omega
    have htb := timesS_bd hlen hrs
    obtain ⟨l, hl⟩ : ∃ l : Nat, timesS (nthR ps p.length) rest = l := ⟨(timesS (nthR ps p.length) rest).toNat, by omega⟩
    have hl1 : l ≤ 1000 := by omega
    have hr8 : rest.length ≤ 8 := by omega
    have hpl : p.length ≤ 8 := by omega
    obtain ⟨ap, cp, g00, hs0⟩ := hsl.cell p.length hkb0
    have i0 := hsl.ix tabII.under tabII.size cb
    have HP0 := Lib.hid (And.intro g00 hs0)
    have HAT := Lib.hid hat0
    have HLEN := Lib.hid hlen
    have HRS := Lib.hid hrs
    have HL0 := Lib.hid hl
    have HW := Lib.hid hw
    have HK := Lib.hid hKr
    have HREST := Lib.hid hrest
    have HRL := Lib.hid hrl
    have HBX := Lib.hid hb
    have HPP := Lib.hid hp
    have IH := Lib.hid ih
    clear hKr hw hb hrest hrl hrs hp ih hat0 hlen htb hl g00 hs0
    go_enter Try.func183, Try.ntmps183
    go_wp2
    go_loopw [9] (fun i0 wr => ∃ (j : Nat) (L' : List (List Int)) (G' : List Nat), j ≤ l + 1 ∧ i0 = .int .i64 j ∧ Hid (L' = capA L (packsTo (maxP ps) (ps.drop (p.length + 1)) (nthR ps p.length) rest p j)) ∧ L'.length ≤ 2001 ∧ Box 23 1 wr w0.heap.size gl L'.length (L'.map dI) G' ∧ Chg (gl :: G) w wr ∧ (∀ g, g ∈ G' → g ∈ G ∨ w.heap.size ≤ g)) (fun i0 _ => l + 1 - (intOf i0).toNat)
    case atStart => exact ⟨0, L, G, by omega, rfl, Lib.hid (by simp [packsTo, capA_nil (show L.length ≤ 2001 by omega)]), by omega, HBX.out, Chg.refl _ _, fun g hg => .inl hg⟩
    case round =>
      obtain ⟨j, L', G', hj, rfl, hL', hn', hb', hc', hm'⟩ := hrel
      have hwr : Below w0.heap.size w0 wr := HW.out.trans (hc'.below HW.out.size (fun g hg => by
        simp at hg
        rcases hg with rfl | hg
        · exact hgl
        · exact (HBX.out.lt.2 g hg).1))
      have hrw := HREST.out.keep hc' (fun g hg => by simp; exact hg)
      have hpw := HPP.out.keep hc' (fun g hg => by simp; exact hg)
      have g0 := (hwr.cell (World.block_lt_of_cell? w0 _ HP0.out.1)).trans HP0.out.1
      have htm := l01Times_c Any ap ar cp cr _ _ wr (HP0.out.2.below hwr) hrw.any (Nat.le_of_eq HLEN.out) (fun j hj => isBagS_small HAT.out.1 j hj) (fun j hj => HRS.out j (by have := HLEN.out; omega))
      rw [best_times HAT.out.1 HAT.out.2.2, HL0.out] at htm
      have HT := Lib.hid htm
      obtain ⟨ao, co, gout⟩ := hb'.rd
      have HB' := Lib.hid hb'
      have HCH := Lib.hid hc'
      have HM := Lib.hid hm'
      have HWR := Lib.hid hwr
      have HRW := Lib.hid hrw
      have HPW := Lib.hid hpw
      clear hb' hc' hm' hwr hrw hpw htm
      by_cases hlt : j ≤ l
      · by_cases hfl : L'.length ≤ 2000
        · have hwj : IntKind.i64.wrap (-(j : Int)) = -(j : Int) := by rw [IntKind.wrap_i64]; omega
          have HPL : Hid (∀ n, Calls Try.prog 145 #[.slice ar rest.length cr, .slice ap (nthR ps p.length).length cp, .int .i64 (-(j : Int))] (wr.drewN n) (RetD (wr.drewN n) (dI (plusS rest (nthR ps p.length) (-(j : Int)))))) :=
            Lib.hid (fun n => l01Plus_c Any ar ap cr cp _ _ _ _ (HRW.out.any.below (below_drewN _ wr n)) ((HP0.out.2.below HWR.out).below (below_drewN _ wr n)) (by have := HLEN.out; omega) (by omega))
          have HSM : Hid (small (plusS rest (nthR ps p.length) (-(j : Int)))) := Lib.hid (take_small HLEN.out HRS.out (isBagS_small HAT.out.1) (by omega) (by have := HL0.out; omega))
          go_wp2_with fail
          refine HT.out.mono ?_
          rintro e w1 ⟨rfl, n, rfl⟩
          go_wp2_with fail
          refine (HPL.out n).mono ?_
          rintro e w2 ⟨v2, F2, rfl, hb2, ho2, hn2, hF2⟩
          have hb2' : Below wr.heap.size wr w2 := (below_drewN _ wr n).trans hb2
          have hz2 := hb2'.size
          obtain ⟨a2, c2, rfl⟩ := ho2.val
          have HO2 := Lib.hid ho2
          have HF2 : Hid (∀ g, g ∈ F2 → wr.heap.size ≤ g) := Lib.hid hF2
          have HB2 := Lib.hid hb2'
          clear ho2 hn2 hF2 hb2 hb2' g0 gout
          go_wp2_with fail
          refine (l00OwnN_c Any ad c p w2 (HPW.out.any.below HB2.out) (by omega)).mono ?_
          rintro e w3 ⟨v3, rfl, hb3, hl3⟩
          have hz3 := hb3.size
          have hl3' := hl3.below (below_alloc w3 (.cells #[.int .i64 j] 2))
          have HB3 := Lib.hid hb3
          clear hb3 hl3
          go_wp2_with (at_builtin; refine app_one rfl _ _ 23 rfl tabI rfl (by decide) w2.heap.size _ _ rfl hl3' w3.heap.size (.int .i64 j) rfl rfl ?c1 ?c2 ?c3 ?_)
          case c1 => simp [go_sem]
          case c2 => simp; omega
          case c3 => simp; omega
          intro v4 w4 hl4 hb4
          obtain ⟨a4, c4, F4, rfl, ho4, hn4, hF4⟩ := (show Bld 2 w4 w2.heap.size v4 ((p ++ [(j : Int)]).map (.int .i64)) from (by simpa using hl4)).ow (by simp; unfold maxLen; omega)
          have hw4 : Below w2.heap.size w2 w4 := (HB3.out.alloc hz3 _).trans hb4
          have hbr : Below wr.heap.size wr w4 := bnext HB2.out hw4 (Nat.le_refl _)
          have hbx4 := HB'.out.keep (F' := []) (Chg.ofBelow hbr) (by simp)
          have hglt := HB'.out.lt
          obtain ⟨a2', c2', e2, hs2⟩ := (Ow.below HO2.out hw4).slI
          cases e2
          obtain ⟨a4', c4', e4, hs4⟩ := ho4.slI
          cases e4
          have hcall := IH.out (p ++ [(j : Int)]) L' G' w4 a2 c2 (plusS rest (nthR ps p.length) (-(j : Int))) a4 c4 (by have := HK.out; simp; omega) hfl (bnext HWR.out hbr (Nat.le_refl _)) hbx4
            (hs2.wider (fun g _ hg => by have := HF2.out g hg; exact ⟨by have := hglt.1; omega, fun hG => by have := (hglt.2 g hG).2; omega⟩)) (by rw [plusS_len]; exact HRL.out) HSM.out
            (hs4.wider (fun g _ hg => by have := hF4 g hg; exact ⟨by have := hglt.1; omega, fun hG => by have := (hglt.2 g hG).2; omega⟩))
          obtain ⟨L2, hL2⟩ : ∃ L2, L2 = capA L (packsTo (maxP ps) (ps.drop (p.length + 1)) (nthR ps p.length) rest p (j + 1)) := ⟨_, rfl⟩
          have hL2' : capA L' ((packs (maxP ps) (ps.drop (p.length + 1)) (plusS rest (nthR ps p.length) (-(j : Int)))).map (p ++ [(j : Int)] ++ ·)) = L2 := by
            rw [hL2, hL'.out, capA_capA, packsTo_succ]; simp
          have hlen2 : (p ++ [(j : Int)]).length = p.length + 1 := by simp
          rw [hlen2, hL2'] at hcall
          have hL2le : L2.length ≤ 2001 := by rw [hL2]; exact capA_len _ _
          have HL2 := Lib.hid hL2
          have HCL := Lib.hid hcall
          have HBR := Lib.hid hbr
          clear hcall hL2 hL2' hlen2 hw4 hbr hbx4 hglt hs2 hs4 ho4 hn4 hF4 hl4 hb4 hl3'
          go_wp2_with fail
          refine HCL.out.mono ?_
          rintro e w5 ⟨rfl, G3, hb5, hc5, hm5⟩
          have HB5 := Lib.hid hb5
          have HR : Hid (Chg (gl :: G) w w5 ∧ ∀ g, g ∈ G3 → g ∈ G ∨ w.heap.size ≤ g) := Lib.hid (by
            have h1 := HCH.out.size
            have h2 := HBR.out.size
            refine ⟨HCH.out.comp ((Chg.ofBelow (F := gl :: G') HBR.out).trans hc5) (fun g hg => ?_), fun g hg => ?_⟩
            · simp at hg ⊢
              rcases hg with h | h
              · exact .inl (.inl h)
              · rcases HM.out g h with h | h
                · exact .inl (.inr h)
                · exact .inr h
            · rcases hm5 g hg with hh | hh
              · exact HM.out g hh
              · exact .inr (by omega))
          clear hb5 hc5 hm5
          go_wp2
          go_roundw
          case rel => exact ⟨j + 1, L2, G3, by omega, by go_num, HL2, hL2le, HB5.out, HR.out.1, HR.out.2⟩
          case measure => simp [intOf]; omega
        · have hfl2 : ¬ (L'.length : Int) ≤ 2000 := by omega
          have hfull : capA L ((packs (maxP ps) (ps.drop p.length) rest).map (p ++ ·)) = L' := by
            obtain ⟨tl, hr⟩ := packsTo_split (maxP ps) (ps.drop (p.length + 1)) (nthR ps p.length) rest p (show j ≤ l + 1 by omega)
            rw [nthR_drop hkb0, ← packsTo_full, HL0.out, Int.toNat_natCast, hr, capA_full tl (by rw [← hL'.out]; exact hfl), ← hL'.out]
          have HFULL := Lib.hid hfull
          clear hfull
          go_wp2_with fail
          refine HT.out.mono ?_
          rintro e w1 ⟨rfl, n, rfl⟩
          have HB6 := Lib.hid (HB'.out.keep (F' := []) (Chg.ofBelow (below_drewN _ wr n)) (by simp))
          go_wp2
          go_end0
          rw [HFULL.out]
          exact ⟨rfl, G', HB6.out, HCH.out.trans (Chg.ofBelow ((below_drewN _ wr n))), HM.out⟩
      · have e : j = l + 1 := by omega
        have hfull : capA L ((packs (maxP ps) (ps.drop p.length) rest).map (p ++ ·)) = L' := by rw [nthR_drop hkb0, ← packsTo_full, HL0.out, Int.toNat_natCast, ← e, ← hL'.out]
        have HFULL := Lib.hid hfull
        clear hfull e
        go_wp2_with fail
        refine HT.out.mono ?_
        rintro e w1 ⟨rfl, n, rfl⟩
        have HB6 := Lib.hid (HB'.out.keep (F' := []) (Chg.ofBelow (below_drewN _ wr n)) (by simp))
        go_wp2
        go_end0
        rw [HFULL.out]
        exact ⟨rfl, G', HB6.out, HCH.out.trans (Chg.ofBelow ((below_drewN _ wr n))), HM.out⟩
set_option maxHeartbeats 4000000 in
set_option maxRecDepth 100000 in
theorem l01Exact_c (w0 : World) (M : Nat) (ab : Option Addr) (cb : Nat) (ps : List (List Int)) (hsl : SlII Any w0 ab ps) (hM : M ≤ 8) (hat : Hid (∀ k, k < ps.length → isBagS (nthR ps k) = true ∧ (nthR ps k).length = M ∧ ¬ sumS (nthR ps k) = 0)) (hK : ps.length ≤ 8) (gl : Nat) (hgl : w0.heap.size ≤ gl) :
    ∀ (r : Nat) (p : List Int) (L : List (List Int)) (G : List Nat) (w : World) (ar : Option Addr) (cr : Nat) (rest : List Int) (ad : Option Addr) (c : Nat), ps.length = p.length + r → L.length ≤ 2000 → Below w0.heap.size w0 w → Box 23 1 w w0.heap.size gl L.length (L.map dI) G → SlI (fun g => g ≠ gl ∧ g ∉ G) w ar rest → rest.length = M → small rest → SlI (fun g => g ≠ gl ∧ g ∉ G) w ad p →
    Calls Try.prog 117 #[.slice ar rest.length cr, .slice ab ps.length cb, .slice ad p.length c, .pointer (some ⟨gl, 0, none⟩)] w (OutPost w w0.heap.size gl (capA L ((packs (exactP ps) (ps.drop p.length) rest).map (p ++ ·))) G 23) := by
  intro r
  induction r with
  | zero =>
    intro p L G w ar cr rest ad c hKr hL hw hb hrest hrl hrs hp
    have ht : ((p.length : Int) == (ps.length : Int)) = true := by simp; omega
    have hdrop : ps.drop p.length = [] := List.drop_eq_nil_of_le (by omega)
    have hpl : p.length ≤ 8 := by omega
    rw [hdrop]
    have HBX := Lib.hid hb
    have HF := Lib.hid (l01Size_c Any ar cr rest w hrest.any)
    cases hP : exactP ps rest
    · have hP' := hP
      have hs0 : (sumS rest == 0) = false := hP
      have hone : capA L ((packs (exactP ps) [] rest).map (p ++ ·)) = L := by simp [packs, hP, capA_nil (show L.length ≤ 2001 by omega)]
      rw [hone]
      clear hone hP hb hdrop hrest hrl hrs hp hKr
      go_enter Try.func117, Try.ntmps117
      go_wp2_with fail
      refine HF.out.mono ?_
      rintro e w1 ⟨rfl, rfl⟩
      go_wp2
      go_end0
      exact ⟨rfl, G, HBX.out, Chg.refl _ _, fun g hg => .inl hg⟩
    · have hP' := hP
      have hs0 : (sumS rest == 0) = true := hP
      have hone : capA L ((packs (exactP ps) [] rest).map (p ++ ·)) = L ++ [p] := by simp [packs, hP, capA_one hL]
      rw [hone]
      obtain ⟨v, hc, hLs⟩ := hb.has
      obtain ⟨hdl, a, cp, rfl⟩ := hLs.val
      have hfr := hb.free
      have hlt := hb.lt
      have HLS := Lib.hid hLs
      have HO := Lib.hid hb.out
      have HLT := Lib.hid hlt
      have hB := hw.size
      have hrun := callFunc_run Try.func148 (by kernel_rfl) rfl
      have hown : ∀ wx, Below w.heap.size w wx → Calls Try.prog 148 #[.slice ad p.length c] wx (RetD wx (dI p)) := fun wx h => (l00OwnN_c Any ad c p wx (hp.any.below h) (by omega)).mono fun e w' h => h.d (by unfold maxLen; omega)
      have HOW := Lib.hid hown
      clear hone hP hb hdrop hrest hrl hrs hp hKr hLs hlt hown
      go_enter Try.func117, Try.ntmps117
      go_wp2_with fail
      refine HF.out.mono ?_
      rintro e w1 ⟨rfl, rfl⟩
      go_wp2
      go_region_law (first
        | (refine step_callD rfl 148 #[.tmp 23] _ rfl hrun #[.slice ad p.length c] (by first | rfl | (simp [Act.eval]; done) | (simp [Act.eval]; rfl)) (dI p) (HOW.out _ (Below.refl _ _).drew) ?_; intro v1 F1 w1 hb1 ho1 hn1 hl1; obtain ⟨a1, c1, rfl⟩ := ho1.val; have f1 := (bcell1 (i := 0) hb1 HLT.out.1).trans hc; have f1b := fun (o : Obj) => (bcell1 (i := 0) (below_alloc w1 o) (by have h3 : w.heap.size ≤ w1.heap.size := hb1.size; have := HLT.out.1; omega)).trans f1)
        | (refine step_lst rfl (.tmp 22) (.tmp 25) 22 rfl tabII rfl (by omega) (by decide) w0.heap.size _ L.length (L.map dI) [dI p] G F1 [.slice a1 p.length c1] rfl (HLS.out.below (((Below.refl _ _).drew.trans hb1).alloc hb1.size _)) w1.heap.size rfl ⟨⟨F1, [], ho1.below (below_alloc _ _), rfl, by simp⟩, rfl, hn1, fun x hx => Nat.le_trans hB (hl1 x hx), fun x hx hg => (by have h9 : w.heap.size ≤ x := hl1 x hx; have := (HLT.out.2 x hg).2; omega), (fun j u hu => by match j, hu with | 0, hu => (simp at hu; subst hu; simp)), by simp [Value.oneCell']⟩ (by omega) (by have h3 : w.heap.size ≤ w1.heap.size := hb1.size; first | omega | (simp; omega)) ?_; intro v2 w2 G2 hN; obtain ⟨_, a2, c2, rfl⟩ := hN.lst.val; have hz1 : w.heap.size ≤ w1.heap.size := hb1.size; have z2 : gl < (w1.alloc (.cells #[.slice a1 p.length c1] 23)).heap.size := (by have := HLT.out.1; first | omega | (simp; omega)); have f2 := (hN.chg.cell (b := gl) z2 (fun hg => HO.out (ob_sub HLS.out _ hg)) 0).trans ((bcell1 (below_alloc _ _) (by have := HLT.out.1; omega)).trans f1); have e2 : w2.frozen? ⟨gl, 0, none⟩ = false := (hN.chg.frozen (b := gl) z2 (fun hg => HO.out (ob_sub HLS.out _ hg)) 0).trans ((((Below.refl _ _).drew.trans hb1).alloc hz1 _).frozen (p := ⟨gl, 0, none⟩) HLT.out.1 |>.trans hfr)))
      all_goals
        have hG : ∀ g, g ∈ G2 → g ∈ G ∨ w.heap.size ≤ g := fun g hg => by
          rcases hN.mem g hg with h | h | h
          · exact .inl h
          · exact .inr (hl1 g h)
          · refine .inr ?_
            have h' : w1.heap.size + 1 ≤ g := by simpa using h
            omega
        have hch : Chg (gl :: G) w w2 := (Chg.ofBelow ((Below.refl _ _).drew.trans hb1)).trans ((Chg.ofBelow (below_alloc _ _)).trans (hN.chg.wider (fun k hk => List.mem_cons_of_mem _ (ob_sub HLS.out _ hk))))
        have hng : gl ∉ G2 := fun h => by
          rcases hG gl h with h | h
          · exact HO.out h
          · have := HLT.out.1; omega
        have HS := Lib.hid (World.cell?_setCell_same w2 ⟨gl, 0, none⟩ (.slice a2 (L.length + 1) c2) f2)
        have HLN := Lib.hid (hN.lst.keep (chg_set w2 ⟨gl, 0, none⟩ (.slice a2 (L.length + 1) c2) [gl] (by simp)) (fun g hg => by simp; rintro rfl; exact hng hg))
        have HE := Lib.hid e2
        have HCH := Lib.hid (hch.trans (chg_set w2 ⟨gl, 0, none⟩ (.slice a2 (L.length + 1) c2) (gl :: G) (by simp)))
        have HG := Lib.hid hG
        have HNG := Lib.hid hng
        clear hN hch hG hng e2 hb1 ho1 hl1 hn1
        go_wp2
        go_end0
        refine ⟨rfl, G2, ?_, HCH.out, HG.out⟩
        exact ⟨by rw [World.frozen?_setCell]; exact HE.out, ⟨_, HS.out, by have := HLN.out; simpa using this⟩, HNG.out⟩
  | succ r ih =>
    intro p L G w ar cr rest ad c hKr hL hw hb hrest hrl hrs hp
    have ht : ((p.length : Int) == (ps.length : Int)) = false := by simp; omega
    have hkb0 : p.length < ps.length := by omega
    have hk2 : (p.length : Int) < ps.length := by omega
    have hat0 := hat.out p.length hkb0
    have hlen : (nthR ps p.length).length = rest.length := by omega
    have htb := timesS_bd hlen hrs
    obtain ⟨l, hl⟩ : ∃ l : Nat, timesS (nthR ps p.length) rest = l := ⟨(timesS (nthR ps p.length) rest).toNat, by omega⟩
    have hl1 : l ≤ 1000 := by omega
    have hr8 : rest.length ≤ 8 := by omega
    have hpl : p.length ≤ 8 := by omega
    obtain ⟨ap, cp, g00, hs0⟩ := hsl.cell p.length hkb0
    have i0 := hsl.ix tabII.under tabII.size cb
    have HP0 := Lib.hid (And.intro g00 hs0)
    have HAT := Lib.hid hat0
    have HLEN := Lib.hid hlen
    have HRS := Lib.hid hrs
    have HL0 := Lib.hid hl
    have HW := Lib.hid hw
    have HK := Lib.hid hKr
    have HREST := Lib.hid hrest
    have HRL := Lib.hid hrl
    have HBX := Lib.hid hb
    have HPP := Lib.hid hp
    have IH := Lib.hid ih
    clear hKr hw hb hrest hrl hrs hp ih hat0 hlen htb hl g00 hs0
    go_enter Try.func117, Try.ntmps117
    go_wp2
    go_loopw [9] (fun i0 wr => ∃ (j : Nat) (L' : List (List Int)) (G' : List Nat), j ≤ l + 1 ∧ i0 = .int .i64 j ∧ Hid (L' = capA L (packsTo (exactP ps) (ps.drop (p.length + 1)) (nthR ps p.length) rest p j)) ∧ L'.length ≤ 2001 ∧ Box 23 1 wr w0.heap.size gl L'.length (L'.map dI) G' ∧ Chg (gl :: G) w wr ∧ (∀ g, g ∈ G' → g ∈ G ∨ w.heap.size ≤ g)) (fun i0 _ => l + 1 - (intOf i0).toNat)
    case atStart => exact ⟨0, L, G, by omega, rfl, Lib.hid (by simp [packsTo, capA_nil (show L.length ≤ 2001 by omega)]), by omega, HBX.out, Chg.refl _ _, fun g hg => .inl hg⟩
    case round =>
      obtain ⟨j, L', G', hj, rfl, hL', hn', hb', hc', hm'⟩ := hrel
      have hwr : Below w0.heap.size w0 wr := HW.out.trans (hc'.below HW.out.size (fun g hg => by
        simp at hg
        rcases hg with rfl | hg
        · exact hgl
        · exact (HBX.out.lt.2 g hg).1))
      have hrw := HREST.out.keep hc' (fun g hg => by simp; exact hg)
      have hpw := HPP.out.keep hc' (fun g hg => by simp; exact hg)
      have g0 := (hwr.cell (World.block_lt_of_cell? w0 _ HP0.out.1)).trans HP0.out.1
      have htm := l01Times_c Any ap ar cp cr _ _ wr (HP0.out.2.below hwr) hrw.any (Nat.le_of_eq HLEN.out) (fun j hj => isBagS_small HAT.out.1 j hj) (fun j hj => HRS.out j (by have := HLEN.out; omega))
      rw [best_times HAT.out.1 HAT.out.2.2, HL0.out] at htm
      have HT := Lib.hid htm
      obtain ⟨ao, co, gout⟩ := hb'.rd
      have HB' := Lib.hid hb'
      have HCH := Lib.hid hc'
      have HM := Lib.hid hm'
      have HWR := Lib.hid hwr
      have HRW := Lib.hid hrw
      have HPW := Lib.hid hpw
      clear hb' hc' hm' hwr hrw hpw htm
      by_cases hlt : j ≤ l
      · by_cases hfl : L'.length ≤ 2000
        · have hwj : IntKind.i64.wrap (-(j : Int)) = -(j : Int) := by rw [IntKind.wrap_i64]; omega
          have HPL : Hid (∀ n, Calls Try.prog 145 #[.slice ar rest.length cr, .slice ap (nthR ps p.length).length cp, .int .i64 (-(j : Int))] (wr.drewN n) (RetD (wr.drewN n) (dI (plusS rest (nthR ps p.length) (-(j : Int)))))) :=
            Lib.hid (fun n => l01Plus_c Any ar ap cr cp _ _ _ _ (HRW.out.any.below (below_drewN _ wr n)) ((HP0.out.2.below HWR.out).below (below_drewN _ wr n)) (by have := HLEN.out; omega) (by omega))
          have HSM : Hid (small (plusS rest (nthR ps p.length) (-(j : Int)))) := Lib.hid (take_small HLEN.out HRS.out (isBagS_small HAT.out.1) (by omega) (by have := HL0.out; omega))
          go_wp2_with fail
          refine HT.out.mono ?_
          rintro e w1 ⟨rfl, n, rfl⟩
          go_wp2_with fail
          refine (HPL.out n).mono ?_
          rintro e w2 ⟨v2, F2, rfl, hb2, ho2, hn2, hF2⟩
          have hb2' : Below wr.heap.size wr w2 := (below_drewN _ wr n).trans hb2
          have hz2 := hb2'.size
          obtain ⟨a2, c2, rfl⟩ := ho2.val
          have HO2 := Lib.hid ho2
          have HF2 : Hid (∀ g, g ∈ F2 → wr.heap.size ≤ g) := Lib.hid hF2
          have HB2 := Lib.hid hb2'
          clear ho2 hn2 hF2 hb2 hb2' g0 gout
          go_wp2_with fail
          refine (l00OwnN_c Any ad c p w2 (HPW.out.any.below HB2.out) (by omega)).mono ?_
          rintro e w3 ⟨v3, rfl, hb3, hl3⟩
          have hz3 := hb3.size
          have hl3' := hl3.below (below_alloc w3 (.cells #[.int .i64 j] 2))
          have HB3 := Lib.hid hb3
          clear hb3 hl3
          go_wp2_with (at_builtin; refine app_one rfl _ _ 23 rfl tabI rfl (by decide) w2.heap.size _ _ rfl hl3' w3.heap.size (.int .i64 j) rfl rfl ?c1 ?c2 ?c3 ?_)
          case c1 => simp [go_sem]
          case c2 => simp; omega
          case c3 => simp; omega
          intro v4 w4 hl4 hb4
          obtain ⟨a4, c4, F4, rfl, ho4, hn4, hF4⟩ := (show Bld 2 w4 w2.heap.size v4 ((p ++ [(j : Int)]).map (.int .i64)) from (by simpa using hl4)).ow (by simp; unfold maxLen; omega)
          have hw4 : Below w2.heap.size w2 w4 := (HB3.out.alloc hz3 _).trans hb4
          have hbr : Below wr.heap.size wr w4 := bnext HB2.out hw4 (Nat.le_refl _)
          have hbx4 := HB'.out.keep (F' := []) (Chg.ofBelow hbr) (by simp)
          have hglt := HB'.out.lt
          obtain ⟨a2', c2', e2, hs2⟩ := (Ow.below HO2.out hw4).slI
          cases e2
          obtain ⟨a4', c4', e4, hs4⟩ := ho4.slI
          cases e4
          have hcall := IH.out (p ++ [(j : Int)]) L' G' w4 a2 c2 (plusS rest (nthR ps p.length) (-(j : Int))) a4 c4 (by have := HK.out; simp; omega) hfl (bnext HWR.out hbr (Nat.le_refl _)) hbx4
            (hs2.wider (fun g _ hg => by have := HF2.out g hg; exact ⟨by have := hglt.1; omega, fun hG => by have := (hglt.2 g hG).2; omega⟩)) (by rw [plusS_len]; exact HRL.out) HSM.out
            (hs4.wider (fun g _ hg => by have := hF4 g hg; exact ⟨by have := hglt.1; omega, fun hG => by have := (hglt.2 g hG).2; omega⟩))
          obtain ⟨L2, hL2⟩ : ∃ L2, L2 = capA L (packsTo (exactP ps) (ps.drop (p.length + 1)) (nthR ps p.length) rest p (j + 1)) := ⟨_, rfl⟩
          have hL2' : capA L' ((packs (exactP ps) (ps.drop (p.length + 1)) (plusS rest (nthR ps p.length) (-(j : Int)))).map (p ++ [(j : Int)] ++ ·)) = L2 := by
            rw [hL2, hL'.out, capA_capA, packsTo_succ]; simp
          have hlen2 : (p ++ [(j : Int)]).length = p.length + 1 := by simp
          rw [hlen2, hL2'] at hcall
          have hL2le : L2.length ≤ 2001 := by rw [hL2]; exact capA_len _ _
          have HL2 := Lib.hid hL2
          have HCL := Lib.hid hcall
          have HBR := Lib.hid hbr
          clear hcall hL2 hL2' hlen2 hw4 hbr hbx4 hglt hs2 hs4 ho4 hn4 hF4 hl4 hb4 hl3'
          go_wp2_with fail
          refine HCL.out.mono ?_
          rintro e w5 ⟨rfl, G3, hb5, hc5, hm5⟩
          have HB5 := Lib.hid hb5
          have HR : Hid (Chg (gl :: G) w w5 ∧ ∀ g, g ∈ G3 → g ∈ G ∨ w.heap.size ≤ g) := Lib.hid (by
            have h1 := HCH.out.size
            have h2 := HBR.out.size
            refine ⟨HCH.out.comp ((Chg.ofBelow (F := gl :: G') HBR.out).trans hc5) (fun g hg => ?_), fun g hg => ?_⟩
            · simp at hg ⊢
              rcases hg with h | h
              · exact .inl (.inl h)
              · rcases HM.out g h with h | h
                · exact .inl (.inr h)
                · exact .inr h
            · rcases hm5 g hg with hh | hh
              · exact HM.out g hh
              · exact .inr (by omega))
          clear hb5 hc5 hm5
          go_wp2
          go_roundw
          case rel => exact ⟨j + 1, L2, G3, by omega, by go_num, HL2, hL2le, HB5.out, HR.out.1, HR.out.2⟩
          case measure => simp [intOf]; omega
        · have hfl2 : ¬ (L'.length : Int) ≤ 2000 := by omega
          have hfull : capA L ((packs (exactP ps) (ps.drop p.length) rest).map (p ++ ·)) = L' := by
            obtain ⟨tl, hr⟩ := packsTo_split (exactP ps) (ps.drop (p.length + 1)) (nthR ps p.length) rest p (show j ≤ l + 1 by omega)
            rw [nthR_drop hkb0, ← packsTo_full, HL0.out, Int.toNat_natCast, hr, capA_full tl (by rw [← hL'.out]; exact hfl), ← hL'.out]
          have HFULL := Lib.hid hfull
          clear hfull
          go_wp2_with fail
          refine HT.out.mono ?_
          rintro e w1 ⟨rfl, n, rfl⟩
          have HB6 := Lib.hid (HB'.out.keep (F' := []) (Chg.ofBelow (below_drewN _ wr n)) (by simp))
          go_wp2
          go_end0
          rw [HFULL.out]
          exact ⟨rfl, G', HB6.out, HCH.out.trans (Chg.ofBelow ((below_drewN _ wr n))), HM.out⟩
      · have e : j = l + 1 := by omega
        have hfull : capA L ((packs (exactP ps) (ps.drop p.length) rest).map (p ++ ·)) = L' := by rw [nthR_drop hkb0, ← packsTo_full, HL0.out, Int.toNat_natCast, ← e, ← hL'.out]
        have HFULL := Lib.hid hfull
        clear hfull e
        go_wp2_with fail
        refine HT.out.mono ?_
        rintro e w1 ⟨rfl, n, rfl⟩
        have HB6 := Lib.hid (HB'.out.keep (F' := []) (Chg.ofBelow (below_drewN _ wr n)) (by simp))
        go_wp2
        go_end0
        rw [HFULL.out]
        exact ⟨rfl, G', HB6.out, HCH.out.trans (Chg.ofBelow ((below_drewN _ wr n))), HM.out⟩
end Go.Proofs.Ytdcpdipakglnnaa
