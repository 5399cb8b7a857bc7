/- All bags of a size: the reference's functions. -/
import Derived.Test.YthfkhallnbcopaaBS
namespace Go.Proofs.Ythfkhallnbcopaa
open Go.RowKit

theorem capA_over {L : List (List Int)} (h : 2000 < L.length) (h2 : L.length ≤ 2001) (x : List (List Int)) : capA L x = L := by
  unfold capA; rw [List.take_append_of_le_length (by omega), List.take_of_length_le (by omega)]
theorem Bld.lower {E : TypeId} {w : World} {B B' : Nat} {v : Value} {vs : List Value} (h : Bld E w B v vs) (hB : B' ≤ B) : Bld E w B' v vs := by
  obtain ⟨h0, h2⟩ := h
  refine ⟨h0, ?_⟩
  rcases h2 with h2 | ⟨g, cap, cur, e, h1, h3⟩
  · exact .inl h2
  · exact .inr ⟨g, cap, cur, e, Nat.le_trans hB h1, h3⟩
theorem SlI.chg {w w' : World} {ad : Addr} {xs : List Int} {F : List Nat} (h : SlI Any w (some ad) xs) (hc : Chg F w w') (hn : ad.block ∉ F) : SlI Any w' (some ad) xs :=
  ⟨h.len, h.ptr, fun i hi => by
    have h1 := h.cell i hi
    have hlt := World.block_lt_of_cell? w _ h1
    simp only [adr, blk, ofs] at h1 hlt ⊢
    rw [hc.cell hlt hn]; exact h1⟩
/-- What a function that adds lists to those at gl leaves. -/
def OutPost (w : World) (B gl : Nat) (L' : List (List Int)) (G : List Nat) (E : TypeId) (e : Ending) (w' : World) : Prop :=
  e = .returned (.tuple #[]) ∧ ∃ G', Box E 1 w' B gl L'.length (L'.map dI) G' ∧ Chg (gl :: G) w w' ∧ ∀ g, g ∈ G' → g ∈ G ∨ w.heap.size ≤ g
set_option maxHeartbeats 4000000 in
set_option maxRecDepth 100000 in
theorem ofSize_c (B gl : Nat) (K : Nat) (hK : K ≤ 8) :
    ∀ (r : Nat) (p : List Int) (l : Nat) (ad : Addr) (c : Nat) (L : List (List Int)) (G : List Nat) (w : World) (lv : Int), lv = l → K = p.length + r + 1 → l ≤ 1000 → L.length ≤ 2001 → SlI Any w (some ad) p → ad.block ∉ gl :: G → Box 22 1 w B gl L.length (L.map dI) G → B ≤ w.heap.size →
    Calls Try.prog 82 #[.slice (some ad) p.length c, .int .i64 K, .int .i64 lv, .pointer (some ⟨gl, 0, none⟩)] w (OutPost w B gl (capA L ((ofSz r l).map (p ++ ·))) G 22) := by
  intro r
  induction r with
  | zero =>
    intro p l ad c L G w lv hlv hKp hl hL hp _ hb hB
    subst hlv
    obtain ⟨v, hc, hLs⟩ := hb.has
    obtain ⟨hdl, a, cp, rfl⟩ := hLs.val
    have hfr := hb.free
    have hlt := hb.lt
    have HLS := Lib.hid hLs
    have HO := Lib.hid hb.out
    have HLT := Lib.hid hlt
    have HBX := Lib.hid hb
    have hpl : p.length ≤ 8 := by omega
    by_cases hq : 2000 < L.length
    · rw [capA_over hq hL]
      clear hb hLs hlt
      go_enter Try.func82, Try.ntmps82
      go_wp2
      go_end0
      exact ⟨rfl, G, HBX.out, Chg.refl _ _, fun g hg => .inl hg⟩
    · have hq' : L.length ≤ 2000 := by omega
      have ht : ((p.length : Int) + 1 == (K : Int)) = true := by simp; omega
      have hrun := callFunc_run Try.func117 (by kernel_rfl) rfl
      have hown := fun (wx : World) (h : Below w.heap.size w wx) => l00OwnB_c Any (some ad) c p wx (hp.below h) ⟨ad, rfl⟩ (by omega)
      have HOW := Lib.hid hown
      have f0b := fun (o : Obj) => (bcell1 (i := 0) (below_alloc w o) hlt.1).trans hc
      have HQ := Lib.hid hKp
      clear hb hLs hlt hown hp hKp
      go_enter Try.func82, Try.ntmps82
      go_wp2
      go_region_law (first
        | (refine step_callB rfl 117 #[.tmp 23] _ rfl hrun #[.slice (some ad) p.length c] (by first | rfl | (simp [Act.eval]; done) | (simp [Act.eval]; rfl)) p (HOW.out _ (by repeat (first | exact Below.refl _ _ | refine Below.drew ?_ | refine Below.alloc ?_ (by simp) _))) ?_; intro v1 w1 hb1 hl1; have hx1 : Below w.heap.size w w1 := (Below.trans (by repeat (first | exact Below.refl _ _ | refine Below.drew ?_ | refine Below.alloc ?_ (by simp) _)) (hb1.mono (by simp))); have f1 := (bcell1 (i := 0) hx1 HLT.out.1).trans hc; have hz1 : w.heap.size ≤ w1.heap.size := hx1.size; replace hl1 := hl1.lower (B' := w.heap.size) (by simp); have f1b := fun (o : Obj) => (bcell1 (i := 0) (below_alloc w1 o) (by have := HLT.out.1; omega)).trans f1)
        | (refine step_app rfl (.tmp 24) (.tmp 26) 22 rfl tabI rfl (by decide) w.heap.size _ _ rfl (hl1.below (below_alloc _ _)) w1.heap.size _ rfl rfl (by simp; rfl) (by simp; omega) (by simp; omega) ?_; intro v2 w2 hl2 hb2; have hw2 : Below w.heap.size w w2 := (hx1.alloc hz1 _).trans hb2; have f2 := (bcell1 (i := 0) hw2 HLT.out.1).trans hc; have hz2 : w.heap.size ≤ w2.heap.size := hw2.size; have f2b := fun (o : Obj) => (bcell1 (i := 0) (below_alloc w2 o) (by have := HLT.out.1; omega)).trans f2; obtain ⟨a2, c2, F2, rfl, ho2, hn2, hF2⟩ := (show Bld 2 w2 w.heap.size v2 ((p ++ [(l : Int)]).map (.int .i64)) from (by simpa using hl2)).ow (by simp; unfold maxLen; omega); simp only [List.length_append, List.length_cons, List.length_nil, Nat.zero_add] at ho2)
        | (refine step_app rfl (.tmp 24) (.tmp 26) 22 rfl tabI rfl (by decide) w.heap.size _ _ rfl hl1 w.heap.size (.int .i64 l) rfl rfl (by rw [bcell1 hb1 (by simp)]; simp [go_sem]) (by simp; omega) hz1 ?_; intro v2 w2 hl2 hb2; have hw2 : Below w.heap.size w w2 := hx1.trans hb2; have f2 := (bcell1 (i := 0) hw2 HLT.out.1).trans hc; have hz2 : w.heap.size ≤ w2.heap.size := hw2.size; have f2b := fun (o : Obj) => (bcell1 (i := 0) (below_alloc w2 o) (by have := HLT.out.1; omega)).trans f2; obtain ⟨a2, c2, F2, rfl, ho2, hn2, hF2⟩ := (show Bld 2 w2 w.heap.size v2 ((p ++ [(l : Int)]).map (.int .i64)) from (by simpa using hl2)).ow (by simp; unfold maxLen; omega); simp only [List.length_append, List.length_cons, List.length_nil, Nat.zero_add] at ho2)
        | (refine step_lst rfl (.tmp 22) (.tmp 28) 27 rfl tabII rfl (by omega) (by decide) B _ L.length (L.map dI) [dI (p ++ [(l : Int)])] G F2 [.slice a2 (p.length + 1) c2] rfl (HLS.out.below (hw2.alloc hz2 _)) w2.heap.size rfl ⟨⟨F2, [], ho2.below (below_alloc _ _), rfl, by simp⟩, rfl, hn2, fun x hx => Nat.le_trans hB (hF2 x hx), fun x hx hg => (by have h9 : w.heap.size ≤ x := hF2 x hx; have := (HLT.out.2 x hg).2; omega), (fun j u hu => by match j, hu with | 0, hu => (simp at hu; subst hu; simp)), by simp [Value.oneCell']⟩ (by omega) (by first | omega | (simp; omega)) ?_; intro v3 w3 G3 hN; obtain ⟨_, a3, c3, rfl⟩ := hN.lst.val; have f3 := (hN.chg.cell (b := gl) (by have := HLT.out.1; first | omega | (simp; omega)) (fun hg => HO.out (ob_sub HLS.out _ hg)) 0).trans (f2b _); have e3 : w3.frozen? ⟨gl, 0, none⟩ = false := (hN.chg.frozen (b := gl) (by have := HLT.out.1; first | omega | (simp; omega)) (fun hg => HO.out (ob_sub HLS.out _ hg)) 0).trans ((hw2.alloc hz2 _).frozen (p := ⟨gl, 0, none⟩) HLT.out.1 |>.trans hfr)))
      all_goals
        have hL1 : capA L ((ofSz 0 l).map (p ++ ·)) = L ++ [p ++ [(l : Int)]] := by simp [ofSz, capA_one hq']
        have hG : ∀ g, g ∈ G3 → g ∈ G ∨ w.heap.size ≤ g := fun g hg => by
          rcases hN.mem g hg with h | h | h
          · exact .inl h
          · exact .inr (hF2 g h)
          · refine .inr ?_
            have h' : w2.heap.size + 1 ≤ g := by simpa using h
            omega
        have hch : Chg (gl :: G) w w3 := (Chg.ofBelow hw2).trans ((Chg.ofBelow (below_alloc w2 _)).trans (hN.chg.wider (fun k hk => List.mem_cons_of_mem _ (ob_sub HLS.out _ hk))))
        have hng : gl ∉ G3 := fun h => by
          rcases hG gl h with h | h
          · exact HO.out h
          · have := HLT.out.1; omega
        have HS := Lib.hid (World.cell?_setCell_same w3 ⟨gl, 0, none⟩ (.slice a3 (L.length + 1) c3) f3)
        have HLN := Lib.hid (hN.lst.keep (chg_set w3 ⟨gl, 0, none⟩ (.slice a3 (L.length + 1) c3) [gl] (by simp)) (fun g hg => by simp; rintro rfl; exact hng hg))
        have HE := Lib.hid e3
        have HCH := Lib.hid (hch.trans (chg_set w3 ⟨gl, 0, none⟩ (.slice a3 (L.length + 1) c3) (gl :: G) (by simp)))
        have HG := Lib.hid hG
        have HNG := Lib.hid hng
        have HL1 := Lib.hid hL1
        clear hN hch hG hng e3 hb1 hb2 hx1 hw2 hl1 hl2 ho2 hn2 hF2 hL1
        go_wp2
        go_end0
        refine ⟨rfl, G3, ?_, HCH.out, HG.out⟩
        rw [HL1.out]
        exact ⟨by rw [World.frozen?_setCell]; exact HE.out, ⟨_, HS.out, by have := HLN.out; simpa using this⟩, HNG.out⟩
  | succ r ih =>
    intro p l ad c L G w lv hlv hKp hl hL hp hpn hb hB
    subst hlv
    obtain ⟨v, hc, hLs⟩ := hb.has
    obtain ⟨hdl, a, cp, rfl⟩ := hLs.val
    have HBX := Lib.hid hb
    have hpl : p.length ≤ 8 := by omega
    by_cases hq : 2000 < L.length
    · rw [capA_over hq hL]
      clear hb hLs
      go_enter Try.func82, Try.ntmps82
      go_wp2
      go_end0
      exact ⟨rfl, G, HBX.out, Chg.refl _ _, fun g hg => .inl hg⟩
    · have hq' : L.length ≤ 2000 := by omega
      have ht : ((p.length : Int) + 1 == (K : Int)) = false := by simp; omega
      have HP := Lib.hid hp
      have HPN := Lib.hid hpn
      have IH := Lib.hid ih
      have HQ := Lib.hid hKp
      clear hb hLs hp hKp ih hpn
      go_enter Try.func82, Try.ntmps82
      go_wp2
      go_loopw [8] (fun i0 wr => ∃ (j : Nat) (L' : List (List Int)) (G' : List Nat), j ≤ l + 1 ∧ i0 = .int .i64 j ∧ Hid (L' = capA L (ofSzTo p r l j)) ∧ L'.length ≤ 2001 ∧ Box 22 1 wr B gl L'.length (L'.map dI) G' ∧ Chg (gl :: G) w wr ∧ (∀ g, g ∈ G' → g ∈ G ∨ w.heap.size ≤ g)) (fun i0 _ => l + 1 - (intOf i0).toNat)
      case atStart => exact ⟨0, L, G, by omega, rfl, Lib.hid (by simp [ofSzTo, capA_nil hL]), hL, HBX.out, Chg.refl _ _, fun g hg => .inl hg⟩
      case round =>
        obtain ⟨j, L', G', hj, rfl, hL', hn', hb', hc', hm'⟩ := hrel
        have HCH := Lib.hid hc'
        have HM := Lib.hid hm'
        have HBX' := Lib.hid hb'
        have hsz := hc'.size
        clear hc' hm' hb' hc
        by_cases hlt : j ≤ l
        · go_wp2_with fail
          refine (l00OwnB_c Any (some ad) c p wr (HP.out.chg HCH.out HPN.out) ⟨ad, rfl⟩ (by omega)).mono ?_
          rintro e w1 ⟨v1, rfl, hb1, hl1⟩
          have hz1 := hb1.size
          have hl1' := hl1.below (below_alloc w1 (.cells #[.int .i64 j] 2))
          have HB1 := Lib.hid hb1
          clear hb1 hl1
          go_wp2_with (at_builtin; refine app_one rfl _ _ 22 rfl tabI rfl (by decide) wr.heap.size _ _ rfl hl1' w1.heap.size (.int .i64 j) rfl rfl ?c1 ?c2 ?c3 ?_)
          case c1 => simp
          case c2 => simp; omega
          case c3 => simp; omega
          intro v2 w2 hl2 hb2
          obtain ⟨a2, c2, F2, rfl, ho2, hn2, hF2⟩ := (show Bld 2 w2 wr.heap.size v2 ((p ++ [(j : Int)]).map (.int .i64)) from (by simpa using hl2)).ow (by simp; unfold maxLen; omega)
          have hw2 : Below wr.heap.size wr w2 := (HB1.out.alloc hz1 _).trans hb2
          obtain ⟨ad2, rfl, had2⟩ : ∃ ad2, a2 = some ad2 ∧ wr.heap.size ≤ ad2.block := by
            have ho := ho2.own
            rcases ho.foot with ⟨h, _⟩ | ⟨_, ⟨g, o, rfl⟩, hF⟩
            · simp at h
            · exact ⟨_, rfl, hF2 _ (by rw [hF]; simp [blk])⟩
          have hbx2 := HBX'.out.keep (F' := []) (Chg.ofBelow hw2) (by simp)
          have hglt := HBX'.out.lt
          have hcall := IH.out (p ++ [(j : Int)]) (l - j) ad2 c2 L' G' w2 ((l : Int) - j) (by omega) (by have := HQ.out; simp; omega) (by omega) hn' ho2.arg (by simp; exact ⟨fun e => by have := hglt.1; omega, fun hg => by have := (hglt.2 _ hg).2; omega⟩) hbx2 (by have := hw2.size; omega)
          have hL2 : capA L' ((ofSz r (l - j)).map (p ++ [(j : Int)] ++ ·)) = capA L (ofSzTo p r l (j + 1)) := by
            rw [hL'.out, capA_capA, ofSzTo_succ]; simp
          rw [hL2] at hcall
          obtain ⟨L2, hL2'⟩ : ∃ L2, L2 = capA L (ofSzTo p r l (j + 1)) := ⟨_, rfl⟩
          rw [← hL2'] at hcall
          have HL2 := Lib.hid hL2'
          have hlen2 : (p ++ [(j : Int)]).length = p.length + 1 := by simp
          rw [hlen2] at hcall
          have HCL := Lib.hid hcall
          have HW2 := Lib.hid hw2
          clear hcall hL2 hL2' hw2 hl1' hl2 hb2 ho2 hbx2 hlen2
          go_wp2_with fail
          refine HCL.out.mono ?_
          rintro e w3 ⟨rfl, G3, hb3, hc3, hm3⟩
          have HB3 := Lib.hid hb3
          have HR : Hid (Chg (gl :: G) w w3 ∧ ∀ g, g ∈ G3 → g ∈ G ∨ w.heap.size ≤ g) := Lib.hid (by
            have hw := HCH.out.size
            have hw2 := HW2.out.size
            refine ⟨?_, fun g hg => ?_⟩
            · have h12 : Chg (gl :: G) w w2 := HCH.out.trans (Chg.ofBelow HW2.out)
              refine ⟨hc3.os.trans h12.os, hc3.tape.trans h12.tape, hc3.output.trans h12.output, Nat.le_trans h12.size hc3.size, fun q hq hn => ?_⟩
              rw [hc3.block q (by omega) (by
                simp at hn ⊢
                refine ⟨hn.1, fun hg => ?_⟩
                rcases HM.out q hg with hh | hh
                · exact hn.2 hh
                · omega)]
              exact h12.block q hq hn
            · rcases hm3 g hg with hh | hh
              · exact HM.out g hh
              · exact .inr (by omega))
          have hL2le : L2.length ≤ 2001 := by rw [HL2.out]; exact capA_len _ _
          clear hb3 hc3 hm3
          go_wp2
          go_roundw
          case rel => exact ⟨j + 1, L2, G3, by omega, by go_num, HL2, hL2le, HB3.out, HR.out.1, HR.out.2⟩
          case measure => simp [intOf]; omega
        · go_wp2
          go_end0
          have e : j = l + 1 := by omega
          have hfull : capA L ((ofSz (r + 1) l).map (p ++ ·)) = L' := by rw [← ofSzTo_full, ← e, ← hL'.out]
          rw [hfull]
          exact ⟨rfl, G', HBX'.out, HCH.out, HM.out⟩
set_option maxHeartbeats 2000000 in
theorem specBagsOfSize_d (kinds size : Int) (w : World) :
    Calls Try.prog 19 #[.int .i64 kinds, .int .i64 size] w (RetLists w (bagsOfSizeS kinds size)) := by
  cases h1 : inRg kinds 1 8
  · have e : bagsOfSizeS kinds size = ([], 2) := by simp [bagsOfSizeS, h1]
    rw [e]
    have H1 := Lib.hid h1
    clear h1 e
    go_enter Try.func19, Try.ntmps19
    go_wp2_with fail
    refine (l00In_c _ _ _ _).mono ?_
    rintro e w' ⟨rfl, rfl⟩
    rw [H1.out]
    go_wp2
    go_ret2
    exact RetDC.none _ _ _ (below_alloc _ _)
  · cases h2 : inRg size 0 1000
    · have e : bagsOfSizeS kinds size = ([], 2) := by simp [bagsOfSizeS, h2]
      rw [e]
      have H1 := Lib.hid h1
      have H2 := Lib.hid h2
      clear h1 h2 e
      go_enter Try.func19, Try.ntmps19
      go_wp2_with fail
      refine (l00In_c _ _ _ _).mono ?_
      rintro e w' ⟨rfl, rfl⟩
      rw [H1.out]
      go_wp2_with fail
      refine (l00In_c _ _ _ _).mono ?_
      rintro e w' ⟨rfl, rfl⟩
      rw [H2.out]
      go_wp2
      go_ret2
      exact RetDC.none _ _ _ (below_alloc _ _)
    · have b1 : 1 ≤ kinds ∧ kinds ≤ 8 := by simpa [inRg] using h1
      have b2 : 0 ≤ size ∧ size ≤ 1000 := by simpa [inRg] using h2
      obtain ⟨K, rfl⟩ : ∃ K : Nat, kinds = K := ⟨kinds.toNat, by omega⟩
      obtain ⟨l, rfl⟩ : ∃ l : Nat, size = l := ⟨size.toNat, by omega⟩
      have e : bagsOfSizeS K l = lim (ofSz (K - 1) l) := by simp [bagsOfSizeS, h1, h2]
      rw [e]
      have H1 := Lib.hid h1
      have H2 := Lib.hid h2
      clear h1 h2 e
      go_enter Try.func19, Try.ntmps19
      go_wp2_with fail
      refine (l00In_c _ _ _ _).mono ?_
      rintro e w' ⟨rfl, rfl⟩
      rw [H1.out]
      go_wp2_with fail
      refine (l00In_c _ _ _ _).mono ?_
      rintro e w' ⟨rfl, rfl⟩
      rw [H2.out]
      have hbx : Box 22 1 (((w.alloc (.cells #[] 22)).alloc (.cells #[.slice (some ⟨w.heap.size, 0, none⟩) 0 0] 27)).alloc (.cells #[] 2)) w.heap.size (w.heap.size + 1) ([] : List (List Int)).length (([] : List (List Int)).map dI) [w.heap.size] :=
        ⟨by simp [go_sem], ⟨_, by simp [go_sem], ((Lst.made 22 1 w w.heap.size (Nat.le_refl _)).below (below_alloc _ _)).below (below_alloc _ _)⟩, by simp⟩
      have hnil : SlI Any (((w.alloc (.cells #[] 22)).alloc (.cells #[.slice (some ⟨w.heap.size, 0, none⟩) 0 0] 27)).alloc (.cells #[] 2)) (some ⟨w.heap.size + 1 + 1, 0, none⟩) [] := ⟨by simp, fun h => absurd h (by simp), fun i hi => absurd hi (by simp)⟩
      have hcall := ofSize_c w.heap.size (w.heap.size + 1) K (by omega) (K - 1) [] l ⟨w.heap.size + 1 + 1, 0, none⟩ 0 [] [w.heap.size] _ l rfl (by simp <;> omega) (by omega) (by simp) hnil (by simp <;> omega) hbx (by simp <;> omega)
      have hnm : capA [] ((ofSz (K - 1) l).map (([] : List Int) ++ ·)) = (ofSz (K - 1) l).take 2001 := by simp [capA]
      rw [hnm] at hcall
      have HCL := Lib.hid hcall
      have hb0 : Below w.heap.size w (((w.alloc (.cells #[] 22)).alloc (.cells #[.slice (some ⟨w.heap.size, 0, none⟩) 0 0] 27)).alloc (.cells #[] 2)) := by repeat (first | exact Below.refl _ _ | refine Below.alloc ?_ (by simp <;> omega) _)
      have HB0 := Lib.hid hb0
      clear hbx hnil hcall hnm hb0
      go_wp2_with fail
      refine HCL.out.mono ?_
      rintro e w1 ⟨rfl, G', hb', hc', hm'⟩
      have hb1 : Below w.heap.size w w1 := HB0.out.trans (hc'.below (by simp <;> omega) (fun g hg => by simp at hg; rcases hg with rfl | rfl <;> omega))
      obtain ⟨v, hc, hL⟩ := hb'.has
      obtain ⟨G2, hO, hN, hS⟩ := hL.ow (by omega) (by simp; unfold maxLen; omega)
      have hlt := hb'.lt
      obtain ⟨_, a, cp, rfl⟩ := hL.val
      have HRD : Hid (RetDC w (dII ((ofSz (K - 1) l).take 2001)) 0 (.returned (.tuple #[.slice a ((ofSz (K - 1) l).take 2001).length cp, .int .i64 0])) w1) := Lib.hid ⟨_, G2, rfl, hb1, hO, hN, fun g hg => (hlt.2 g (hS g hg)).1⟩
      have HB1 := Lib.hid hb1
      have HLT := Lib.hid (lim_take (ofSz (K - 1) l))
      have hlen : ((ofSz (K - 1) l).take 2001).length ≤ 2001 := by simp; omega
      obtain ⟨L2, hL2⟩ : ∃ L2, L2 = (ofSz (K - 1) l).take 2001 := ⟨_, rfl⟩
      rw [← hL2] at HRD HLT hc hlen
      clear hb' hc' hm' hb1 hL hO hN hS hlt hL2
      by_cases hq : L2.length ≤ 2000
      · have HF : Hid (RetLists w (lim (ofSz (K - 1) l)) (.returned (.tuple #[.slice a L2.length cp, .int .i64 0])) w1) := Lib.hid (by rw [← HLT.out, lim, if_pos hq]; exact HRD.out)
        go_wp2
        go_ret2
        exact HF.out
      · have HF : Hid (∀ a c w', Below w.heap.size w w' → RetLists w (lim (ofSz (K - 1) l)) (.returned (.tuple #[.slice a 0 c, .int .i64 3])) w') := Lib.hid (fun a c w' h => by rw [← HLT.out, lim, if_neg hq]; exact RetDC.none _ _ _ h)
        go_wp2
        go_ret2
        exact HF.out _ _ _ (HB1.out.alloc HB1.out.size _)
end Go.Proofs.Ythfkhallnbcopaa
