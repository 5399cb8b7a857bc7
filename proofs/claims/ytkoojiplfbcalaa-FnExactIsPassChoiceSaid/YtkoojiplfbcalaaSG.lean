/- The bags that counts leave: the program's function. -/
import Derived.Test.YtkoojiplfbcalaaSF
namespace Go.Proofs.Ytkoojiplfbcalaa
open Go.RowKit

theorem SlII.vals {w : World} {ad : Addr} {xss : List (List Int)} (h : SlII Any w (some ad) xss) (h0 : 0 < xss.length) :
    ∃ vs : List Value, vs.length = xss.length ∧ (∀ j u, vs[j]? = some u → w.cell? (ad.add j) = some u) ∧ (∀ u ∈ vs, u.oneCell' = true) ∧ ∀ i, i < xss.length → ∃ a cp, vs[i]? = some (.slice a (nthR xss i).length cp) ∧ SlI Any w a (nthR xss i) := by
  obtain ⟨_, g, o, e⟩ := h.ptr h0
  cases e
  have key : ∀ n, n ≤ xss.length → ∃ vs : List Value, vs.length = n ∧ ∀ i, i < n → ∃ a cp, vs[i]? = some (.slice a (nthR xss i).length cp) ∧ w.cell? ⟨g, o + i, none⟩ = some (.slice a (nthR xss i).length cp) ∧ SlI Any w a (nthR xss i) := by
    intro n
    induction n with
    | zero => intro _; exact ⟨[], rfl, fun i hi => absurd hi (by omega)⟩
    | succ n ih =>
      intro hn
      obtain ⟨vs, hl, hv⟩ := ih (by omega)
      obtain ⟨a, cp, hc, hs⟩ := h.cell n (by omega)
      refine ⟨vs ++ [.slice a (nthR xss n).length cp], by simp [hl], fun i hi => ?_⟩
      by_cases e : i = n
      · subst e
        exact ⟨a, cp, by simp [← hl], by simpa [adr, blk, ofs] using hc, hs⟩
      · obtain ⟨a', cp', h1, h2, h3⟩ := hv i (by omega)
        exact ⟨a', cp', by rw [List.getElem?_append_left (by omega)]; exact h1, h2, h3⟩
  obtain ⟨vs, hl, hv⟩ := key xss.length (Nat.le_refl _)
  refine ⟨vs, hl, fun j u hu => ?_, fun u hu => ?_, fun i hi => ?_⟩
  · have hj : j < vs.length := (List.getElem?_eq_some_iff.1 hu).1
    obtain ⟨a, cp, h1, h2, _⟩ := hv j (by omega)
    rw [h1] at hu; cases hu
    rw [Addr.add_lit]; exact h2
  · obtain ⟨j, hj, rfl⟩ := List.getElem_of_mem hu
    obtain ⟨a, cp, h1, _, _⟩ := hv j (by omega)
    rw [List.getElem?_eq_getElem hj] at h1
    have := Option.some.inj h1
    rw [this]; rfl
  · obtain ⟨a, cp, h1, _, h3⟩ := hv i hi
    exact ⟨a, cp, h1, h3⟩
theorem SlII.addr {S : Nat → Prop} {w : World} {a : Option Addr} {xss : List (List Int)} (h : SlII S w a xss) (h0 : 0 < xss.length) : ∃ ad, a = some ad := by
  obtain ⟨g, o, e⟩ := (h.ptr h0).2
  exact ⟨_, e⟩
theorem SlI.mono {S T : Nat → Prop} {w : World} {a : Option Addr} {xs : List Int} (h : SlI S w a xs) (hs : ∀ k, S k → T k) : SlI T w a xs := ⟨h.len, fun h0 => ⟨hs _ (h.ptr h0).1, (h.ptr h0).2⟩, h.cell⟩
theorem Ow.other {w : World} {xs : List Int} {a : Option Addr} {n c : Nat} {F : List Nat} {g B : Nat} (h : Ow w (dI xs) (.slice a n c) F) (hF : ∀ x, x ∈ F → B ≤ x) (hg : g < B) : SlI (· ≠ g) w a xs := by
  obtain ⟨a', c', e, h'⟩ := h.slI
  cases e
  exact h'.mono (fun k hk => by have := hF k hk; omega)
theorem Bgs.lower {B B' : Nat} {wr : World} {g n c : Nat} {bags : List (List Int)} (h : Bgs B wr g n c bags) (hB : B' ≤ B) : Bgs B' wr g n c bags := by
  obtain ⟨vs, h1, h2, h3⟩ := h.row
  exact ⟨h.len, vs, h1.lower hB, h2, h3⟩
theorem Bgs.start {w w' : World} {B g n c : Nat} {y0 : List (List Int)} {y1 : List Int} {b1 : Option Addr} {d1 : Nat} {vs : List Value} (hl : Bld 22 w' B (.slice (some ⟨g, 0, none⟩) n c) (vs ++ [.slice b1 y1.length d1])) (hn : n = y0.length + 1) (hvl : vs.length = y0.length)
    (hv : ∀ i, i < y0.length → ∃ a cp, vs[i]? = some (.slice a (nthR y0 i).length cp) ∧ SlI Any w a (nthR y0 i)) (k1 : SlI Any w b1 y1) (hb : Below w.heap.size w w') (hB : w.heap.size ≤ B) : Bgs B w' g n c (bagsS y0 y1) := by
  have hg : w.heap.size ≤ g := Nat.le_trans hB hl.base.1
  refine ⟨by rw [bagsS_len]; exact hn.symm, vs ++ [.slice b1 y1.length d1], hl, by simp [hvl, hn], fun i hi => ?_⟩
  by_cases e : i < y0.length
  · obtain ⟨a, cp, h1, h2⟩ := hv i e
    have e2 : nthR (bagsS y0 y1) i = nthR y0 i := by
      rw [nthR_lt (by rw [bagsS_len]; omega), nthR_lt e]
      simp only [bagsS]
      rw [List.getElem_append_left e]
    exact ⟨a, cp, by rw [List.getElem?_append_left (by omega), e2]; exact h1, by rw [e2]; exact (h2.other hg).below hb⟩
  · have e1 : i = y0.length := by omega
    subst e1
    have e2 : nthR (bagsS y0 y1) y0.length = y1 := by
      rw [nthR_lt (by rw [bagsS_len]; omega)]
      simp [bagsS]
    exact ⟨b1, d1, by rw [e2, List.getElem?_append_right (by omega), hvl]; simp, by rw [e2]; exact (k1.other hg).below hb⟩
theorem takeTo_ok {K : Nat} {x1 : List Int} {x2 : List Bool} {x3 : List PR} {bags : List (List Int)} {cs : List Int} (h : PsOk K x1 x2 x3) (hl : bags.length = x1.length + 1) (hb : ∀ pl, pl ≤ x1.length → (nthR bags pl).length = K) :
    ∀ i, i ≤ x3.length → ∀ pl, pl ≤ x1.length → (nthR (takeTo x1 x2 x3 cs bags i) pl).length = K
  | 0, _, pl, hp => hb pl hp
  | i + 1, hi, pl, hp => by
    have ih := takeTo_ok h hl hb (cs := cs) i (by omega)
    have hlen := takeTo_len x1 x2 x3 cs bags i
    obtain ⟨u1, u2, u3, _⟩ := h.upN (i := i) (by omega)
    rw [takeTo]
    unfold takeB
    rw [nthR_set (by simp; omega), nthR_set (by omega), nthR_set (by omega)]
    by_cases e1 : pl = upN x1 (nthPR x3 i)
    · rw [if_pos e1, plusS_len]
      split
      · rw [plusS_len]; exact ih _ (by omega)
      · exact ih _ u2
    · rw [if_neg e1]
      split
      · rw [plusS_len]; exact ih _ (by omega)
      · exact ih _ hp
set_option maxHeartbeats 8000000 in
set_option maxRecDepth 100000 in
theorem changed_c (x0 : Int) (x1 : List Int) (x2 : List Bool) (x3 : List PR) (y0 : List (List Int)) (y1 : List Int) (a1 a2 a3 b0 b1 : Option Addr) (c1 c2 c3 d0 d1 : Nat) (w : World) (h1 : SlI Any w a1 x1) (h2 : SlB Any w a2 x2) (h3 : Rd Any w (dPR x3) (.slice a3 x3.length c3)) (k0 : SlII Any w b0 y0) (k1 : SlI Any w b1 y1) (cs : List Int) (bc : Option Addr) (cc : Nat) (kc : SlI Any w bc cs) (K0 : Nat) (hps : PsOk K0 x1 x2 x3) (hst : StOk K0 x1.length y0 y1) (hcl : cs.length = x3.length) (hcb : ∀ j, 0 ≤ nth cs j ∧ nth cs j ≤ 1001) :
    Calls Try.prog 141 #[.agg #[.int .i64 x0, .slice a1 x1.length c1, .slice a2 x2.length c2, .slice a3 x3.length c3], .agg #[.slice b0 y0.length d0, .slice b1 y1.length d1], .slice bc cs.length cc, .bool false] w (fun e w' => ∃ g c, e = .returned (.slice (some ⟨g, 0, none⟩) (x1.length + 1) c) ∧ Below w.heap.size w w' ∧ Bgs w.heap.size w' g (x1.length + 1) c (takeTo x1 x2 x3 cs (bagsS y0 y1) x3.length)) := by
  have hb0 : Below w.heap.size w ((w.alloc (.cells #[.int .i64 x0, .slice a1 x1.length c1, .slice a2 x2.length c2, .slice a3 x3.length c3] 36)).alloc (.cells #[.slice b0 y0.length d0, .slice b1 y1.length d1] 38)) := ((Below.refl _ _).alloc (Nat.le_refl _) _).alloc (by simp) _
  have hp1 := hps.p1
  have hp4 := hps.p4
  have hk1 := hps.k1
  have hk8 := hps.k8
  have hyl := hst.len
  obtain ⟨ad0, rfl⟩ := k0.addr (by omega)
  obtain ⟨vs, hvl, hvc, hv1, hvr⟩ := (k0.below hb0).vals (by omega)
  have hrunC := callFunc_run Try.func182 (by kernel_rfl) rfl
  have hrunP := callFunc_run Try.func186 (by kernel_rfl) rfl
  have hrunB := callFunc_run Try.func185 (by kernel_rfl) rfl
  have HB0 := Lib.hid hb0
  have HCL : Hid (∀ wx, Below ((w.alloc (.cells #[.int .i64 x0, .slice a1 x1.length c1, .slice a2 x2.length c2, .slice a3 x3.length c3] 36)).alloc (.cells #[.slice (some ad0) y0.length d0, .slice b1 y1.length d1] 38)).heap.size ((w.alloc (.cells #[.int .i64 x0, .slice a1 x1.length c1, .slice a2 x2.length c2, .slice a3 x3.length c3] 36)).alloc (.cells #[.slice (some ad0) y0.length d0, .slice b1 y1.length d1] 38)) wx → Calls Try.prog 182 #[.slice (some ad0) y0.length d0] wx (fun e w' => ∃ v, e = .returned v ∧ Below wx.heap.size wx w' ∧ Bld 22 w' wx.heap.size v vs)) :=
    Lib.hid fun wx hb => cloneII_c ad0 y0.length d0 vs wx hvl (fun j u hu => (hb.cell (World.block_lt_of_cell? _ _ (hvc j u hu))).trans (hvc j u hu)) hv1 (by omega)
  have HVR := Lib.hid hvr
  have HVL := Lib.hid hvl
  have HPS := Lib.hid hps
  have HST := Lib.hid hst
  have HCLN := Lib.hid hcl
  have HCB := Lib.hid hcb
  have H1 := Lib.hid h1
  have H2 := Lib.hid h2
  have H3 := Lib.hid h3
  have K1 := Lib.hid k1
  have KC := Lib.hid kc
  have HYL := Lib.hid hyl
  have lc := kc.len
  unfold maxLen at lc
  have ic := kc.ix tabI.under tabI.size cc
  have h3' := h3
  obtain ⟨_, _, e3, k3⟩ := Rd_PR h3'
  cases e3
  have i4 := ix_of (P := Try.prog) tabPassRuleSM.under tabPassRuleSM.size k3.ptr c3
  have hcs8 : cs.length ≤ 8 := by have := hps.r8; omega
  clear hb0 hvl hvc hv1 hvr hps hst hcl hcb h1 h2 h3 k0 k1 kc hyl h3' k3
  go_enter Try.func141, Try.ntmps141
  go_wp2
  rename_i K hK
  have key : ∀ {t16 t17 t18 t19 t20 t21 t22 : Value} {w2 : World} {g cg : Nat}, Hid (Below (w.heap.size + 2) ((w.alloc (.cells #[.int .i64 x0, .slice a1 x1.length c1, .slice a2 x2.length c2, .slice a3 x3.length c3] 36)).alloc (.cells #[.slice (some ad0) y0.length d0, .slice b1 y1.length d1] 38)) w2) → Hid (Bgs (w.heap.size + 2) w2 g (x1.length + 1) cg (bagsS y0 y1)) → (w.heap.size + 2 ≤ g ∧ g < w2.heap.size) → K ⟨#[.agg #[.int .i64 x0, .slice a1 x1.length c1, .slice a2 x2.length c2, .slice a3 x3.length c3], .agg #[.slice (some ad0) y0.length d0, .slice b1 y1.length d1], .slice bc cs.length cc, .bool false, .pointer (some ⟨w.heap.size, 0, none⟩), .pointer (some ⟨w.heap.size + 1, 0, none⟩), undef, undef, .slice none 0 0, .slice (some ⟨g, 0, none⟩) (x1.length + 1) cg, undef, undef, undef, undef, undef, undef, t16, t17, t18, t19, t20, t21, t22, undef, undef, undef, undef, undef, undef, undef, undef, undef, undef, undef, undef, undef, undef, undef, undef, undef, undef, undef, undef, undef, undef, undef, undef, undef, undef, undef, undef, undef, undef, undef, undef, undef, undef, undef, undef, undef, undef, undef, undef, undef, undef, undef, undef, undef, undef, undef, undef, undef, undef, undef, undef, undef, undef, undef, undef, undef, undef, undef, undef, undef, undef, undef, undef, undef, undef, undef, undef, undef, undef, undef, undef, undef, undef, undef, undef, undef, undef, undef, undef, undef], []⟩ w2 := by
    intro t16 t17 t18 t19 t20 t21 t22 w2 g cg HX2 HBG0 hgB
    apply hK
    clear hK
    have HFR : Hid (∀ wx, Below (w.heap.size + 2) w2 wx → wx.cell? ⟨w.heap.size, 0, none⟩ = some (.int .i64 x0) ∧ wx.cell? ⟨w.heap.size, 1, none⟩ = some (.slice a1 x1.length c1) ∧ wx.cell? ⟨w.heap.size, 2, none⟩ = some (.slice a2 x2.length c2) ∧ wx.cell? ⟨w.heap.size, 3, none⟩ = some (.slice a3 x3.length c3)) := Lib.hid (fun wx h => by
      have h2 := HX2.out.trans h
      refine ⟨?_, ?_, ?_, ?_⟩ <;> (rw [bcell1 h2 (by omega)]; simp [go_sem]))
    have HWB : Hid (Below w.heap.size w w2) := Lib.hid (HB0.out.trans (HX2.out.mono (by simp)))
    go_wp2
    go_loopw [10, 11, 12, 13, 14, 15, 25] (fun _ _ _ _ _ _ i wr => ∃ k : Nat, k ≤ cs.length ∧ i = .int .i64 k ∧ Below (w.heap.size + 2) w2 wr ∧ Bgs (w.heap.size + 2) wr g (x1.length + 1) cg (takeTo x1 x2 x3 cs (bagsS y0 y1) k)) (fun _ _ _ _ _ _ i _ => cs.length - (intOf i).toNat)
    case atStart => exact ⟨0, Nat.zero_le _, rfl, Below.refl _ _, HBG0.out⟩
    case round =>
      obtain ⟨k, hk, rfl, hb, hbg⟩ := hrel
      have HB := Lib.hid hb
      have HBG := Lib.hid hbg
      have hbw := HWB.out.trans (hb.mono (by omega))
      obtain ⟨f0, f1, f2, f3⟩ := HFR.out wr hb
      have hzr : w2.heap.size ≤ wr.heap.size := hb.size
      have HBW := Lib.hid hbw
      clear hb hbg
      by_cases hlt : k < cs.length
      · have hlt3 : k < x3.length := by have := HCLN.out; omega
        have hltx : (k : Int) < x3.length := by omega
        obtain ⟨_, _, ex, hxs⟩ := Rd_PR H3.out
        cases ex
        have r0 := hxs.c0 k hlt3
        obtain ⟨u1, e1, r1, k1⟩ := hxs.c1 k hlt3
        obtain ⟨u2, e2, r2, k2⟩ := hxs.c2 k hlt3
        replace r0 := (hbw.cell (World.block_lt_of_cell? w _ r0)).trans r0
        replace r1 := (hbw.cell (World.block_lt_of_cell? w _ r1)).trans r1
        replace r2 := (hbw.cell (World.block_lt_of_cell? w _ r2)).trans r2
        have gc := (KC.out.below hbw).cell k hlt
        have hu := HPS.out.upN hlt3
        have hce := HPS.out.cell k hlt3
        have hout := (HPS.out.out k hlt3).2
        have hinn := (HPS.out.inn k hlt3).2
        have hcb := HCB.out k
        have hTB : takeTo x1 x2 x3 cs (bagsS y0 y1) (k + 1) = takeB x1 x2 (nthPR x3 k) (nth cs k) (takeTo x1 x2 x3 cs (bagsS y0 y1) k) := rfl
        have HTL : Hid (∀ pl, pl ≤ x1.length → (nthR (takeTo x1 x2 x3 cs (bagsS y0 y1) k) pl).length = K0) := Lib.hid (takeTo_ok HPS.out (by rw [bagsS_len, HYL.out]) (fun pl hp => (bagsS_ok HST.out hp).2) k (by omega))
        have HTB := Lib.hid hTB
        clear hTB hxs
        generalize hR : nthPR x3 k = r at *
        generalize hN : nth cs k = n at *
        generalize hBS : takeTo x1 x2 x3 cs (bagsS y0 y1) k = bags at *
        have HPA := Lib.hid (fun wx (h : Below w.heap.size w wx) => parent_c x0 x1 a1 c1 (.slice a2 x2.length c2) (.slice a3 x3.length c3) r.cell wx (H1.out.below h) hce)
        rw [hu.2.2.2.1] at HPA
        have HO := Lib.hid (fun wx => outside_c x0 x1.length c1 a1 (.slice a2 x2.length c2) (.slice a3 x3.length c3) wx (by unfold maxLen; omega))
        have HU := Lib.hid hu
        have HOUT := Lib.hid hout
        have HINN := Lib.hid hinn
        have HCE := Lib.hid hce
        have K1r := Lib.hid (k1.other (show w.heap.size ≤ g by omega))
        have K2r := Lib.hid (k2.other (show w.heap.size ≤ g by omega))
        have HRr := Lib.hid hR
        have HNn := Lib.hid hN
        have HBSs := Lib.hid hBS
        have hb5 : ∀ ob, Below w.heap.size w (wr.alloc ob) := fun ob => hbw.alloc hbw.size ob
        have hwn1 : IntKind.i64.wrap (-n) = -n := by rw [wrap_64]; unfold wrap64; omega
        have hwn2 : wrap64 (-n) = -n := by unfold wrap64; omega
        have HZ := Lib.hid (show w.heap.size + 2 ≤ wr.heap.size ∧ g < wr.heap.size by omega)
        clear hu hce hout hinn k1 k2 hR hN hBS hbw hcb
        have af0 := fun ob => (bcell1 (below_alloc wr ob) (World.block_lt_of_cell? _ _ f0)).trans f0
        have af1 := fun ob => (bcell1 (below_alloc wr ob) (World.block_lt_of_cell? _ _ f1)).trans f1
        have af2 := fun ob => (bcell1 (below_alloc wr ob) (World.block_lt_of_cell? _ _ f2)).trans f2
        have af3 := fun ob => (bcell1 (below_alloc wr ob) (World.block_lt_of_cell? _ _ f3)).trans f3
        go_wp2_with fail
        refine (HPA.out _ (hb5 _)).mono ?_
        rintro e w6 ⟨rfl, hb6⟩
        have hz6 := hb6.size
        simp at hz6
        have hb6w : Below wr.heap.size wr w6 := (below_alloc wr _).trans (hb6.mono (by simp))
        have s0 : w6.cell? ⟨wr.heap.size, 0, none⟩ = some (.int .i64 r.cell) := by rw [bcell1 hb6 (by simp)]; simp [go_sem]
        have s1 : w6.cell? ⟨wr.heap.size, 1, none⟩ = some (.slice u1 r.out.length e1) := by rw [bcell1 hb6 (by simp)]; simp [go_sem]
        have s2 : w6.cell? ⟨wr.heap.size, 2, none⟩ = some (.slice u2 r.inn.length e2) := by rw [bcell1 hb6 (by simp)]; simp [go_sem]
        have HR6 : Hid (∀ wx, Below w6.heap.size w6 wx → wx.cell? ⟨wr.heap.size, 0, none⟩ = some (.int .i64 r.cell) ∧ wx.cell? ⟨wr.heap.size, 1, none⟩ = some (.slice u1 r.out.length e1) ∧ wx.cell? ⟨wr.heap.size, 2, none⟩ = some (.slice u2 r.inn.length e2) ∧ (wx.cell? ⟨w.heap.size, 0, none⟩ = some (.int .i64 x0) ∧ wx.cell? ⟨w.heap.size, 1, none⟩ = some (.slice a1 x1.length c1) ∧ wx.cell? ⟨w.heap.size, 2, none⟩ = some (.slice a2 x2.length c2) ∧ wx.cell? ⟨w.heap.size, 3, none⟩ = some (.slice a3 x3.length c3)) ∧ Below (w.heap.size + 2) w2 wx ∧ Below w.heap.size w wx ∧ Bgs (w.heap.size + 2) wx g (x1.length + 1) cg bags) := Lib.hid (fun wx h => by
          have hf := HB.out.trans ((hb6w.trans (h.mono (by omega))).mono (by have := HZ.out; omega))
          exact ⟨(bcell1 h (by omega)).trans s0, (bcell1 h (by omega)).trans s1, (bcell1 h (by omega)).trans s2, HFR.out wx hf, hf, HWB.out.trans (hf.mono (by omega)), (HBG.out.later hb6w).later h⟩)
        have q1 := wat_cell s1
        have q2 := wat_cell s2
        clear s0 s1 s2 f0 f1 f2 f3 af0 af1 af2 af3 r0 r1 r2 gc hb6 hb6w hb5
        go_wp2
        refine wp_quiet_wd (by kernel_rfl) (by kernel_rfl) ?_
        repeat (go_big_quiet_step (fail))
        refine wpQuiet_nil ?_
        rintro _ ⟨wq, rfl⟩
        have HWQ := Lib.hid (wat_below wq)
        clear q1 q2
        obtain ⟨s0, s1, s2, ⟨f0, f1, f2, f3⟩, hza, hzb, hzc⟩ := HR6.out _ HWQ.out
        clear hza hzb hzc
        go_wp2_with fail
        refine (HO.out _).mono ?_
        rintro e w8 ⟨rfl, hb8⟩
        have HW8 := Lib.hid (HWQ.out.trans (hb8.mono HWQ.out.size))
        clear s0 s1 s2 f0 f1 f2 f3 hb8
        obtain ⟨s0, s1, s2, ⟨f0, f1, f2, f3⟩, hza, hzb, hzc⟩ := HR6.out _ HW8.out
        clear hza hzb hzc
        have i3 := ix_of (P := Try.prog) tabII.under tabII.size (a := some ⟨g, 0, none⟩) (n := x1.length + 1) (fun _ => ⟨g, 0, rfl⟩) cg
        simp only [Nat.mul_one, adr, blk, ofs, Nat.zero_add] at i3
        have hcel : 0 ≤ r.cell ∧ r.cell < ((x1.length + 1 : Nat) : Int) := by have := HCE.out; omega
        have i4c := fun w' => i3 r.cell w' hcel.1 hcel.2
        have hupl : (upN x1 r : Int) < ((x1.length + 1 : Nat) : Int) := by have := HU.out; omega
        have i4u := fun w' => i3 (upN x1 r : Int) w' (by omega) hupl
        rw [Int.toNat_natCast] at i4u
        clear i3
        by_cases hc0 : r.cell = 0
        · have hbq : ((upN x1 r : Int) == (x1.length : Int)) = true := by have := HU.out.2.2.2.2.2.1 hc0; rw [this]; simp
          have HC0 := Lib.hid hc0
          clear hc0
          have HBI := Lib.hid (fun wx (h : Below w8.heap.size w8 wx) => bound_c x0 (.slice a1 x1.length c1) (.slice a3 x3.length c3) a2 u2 c2 e2 x2 r.inn wx (H2.out.below ((HR6.out _ HW8.out).2.2.2.2.2.1.trans (h.mono (HR6.out _ HW8.out).2.2.2.2.2.1.size))) ((K2r.out.any.below ((HR6.out _ HW8.out).2.2.2.2.2.1.trans (h.mono (HR6.out _ HW8.out).2.2.2.2.2.1.size)))) (by rw [HINN.out, HPS.out.free]) (by rw [HINN.out]; omega) (by rw [HINN.out]; omega))
          have HBO := Lib.hid (fun wx (h : Below w8.heap.size w8 wx) => bound_c x0 (.slice a1 x1.length c1) (.slice a3 x3.length c3) a2 u1 c2 e1 x2 r.out wx (H2.out.below ((HR6.out _ HW8.out).2.2.2.2.2.1.trans (h.mono (HR6.out _ HW8.out).2.2.2.2.2.1.size))) ((K1r.out.any.below ((HR6.out _ HW8.out).2.2.2.2.2.1.trans (h.mono (HR6.out _ HW8.out).2.2.2.2.2.1.size)))) (by rw [HOUT.out, HPS.out.free]) (by rw [HOUT.out]; omega) (by rw [HOUT.out]; omega))
          have hg8 : g < w8.heap.size := (HR6.out _ HW8.out).2.2.2.2.2.2.base.2
          go_wp2
          rename_i K9 hK9
          have key9 : ∀ {t15 t26 t27 t28 t29 t30 t31 t32 t33 t34 t35 t36 t37 t38 t39 t40 t41 t42 t43 t44 t45 t46 t47 t48 t49 t50 t51 t52 t53 t54 t55 t56 t57 t58 t59 t60 t61 t62 t63 t64 t65 t66 t67 t68 t69 t70 t71 t72 t73 t74 t75 t76 t77 t78 t79 t80 t81 t82 t83 t84 t85 t86 t87 t88 t89 t90 t91 t92 t93 t94 t95 t96 t97 t98 t99 t100 t101 t102 : Value} {w9 : World} {ai : Option Addr} {ci : Nat}, Hid (Below w8.heap.size w8 w9) → Hid (SlI (· ≠ g) w9 ai (boundS x2 r.inn)) → K9 ⟨#[.agg #[.int .i64 x0, .slice a1 x1.length c1, .slice a2 x2.length c2, .slice a3 x3.length c3], .agg #[.slice (some ad0) y0.length d0, .slice b1 y1.length d1], .slice bc cs.length cc, .bool false, .pointer (some ⟨w.heap.size, 0, none⟩), .pointer (some ⟨w.heap.size + 1, 0, none⟩), undef, undef, .slice none 0 0, .slice (some ⟨g, 0, none⟩) (x1.length + 1) cg, .int .i64 (k : Int), .int .i64 n, .pointer (some ⟨wr.heap.size, 0, none⟩), .int .i64 (upN x1 r : Int), .slice ai (boundS x2 r.inn).length ci, t15, t16, t17, t18, t19, t20, t21, t22, .slice bc cs.length cc, .int .i64 (cs.length : Int), .int .i64 (k : Int), t26, t27, t28, t29, t30, t31, t32, t33, t34, t35, t36, t37, t38, t39, t40, t41, t42, t43, t44, t45, t46, t47, t48, t49, t50, t51, t52, t53, t54, t55, t56, t57, t58, t59, t60, t61, t62, t63, t64, t65, t66, t67, t68, t69, t70, t71, t72, t73, t74, t75, t76, t77, t78, t79, t80, t81, t82, t83, t84, t85, t86, t87, t88, t89, t90, t91, t92, t93, t94, t95, t96, t97, t98, t99, t100, t101, t102, undef], []⟩ w9 := by
            intro t15 t26 t27 t28 t29 t30 t31 t32 t33 t34 t35 t36 t37 t38 t39 t40 t41 t42 t43 t44 t45 t46 t47 t48 t49 t50 t51 t52 t53 t54 t55 t56 t57 t58 t59 t60 t61 t62 t63 t64 t65 t66 t67 t68 t69 t70 t71 t72 t73 t74 t75 t76 t77 t78 t79 t80 t81 t82 t83 t84 t85 t86 t87 t88 t89 t90 t91 t92 t93 t94 t95 t96 t97 t98 t99 t100 t101 t102 w9 ai ci H89 HS9
            apply hK9
            clear hK9 s0 s1 s2 f0 f1 f2 f3
            have HW9 := Lib.hid (HW8.out.trans (H89.out.mono HW8.out.size))
            have HCI := Lib.hid (show (boundS x2 r.inn).length = K0 from by rw [boundS_len]; exact HINN.out)
            obtain ⟨s0, s1, s2, ⟨f0, f1, f2, f3⟩, hbX, hbXw, hbgX⟩ := HR6.out _ HW9.out
            obtain ⟨ab, cb, gb, hsb⟩ := hbgX.cell (i := r.cell.toNat) (by have := HCE.out; omega)
            have zb := hbgX.free r.cell.toNat
            have HBX := Lib.hid hbX
            have HBXW := Lib.hid hbXw
            have HBGX := Lib.hid hbgX
            have HSB := Lib.hid hsb
            have HPL : Hid (∀ wx, Below w9.heap.size w9 wx → Calls Try.prog 186 #[.slice ab (nthR bags r.cell.toNat).length cb, .slice u1 r.out.length e1, .int .i64 (-n)] wx (RetD wx (dI (plusS (nthR bags r.cell.toNat) r.out (-n))))) := Lib.hid (fun wx h => plus_c (· ≠ g) ab u1 cb e1 _ _ (-n) wx (hsb.below h) ((K1r.out.below hbXw).below h) (by rw [HTL.out _ (by have := HCE.out; omega), HOUT.out]; exact Nat.le_refl _) (by rw [HTL.out _ (by have := HCE.out; omega)]; omega))
            have hzg : g < w9.heap.size := hbgX.base.2
            have HSI2 := Lib.hid (HS9.out)
            clear hbX hbXw hbgX hsb
            go_wp2
            rename_i K10 hK10
            have key10 : ∀ {t15 t26 t27 t28 t29 t30 t31 t32 t33 t34 t35 t36 t37 t38 t39 t40 t41 t42 t43 t44 t45 t46 t47 t48 t49 t50 t51 t52 t53 t54 t55 t56 t57 t58 t59 t60 t61 t62 t63 t64 t65 t66 t67 t68 t69 t70 t71 t72 t73 t74 t75 t76 t77 t78 t79 t80 t81 t82 t83 t84 t85 t86 t87 t88 t89 t90 t91 t92 t93 t94 t95 t96 t97 t98 t99 t100 t101 t102 : Value} {w10 : World}, Hid (Below (w.heap.size + 2) w2 w10) → Hid (Bgs (w.heap.size + 2) w10 g (x1.length + 1) cg (bags.set r.cell.toNat (plusS (nthR bags r.cell.toNat) r.out (-n)))) → Hid (SlI (· ≠ g) w10 ai (boundS x2 r.inn)) → K10 ⟨#[.agg #[.int .i64 x0, .slice a1 x1.length c1, .slice a2 x2.length c2, .slice a3 x3.length c3], .agg #[.slice (some ad0) y0.length d0, .slice b1 y1.length d1], .slice bc cs.length cc, .bool false, .pointer (some ⟨w.heap.size, 0, none⟩), .pointer (some ⟨w.heap.size + 1, 0, none⟩), undef, undef, .slice none 0 0, .slice (some ⟨g, 0, none⟩) (x1.length + 1) cg, .int .i64 (k : Int), .int .i64 n, .pointer (some ⟨wr.heap.size, 0, none⟩), .int .i64 (upN x1 r : Int), .slice ai (boundS x2 r.inn).length ci, t15, t16, t17, t18, t19, t20, t21, t22, .slice bc cs.length cc, .int .i64 (cs.length : Int), .int .i64 (k : Int), t26, t27, t28, t29, t30, t31, t32, t33, t34, t35, t36, t37, t38, t39, t40, t41, t42, t43, t44, t45, t46, t47, t48, t49, t50, t51, t52, t53, t54, t55, t56, t57, t58, t59, t60, t61, t62, t63, t64, t65, t66, t67, t68, t69, t70, t71, t72, t73, t74, t75, t76, t77, t78, t79, t80, t81, t82, t83, t84, t85, t86, t87, t88, t89, t90, t91, t92, t93, t94, t95, t96, t97, t98, t99, t100, t101, t102, undef], []⟩ w10 := by
              intro t15 t26 t27 t28 t29 t30 t31 t32 t33 t34 t35 t36 t37 t38 t39 t40 t41 t42 t43 t44 t45 t46 t47 t48 t49 t50 t51 t52 t53 t54 t55 t56 t57 t58 t59 t60 t61 t62 t63 t64 t65 t66 t67 t68 t69 t70 t71 t72 t73 t74 t75 t76 t77 t78 t79 t80 t81 t82 t83 t84 t85 t86 t87 t88 t89 t90 t91 t92 t93 t94 t95 t96 t97 t98 t99 t100 t101 t102 w10 H10 HG10 HS10
              apply hK10
              clear hK10 HPL
              obtain ⟨ab2, cb2, gb2, hsb2⟩ := HG10.out.cell (i := upN x1 r) (by have := HU.out; omega)
              have zb2 := HG10.out.free (upN x1 r)
              have hl2 : (nthR (bags.set r.cell.toNat (plusS (nthR bags r.cell.toNat) r.out (-n))) (upN x1 r)).length = K0 := by
                have hbl := HBGX.out.len
                rw [nthR_set (by have := HCE.out; omega)]
                split
                · rw [plusS_len]; exact HTL.out _ (by have := HCE.out; omega)
                · exact HTL.out _ HU.out.2.1
              have HP2 := Lib.hid (plus_c (· ≠ g) ab2 ai cb2 ci _ _ (-n) w10 hsb2 HS10.out (by rw [hl2, HCI.out]; exact Nat.le_refl _) (by rw [hl2]; omega))
              clear hsb2 hl2 gb zb s0 s1 s2 f0 f1 f2 f3 hzg
              have hz10 : g < w10.heap.size := HG10.out.base.2
              go_wp2_with fail
              refine HP2.out.mono ?_
              intro e w11 h
              obtain ⟨v11, F11, rfl, hb11, ho11, _, hF11⟩ := h
              obtain ⟨av, cv, rfl⟩ := ho11.val
              have gb3 := (bcell1 (i := upN x1 r) hb11 hz10).trans gb2
              have zb3 : w11.frozen? ⟨g, upN x1 r, none⟩ = false := (hb11.frozen (p := ⟨g, upN x1 r, none⟩) hz10).trans zb2
              have HB11 := Lib.hid (H10.out.trans (hb11.mono (by have := H10.out.size; omega)))
              have HG11 := Lib.hid ((HG10.out.later hb11).set (i := upN x1 r) (cp := cv) (by have := HU.out; omega) (ho11.other hF11 hz10))
              have HTB2 : Hid (takeTo x1 x2 x3 cs (bagsS y0 y1) (k + 1) = (bags.set r.cell.toNat (plusS (nthR bags r.cell.toNat) r.out (-n))).set (upN x1 r) (plusS (nthR (bags.set r.cell.toNat (plusS (nthR bags r.cell.toNat) r.out (-n))) (upN x1 r)) (boundS x2 r.inn) (-n))) := Lib.hid (by rw [HTB.out, takeB, show innS x2 r = boundS x2 r.inn by have hc0 := HC0.out; simp [innS, hc0]]; rfl)
              clear hb11 ho11 hF11 gb2 zb2
              go_wp2
              go_roundw
              case rel => exact ⟨k + 1, by omega, by go_num, HB11.out.setCell hgB.1 _, by rw [HTB2.out]; exact HG11.out⟩
              case measure => simp [intOf]; omega
            go_region_law (refine step_callD rfl 186 #[.tmp 60, .tmp 62, .tmp 64] _ rfl hrunP #[.slice ab (nthR bags r.cell.toNat).length cb, .slice u1 r.out.length e1, .int .i64 (-n)] (by first | rfl | (simp [Act.eval]; done) | (simp [Act.eval]; rfl)) (dI (plusS (nthR bags r.cell.toNat) r.out (-n))) (HPL.out _ (by repeat (first | exact Below.refl _ _ | refine Below.drew ?_ | refine Below.alloc ?_ (by simp) _))) ?_; intro v1 F1 w1 hb1 ho1 hn1 hl1; obtain ⟨av, cv, rfl⟩ := ho1.val; have hx1 : Below w9.heap.size w9 w1 := ((by repeat (first | exact Below.refl _ _ | refine Below.drew ?_ | refine Below.alloc ?_ (by simp) _)) : Below w9.heap.size w9 _).trans hb1; have s0b := (bcell1 hx1 (World.block_lt_of_cell? _ _ s0)).trans s0; have gbb := (bcell1 hx1 hzg).trans gb; have zbb : w1.frozen? ⟨g, r.cell.toNat, none⟩ = false := (hx1.frozen (p := ⟨g, r.cell.toNat, none⟩) hzg).trans zb)
            all_goals
              exact key10 (Lib.hid ((HBX.out.trans (hx1.mono (by have := HBX.out.size; omega))).setCell hgB.1 _)) (Lib.hid ((HBGX.out.later hx1).set (i := r.cell.toNat) (cp := cv) (by have := HCE.out; omega) (ho1.other hl1 hzg))) (Lib.hid ((HSI2.out.below hx1).set_other))
          go_region_law (first
            | (refine step_callD rfl 185 #[.tmp 47, .tmp 48] _ rfl hrunB #[.agg #[.int .i64 x0, .slice a1 x1.length c1, .slice a2 x2.length c2, .slice a3 x3.length c3], .slice u2 r.inn.length e2] (by first | rfl | (simp [Act.eval]; done) | (simp [Act.eval]; rfl)) (dI (boundS x2 r.inn)) (HBI.out _ (by repeat (first | exact Below.refl _ _ | refine Below.drew ?_ | refine Below.alloc ?_ (by simp) _))) ?_; intro v1 F1 w1 hb1 ho1 hn1 hl1; obtain ⟨ai, ci, rfl⟩ := ho1.val; have hx1 : Below w8.heap.size w8 w1 := ((by repeat (first | exact Below.refl _ _ | refine Below.drew ?_ | refine Below.alloc ?_ (by simp) _)) : Below w8.heap.size w8 _).trans hb1; have g0 := (bcell1 hx1 (World.block_lt_of_cell? _ _ f0)).trans f0; have g1 := (bcell1 hx1 (World.block_lt_of_cell? _ _ f1)).trans f1; have g2 := (bcell1 hx1 (World.block_lt_of_cell? _ _ f2)).trans f2; have g3 := (bcell1 hx1 (World.block_lt_of_cell? _ _ f3)).trans f3)
            | (refine step_callD rfl 185 #[.tmp 50, .tmp 51] _ rfl hrunB #[.agg #[.int .i64 x0, .slice a1 x1.length c1, .slice a2 x2.length c2, .slice a3 x3.length c3], .slice u1 r.out.length e1] (by first | rfl | (simp [Act.eval]; done) | (simp [Act.eval]; rfl)) (dI (boundS x2 r.out)) (HBO.out _ hx1) ?_; intro v3 F3 w3 hb3 ho3 hn3 hl3; obtain ⟨av, cv, rfl⟩ := ho3.val; have hx3 : Below w8.heap.size w8 w3 := hx1.trans (hb3.mono hx1.size)))
          all_goals
            exact key9 (Lib.hid hx3) (Lib.hid ((ho1.other hl1 hg8).below hb3))
        · have hbq : ((upN x1 r : Int) == (x1.length : Int)) = false := by rw [beq_eq_false_iff_ne]; intro h; exact hc0 (HU.out.2.2.2.2.2.2 (by omega))
          clear s0 s1 s2 f0 f1 f2 f3
          have HCI := Lib.hid (show (r.inn).length = K0 from HINN.out)
          obtain ⟨s0, s1, s2, ⟨f0, f1, f2, f3⟩, hbX, hbXw, hbgX⟩ := HR6.out _ HW8.out
          obtain ⟨ab, cb, gb, hsb⟩ := hbgX.cell (i := r.cell.toNat) (by have := HCE.out; omega)
          have zb := hbgX.free r.cell.toNat
          have HBX := Lib.hid hbX
          have HBXW := Lib.hid hbXw
          have HBGX := Lib.hid hbgX
          have HSB := Lib.hid hsb
          have HPL : Hid (∀ wx, Below w8.heap.size w8 wx → Calls Try.prog 186 #[.slice ab (nthR bags r.cell.toNat).length cb, .slice u1 r.out.length e1, .int .i64 (-n)] wx (RetD wx (dI (plusS (nthR bags r.cell.toNat) r.out (-n))))) := Lib.hid (fun wx h => plus_c (· ≠ g) ab u1 cb e1 _ _ (-n) wx (hsb.below h) ((K1r.out.below hbXw).below h) (by rw [HTL.out _ (by have := HCE.out; omega), HOUT.out]; exact Nat.le_refl _) (by rw [HTL.out _ (by have := HCE.out; omega)]; omega))
          have hzg : g < w8.heap.size := hbgX.base.2
          have HSI2 := Lib.hid (K2r.out.below (HR6.out _ HW8.out).2.2.2.2.2.1)
          clear hbX hbXw hbgX hsb
          go_wp2
          rename_i K10 hK10
          have key10 : ∀ {t15 t26 t27 t28 t29 t30 t31 t32 t33 t34 t35 t36 t37 t38 t39 t40 t41 t42 t43 t44 t45 t46 t47 t48 t49 t50 t51 t52 t53 t54 t55 t56 t57 t58 t59 t60 t61 t62 t63 t64 t65 t66 t67 t68 t69 t70 t71 t72 t73 t74 t75 t76 t77 t78 t79 t80 t81 t82 t83 t84 t85 t86 t87 t88 t89 t90 t91 t92 t93 t94 t95 t96 t97 t98 t99 t100 t101 t102 : Value} {w10 : World}, Hid (Below (w.heap.size + 2) w2 w10) → Hid (Bgs (w.heap.size + 2) w10 g (x1.length + 1) cg (bags.set r.cell.toNat (plusS (nthR bags r.cell.toNat) r.out (-n)))) → Hid (SlI (· ≠ g) w10 u2 (r.inn)) → K10 ⟨#[.agg #[.int .i64 x0, .slice a1 x1.length c1, .slice a2 x2.length c2, .slice a3 x3.length c3], .agg #[.slice (some ad0) y0.length d0, .slice b1 y1.length d1], .slice bc cs.length cc, .bool false, .pointer (some ⟨w.heap.size, 0, none⟩), .pointer (some ⟨w.heap.size + 1, 0, none⟩), undef, undef, .slice none 0 0, .slice (some ⟨g, 0, none⟩) (x1.length + 1) cg, .int .i64 (k : Int), .int .i64 n, .pointer (some ⟨wr.heap.size, 0, none⟩), .int .i64 (upN x1 r : Int), .slice u2 (r.inn).length e2, t15, t16, t17, t18, t19, t20, t21, t22, .slice bc cs.length cc, .int .i64 (cs.length : Int), .int .i64 (k : Int), t26, t27, t28, t29, t30, t31, t32, t33, t34, t35, t36, t37, t38, t39, t40, t41, t42, t43, t44, t45, t46, t47, t48, t49, t50, t51, t52, t53, t54, t55, t56, t57, t58, t59, t60, t61, t62, t63, t64, t65, t66, t67, t68, t69, t70, t71, t72, t73, t74, t75, t76, t77, t78, t79, t80, t81, t82, t83, t84, t85, t86, t87, t88, t89, t90, t91, t92, t93, t94, t95, t96, t97, t98, t99, t100, t101, t102, undef], []⟩ w10 := by
            intro t15 t26 t27 t28 t29 t30 t31 t32 t33 t34 t35 t36 t37 t38 t39 t40 t41 t42 t43 t44 t45 t46 t47 t48 t49 t50 t51 t52 t53 t54 t55 t56 t57 t58 t59 t60 t61 t62 t63 t64 t65 t66 t67 t68 t69 t70 t71 t72 t73 t74 t75 t76 t77 t78 t79 t80 t81 t82 t83 t84 t85 t86 t87 t88 t89 t90 t91 t92 t93 t94 t95 t96 t97 t98 t99 t100 t101 t102 w10 H10 HG10 HS10
            apply hK10
            clear hK10 HPL
            obtain ⟨ab2, cb2, gb2, hsb2⟩ := HG10.out.cell (i := upN x1 r) (by have := HU.out; omega)
            have zb2 := HG10.out.free (upN x1 r)
            have hl2 : (nthR (bags.set r.cell.toNat (plusS (nthR bags r.cell.toNat) r.out (-n))) (upN x1 r)).length = K0 := by
              have hbl := HBGX.out.len
              rw [nthR_set (by have := HCE.out; omega)]
              split
              · rw [plusS_len]; exact HTL.out _ (by have := HCE.out; omega)
              · exact HTL.out _ HU.out.2.1
            have HP2 := Lib.hid (plus_c (· ≠ g) ab2 u2 cb2 e2 _ _ (-n) w10 hsb2 HS10.out (by rw [hl2, HCI.out]; exact Nat.le_refl _) (by rw [hl2]; omega))
            clear hsb2 hl2 gb zb s0 s1 s2 f0 f1 f2 f3 hzg
            have hz10 : g < w10.heap.size := HG10.out.base.2
            go_wp2_with fail
            refine HP2.out.mono ?_
            intro e w11 h
            obtain ⟨v11, F11, rfl, hb11, ho11, _, hF11⟩ := h
            obtain ⟨av, cv, rfl⟩ := ho11.val
            have gb3 := (bcell1 (i := upN x1 r) hb11 hz10).trans gb2
            have zb3 : w11.frozen? ⟨g, upN x1 r, none⟩ = false := (hb11.frozen (p := ⟨g, upN x1 r, none⟩) hz10).trans zb2
            have HB11 := Lib.hid (H10.out.trans (hb11.mono (by have := H10.out.size; omega)))
            have HG11 := Lib.hid ((HG10.out.later hb11).set (i := upN x1 r) (cp := cv) (by have := HU.out; omega) (ho11.other hF11 hz10))
            have HTB2 : Hid (takeTo x1 x2 x3 cs (bagsS y0 y1) (k + 1) = (bags.set r.cell.toNat (plusS (nthR bags r.cell.toNat) r.out (-n))).set (upN x1 r) (plusS (nthR (bags.set r.cell.toNat (plusS (nthR bags r.cell.toNat) r.out (-n))) (upN x1 r)) (r.inn) (-n))) := Lib.hid (by rw [HTB.out, takeB, show innS x2 r = r.inn by simp [innS, hc0]]; rfl)
            clear hb11 ho11 hF11 gb2 zb2
            go_wp2
            go_roundw
            case rel => exact ⟨k + 1, by omega, by go_num, HB11.out.setCell hgB.1 _, by rw [HTB2.out]; exact HG11.out⟩
            case measure => simp [intOf]; omega
          go_region_law (refine step_callD rfl 186 #[.tmp 60, .tmp 62, .tmp 64] _ rfl hrunP #[.slice ab (nthR bags r.cell.toNat).length cb, .slice u1 r.out.length e1, .int .i64 (-n)] (by first | rfl | (simp [Act.eval]; done) | (simp [Act.eval]; rfl)) (dI (plusS (nthR bags r.cell.toNat) r.out (-n))) (HPL.out _ (by repeat (first | exact Below.refl _ _ | refine Below.drew ?_ | refine Below.alloc ?_ (by simp) _))) ?_; intro v1 F1 w1 hb1 ho1 hn1 hl1; obtain ⟨av, cv, rfl⟩ := ho1.val; have hx1 : Below w8.heap.size w8 w1 := ((by repeat (first | exact Below.refl _ _ | refine Below.drew ?_ | refine Below.alloc ?_ (by simp) _)) : Below w8.heap.size w8 _).trans hb1; have s0b := (bcell1 hx1 (World.block_lt_of_cell? _ _ s0)).trans s0; have gbb := (bcell1 hx1 hzg).trans gb; have zbb : w1.frozen? ⟨g, r.cell.toNat, none⟩ = false := (hx1.frozen (p := ⟨g, r.cell.toNat, none⟩) hzg).trans zb)
          all_goals
            exact key10 (Lib.hid ((HBX.out.trans (hx1.mono (by have := HBX.out.size; omega))).setCell hgB.1 _)) (Lib.hid ((HBGX.out.later hx1).set (i := r.cell.toNat) (cp := cv) (by have := HCE.out; omega) (ho1.other hl1 hzg))) (Lib.hid ((HSI2.out.below hx1).set_other))
      · have e : k = x3.length := by have := HCLN.out; omega
        have HBF : Hid (Bgs (w.heap.size + 2) wr g (x1.length + 1) cg (takeTo x1 x2 x3 cs (bagsS y0 y1) x3.length)) := Lib.hid (by rw [← e]; exact HBG.out)
        go_wp2
        go_ret
        exact ⟨g, cg, rfl, HBW.out, HBF.out.lower (by omega)⟩
  skip
  go_region_law (first
    | (refine step_callG rfl 182 #[.tmp 17] _ rfl hrunC #[.slice (some ad0) y0.length d0] (by first | rfl | (simp [Act.eval]; done) | (simp [Act.eval]; rfl)) (HCL.out _ (by repeat (first | exact Below.refl _ _ | refine Below.drew ?_ | refine Below.alloc ?_ (by simp) _))) ?_; rintro e w1 ⟨v1, rfl, hb1, hl1⟩; refine ⟨v1, rfl, ?_⟩; have hx1 : Below ((w.alloc (.cells #[.int .i64 x0, .slice a1 x1.length c1, .slice a2 x2.length c2, .slice a3 x3.length c3] 36)).alloc (.cells #[.slice (some ad0) y0.length d0, .slice b1 y1.length d1] 38)).heap.size ((w.alloc (.cells #[.int .i64 x0, .slice a1 x1.length c1, .slice a2 x2.length c2, .slice a3 x3.length c3] 36)).alloc (.cells #[.slice (some ad0) y0.length d0, .slice b1 y1.length d1] 38)) w1 := (Below.trans (by repeat (first | exact Below.refl _ _ | refine Below.drew ?_ | refine Below.alloc ?_ (by simp) _)) (hb1.mono (by simp))); have hz1 : ((w.alloc (.cells #[.int .i64 x0, .slice a1 x1.length c1, .slice a2 x2.length c2, .slice a3 x3.length c3] 36)).alloc (.cells #[.slice (some ad0) y0.length d0, .slice b1 y1.length d1] 38)).heap.size ≤ w1.heap.size := hx1.size; (try simp at hz1); replace hl1 := hl1.lower (B' := w.heap.size + 2) (by simp <;> omega); have e1 : w1.cell? ⟨w.heap.size + 1, 1, none⟩ = some (.slice b1 y1.length d1) := by (rw [bcell1 hx1 (by simp)]; simp [go_sem]))
    | (refine step_app rfl (.tmp 18) (.tmp 21) 27 rfl tabII rfl (by decide) (w.heap.size + 2) _ _ rfl (hl1.below (below_alloc _ _)) w1.heap.size _ rfl rfl (by simp; rfl) (by have := HVL.out; have := HYL.out; omega) (by simp; omega) ?_; intro v2 w2 hl2 hb2; have hw2 : Below (w.heap.size + 2) w1 w2 := ((Below.refl _ _).alloc (by omega) _).trans hb2)
    | (refine step_app rfl (.tmp 18) (.tmp 21) 27 rfl tabII rfl (by decide) (w.heap.size + 2) _ _ rfl hl1 (w.heap.size + 2) (.slice b1 y1.length d1) rfl rfl (by rw [bcell1 hb1 (by simp)]; simp [go_sem]) (by have := HVL.out; have := HYL.out; omega) (by omega) ?_; intro v2 w2 hl2 hb2; have hw2 : Below (w.heap.size + 2) w1 w2 := hb2))
  all_goals
    have hx2 : Below (w.heap.size + 2) ((w.alloc (.cells #[.int .i64 x0, .slice a1 x1.length c1, .slice a2 x2.length c2, .slice a3 x3.length c3] 36)).alloc (.cells #[.slice (some ad0) y0.length d0, .slice b1 y1.length d1] 38)) w2 := (hx1.mono (by simp)).trans hw2
    obtain ⟨g, cg, rfl⟩ : ∃ g c, v2 = .slice (some ⟨g, 0, none⟩) (x1.length + 1) c := by
      have := hl2.ptr (by simp)
      simp only [List.length_append, List.length_singleton, HVL.out, HYL.out] at this
      exact this
    have HBG0 := Lib.hid (Bgs.start (y0 := y0) hl2 (by rw [HYL.out]) HVL.out HVR.out (K1.out.below HB0.out) (hx2.mono (by simp)) (by simp))
    exact key (Lib.hid hx2) HBG0 hl2.base
end Go.Proofs.Ytkoojiplfbcalaa
