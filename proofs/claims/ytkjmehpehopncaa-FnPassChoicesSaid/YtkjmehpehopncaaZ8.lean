/- PassChoices, the reference's: the walk. Written by mkud.py. -/
import Derived.Test.YtkjmehpehopncaaZ7
import Derived.Test.YtkjmehpehopncaaZ3
import Derived.Test.YtkjmehpehopncaaZ2
import Derived.Laws.BitsLemmas
import Derived.Test.YtkjmehpehopncaaZ4
import Derived.Test.YtkjmehpehopncaaZ5
import Derived.Test.YtkjmehpehopncaaZ6
namespace Go.Proofs.Ytkjmehpehopncaa
open Go.RowKit
/-- Where a region goes on; it has no other way out. -/
def normW (K : Act → World → Prop) : Exit → Act → World → Prop
  | .normal, a, w => K a w
  | _, _, _ => False
set_option maxHeartbeats 16000000 in
set_option maxRecDepth 100000 in
theorem walk_c (x0 : Int) (x1 : List Int) (x2 : List Bool) (x3 : List PR) (y0 : List (List Int)) (y1 : List Int) (a1 a2 a3 b0 b1 : Option Addr) (c1 c2 c3 d0 d1 : Nat) (mode : Int) (w0 : World) (h1 : SlI Any w0 a1 x1) (h2 : SlB Any w0 a2 x2) (h3 : Rd Any w0 (dPR x3) (.slice a3 x3.length c3)) (K : Nat) (hps : PsOk K x1 x2 x3) (hst : StOk K x1.length y0 y1) (pp xb : Nat)
    (hp0 : w0.cell? ⟨pp, 0, none⟩ = some (.int .i64 K)) (hp1 : w0.cell? ⟨pp, 1, none⟩ = some (.slice a1 x1.length c1)) (hp2 : w0.cell? ⟨pp, 2, none⟩ = some (.slice a2 x2.length c2)) (hp3 : w0.cell? ⟨pp, 3, none⟩ = some (.slice a3 x3.length c3)) :
    ∀ (d : Nat) (p : List Int) (ws : World) (f : Nat) (L : List (List Int)) (G : List Nat) (gl cgl : Nat) (xs : List Int) (ca : Addr) (cc : Nat), p.length + d = x3.length → okL p → (fitP x1 x2 x3 y0 y1) (padL x3.length p) = true → f ≤ 1500 → Wlk w0 ws xb pp mode f L G 24 →
      SlI Any ws (some ⟨gl, 0, none⟩) xs → Flat K x1.length xs (lev x1 x2 x3 (bagsS y0 y1) (padL x3.length p) x3.length) → SlI Any ws (some ca) p → ca.block ∉ xb :: G →
    Calls Try.prog 52 #[.pointer (some ⟨xb, 0, none⟩), .slice (some ⟨gl, 0, none⟩) xs.length cgl, .slice (some ca) p.length cc] ws (FrmW w0 ws xb pp mode f L (enumF (fitP x1 x2 x3 y0 y1) x3.length d p) G (fun c => chosenS x1 x2 x3 (bagsS y0 y1) c mode) 24) := by
  have h8 := hps.r8
  have hF := fit_ok hps hst
  have zp := World.block_lt_of_cell? w0 _ hp3
  have hm := small_mul (k := x1.length + 1) (K := K) (n := 5) (by have := hps.p4; omega) hps.k8
  have hm1 : 1 ≤ (x1.length + 1) * K := Nat.mul_pos (by omega) hps.k1
  have hxs3 := h3
  obtain ⟨_, _, e3, hxs3⟩ := Rd_PR hxs3
  cases e3
  have i3 := ix_of (P := Try.prog) tabPassRuleSM.under tabPassRuleSM.size hxs3.ptr c3
  have HRUN := Lib.hid (callFunc_run (P := Try.prog) Try.func67 (by kernel_rfl) rfl)
  have HRT := Lib.hid (callFunc_run (P := Try.prog) Try.func38 (by kernel_rfl) rfl)
  intro d
  induction d with
  | zero =>
    intro p ws f L G gl cgl xs ca cc hpd hok hfit hf hW hxs hflat hp hcn
    have hpl : p.length = x3.length := by omega
    rw [pad_fullW hpl] at hflat hfit
    have hfc : ((f + 1 : Nat) : Int) = (f : Int) + 1 := by omega
    have hWP := hW.put (f + 1) (Nat.le_trans hW.cnt (by omega))
    rw [hfc] at hWP
    have hcs := chg_set ws ⟨xb, 2, none⟩ (.int .i64 ((f : Int) + 1)) (xb :: G) (by simp)
    have q0 := hW.c0
    have q2 := hW.c2
    have qf := hW.free 2
    have qp := (hW.bel.cell (p := ⟨pp, 3, none⟩) zp).trans hp3
    have hgn : gl ≠ xb := by
      rintro rfl
      have h5 := hxs.cell 0 (by rw [hflat.1]; omega)
      simp only [adr, blk, ofs] at h5
      rw [hW.c0] at h5; cases h5
    have HW1 := Lib.hid hWP
    have HCS := Lib.hid hcs
    have hxs1 : SlI Any (ws.setCell ⟨xb, 2, none⟩ (.int .i64 ((f : Int) + 1))) (some ⟨gl, 0, none⟩) xs := hxs.chg (chg_set ws ⟨xb, 2, none⟩ (.int .i64 ((f : Int) + 1)) [xb] (by simp)) (by simpa using hgn)
    have hpx : SlI Any (ws.setCell ⟨xb, 2, none⟩ (.int .i64 ((f : Int) + 1))) (some ca) p := hp.chg hcs hcn
    have hroom : ∀ wx, Below (ws.setCell ⟨xb, 2, none⟩ (.int .i64 ((f : Int) + 1))).heap.size (ws.setCell ⟨xb, 2, none⟩ (.int .i64 ((f : Int) + 1))) wx → Calls Try.prog 66 #[.pointer (some ⟨pp, 0, none⟩), .slice (some ⟨gl, 0, none⟩) xs.length cgl, .slice (some ca) p.length cc, .int .i64 mode] wx (RetV wx (.bool (chosenS x1 x2 x3 (bagsS y0 y1) p mode))) := fun wx hb => by
      have hwx : ∀ wy, Below wx.heap.size wx wy → Below w0.heap.size w0 wy := fun wy hy => bnext hWP.bel (hb.trans (hy.mono hb.size)) (Nat.le_refl _)
      have hwx0 := hwx wx (Below.refl _ _)
      refine l06Chosen_c K x1 x2 x3 (bagsS y0 y1) a3 c3 xs.length gl cgl pp (some ca) cc p mode wx (h3.below hwx0) ((hwx0.cell (p := ⟨pp, 3, none⟩) zp).trans hp3) (hpx.below hb) hpl (fun wy hy k hk => ?_)
      have h9 := l06Room_c K x1 x2 x3 a1 a2 a3 c1 c2 c3 k xs gl cgl pp (some ca) cc p wy (h1.below (hwx wy hy)) (h2.below (hwx wy hy)) (h3.below (hwx wy hy)) (((hwx wy hy).cell (p := ⟨pp, 0, none⟩) (World.block_lt_of_cell? w0 _ hp0)).trans hp0) (((hwx wy hy).cell (p := ⟨pp, 1, none⟩) (World.block_lt_of_cell? w0 _ hp1)).trans hp1) (((hwx wy hy).cell (p := ⟨pp, 2, none⟩) (World.block_lt_of_cell? w0 _ hp2)).trans hp2) (((hwx wy hy).cell (p := ⟨pp, 3, none⟩) zp).trans hp3) hps hk ((hpx.below hb).below hy) hpl ((hxs1.below hb).below hy) hflat.1
      rw [room_flat hps hst hok hpl hk hfit hflat] at h9
      exact h9
    have hwd : ∀ x : Wd (ws.setCell ⟨xb, 2, none⟩ (.int .i64 ((f : Int) + 1))), Calls Try.prog 66 #[.pointer (some ⟨pp, 0, none⟩), .slice (some ⟨gl, 0, none⟩) xs.length cgl, .slice (some ca) p.length cc, .int .i64 mode] (wat x) (RetV (wat x) (.bool (chosenS x1 x2 x3 (bagsS y0 y1) p mode))) := fun x => hroom (wat x) (wat_below x)
    have HPX := Lib.hid hpx
    have ht : ((p.length : Int) == (x3.length : Int)) = true := by simp; omega
    have hA : (enumF (fitP x1 x2 x3 y0 y1) x3.length 0 p) = [p] := rfl
    rw [hA]
    have e0 := wat_cell (w := ws.setCell ⟨xb, 2, none⟩ (.int .i64 ((f : Int) + 1))) hWP.c0
    have e1 := wat_cell (w := ws.setCell ⟨xb, 2, none⟩ (.int .i64 ((f : Int) + 1))) hWP.c1
    have e2 := wat_cell (w := ws.setCell ⟨xb, 2, none⟩ (.int .i64 ((f : Int) + 1))) hWP.c2
    rw [hfc] at e2
    have hpm : p.length < 4294967296 := by omega
    have hLf := hW.cnt
    clear hA hW hok hfit hxs hflat hroom hxs1 hpx hWP hcs hp hcn i3 h1 h2 h3 hxs3 hpl hpd
    by_cases hle : f + 1 ≤ 1500
    · have hdec : decide ((f : Int) + 1 ≤ 1500) = true := by simp; omega
      have hdec2 : (f : Int) + 1 ≤ 1500 := by omega
      cases hch : chosenS x1 x2 x3 (bagsS y0 y1) p mode
      · rw [hch] at hwd
        have HC := Lib.hid hwd
        clear hwd
        go_enter Try.func52, Try.ntmps52
        go_wp2
        refine wp_quiet_wd (by kernel_rfl) (by kernel_rfl) ?_
        repeat (go_big_quiet_step (first | with_reducible exact wdV (HC.out _)))
        refine wpQuiet_nil ?_
        rintro _ ⟨wq', rfl⟩
        have HW2 := Lib.hid (HW1.out.next (wat_below wq'))
        have HC2 := Lib.hid (HCS.out.trans (Chg.ofBelow (wat_below wq')))
        go_wp2
        go_end0
        exact ⟨rfl, f + 1, L, G, HW2.out, HC2.out, fun g hg => .inl hg, .inl ⟨by simp; omega, by simp, by simp [hch]⟩⟩
      · rw [hch] at hwd
        have HC := Lib.hid hwd
        clear hwd
        go_enter Try.func52, Try.ntmps52
        go_wp2
        refine wp_quiet_wd (by kernel_rfl) (by kernel_rfl) ?_
        repeat (go_big_quiet_step (first | with_reducible exact wdV (HC.out _)))
        refine wpQuiet_nil ?_
        rintro _ ⟨wq', rfl⟩
        have HW2' := Lib.hid (HW1.out.next (wat_below wq'))
        have HC2' := Lib.hid (HCS.out.trans (Chg.ofBelow (wat_below wq')))
        have HP2' := Lib.hid (HPX.out.below (wat_below wq'))
        obtain ⟨wq, hwq⟩ : ∃ wq, wq = wat wq' := ⟨_, rfl⟩
        rw [← hwq] at HW2' HC2' HP2' ⊢
        have HW := HW2'
        clear hwq e0 e1 e2 HC HW1 HCS HPX HW2'
        obtain ⟨v0, hbx, hls⟩ := HW.out.lst
        obtain ⟨hln, av, cv, rfl⟩ := hls.val
        clear hln
        have HB := Lib.hid hbx
        have HLS := Lib.hid hls
        have HLT := Lib.hid HW.out.lt
        have hs0 : wq.drew.cell? ⟨xb, 3, none⟩ = some (.slice av L.length cv) := hbx
        have HCL : Hid (∀ wx, Below wq.heap.size wq wx → Calls Try.prog 67 #[.slice (some ca) p.length cc] wx (RetD wx (dI p))) := Lib.hid (fun wx hb => l00Own_c Any (some ca) cc p wx (HP2'.out.below hb) ⟨_, rfl⟩ hpm)
        clear hls hbx
        go_wp2
        rename_i K9 hK9
        refine Code.wp_mono (Q := normW K9) (fun e a w h => by cases e <;> first | exact h | exact h.elim) ?_
        refine wp_region_C (n := 12) (l := #[false, false, false, false, false, false, false, false, false, false, false, false]) (fun wx => wx.cell? ⟨xb, 3, none⟩ = some (.slice av L.length cv)) [11] (by kernel_rfl) rfl rfl ?_
        refine wpC_take (i := 0) (v := ?v0_1) (l' := #[true, false, false, false, false, false, false, false, false, false, false, false]) [9, 10, 11] rfl (by kernel_rfl) (by kernel_rfl) (by kernel_rfl) (by kernel_rfl) (by kernel_rfl) rfl (fun _ _ _ h => h) (by rfl) (fun wx hS => ?q0_1) (by assumption) ?_
        case q0_1 => (go_simp; try with_reducible rfl)
        try simp only [List.getElem_toArray, List.getElem_cons_zero, Act.put, List.setIfInBounds_toArray, List.set_cons_zero, List.set_cons_succ]
        refine wpC_take (i := 1) (v := ?v1_2) (l' := #[true, true, false, false, false, false, false, false, false, false, false, false]) [2, 3, 4, 8, 9, 10, 11] rfl (by kernel_rfl) (by kernel_rfl) (by kernel_rfl) (by kernel_rfl) (by kernel_rfl) rfl (fun _ _ _ h => h) (by rfl) (fun wx hS => ?q1_2) (by assumption) ?_
        case q1_2 => (go_simp; try with_reducible rfl)
        try simp only [List.getElem_toArray, List.getElem_cons_succ, List.getElem_cons_zero, Act.put, List.setIfInBounds_toArray, List.set_cons_zero, List.set_cons_succ]
        refine wpC_take (i := 2) (v := ?v2_3) (l' := #[true, true, true, false, false, false, false, false, false, false, false, false]) [3, 4, 8, 9, 10, 11] rfl (by kernel_rfl) (by kernel_rfl) (by kernel_rfl) (by kernel_rfl) (by kernel_rfl) rfl (fun _ _ _ h => h) (by rfl) (fun wx hS => ?q2_3) (by assumption) ?_
        case q2_3 => (go_simp; try with_reducible rfl)
        try simp only [List.getElem_toArray, List.getElem_cons_succ, List.getElem_cons_zero, Act.put, List.setIfInBounds_toArray, List.set_cons_zero, List.set_cons_succ]
        refine wpC_take (i := 3) (v := ?v3_4) (l' := #[true, true, true, true, false, false, false, false, false, false, false, false]) [4, 8, 9, 10, 11] rfl (by kernel_rfl) (by kernel_rfl) (by kernel_rfl) (by kernel_rfl) (by kernel_rfl) rfl (fun _ _ _ h => h) (by rfl) (fun wx hS => ?q3_4) (by assumption) ?_
        case q3_4 => (go_simp; try with_reducible rfl)
        try simp only [List.getElem_toArray, List.getElem_cons_succ, List.getElem_cons_zero, Act.put, List.setIfInBounds_toArray, List.set_cons_zero, List.set_cons_succ]
        refine wpC_take (i := 4) (v := ?v4_5) (l' := #[true, true, true, true, true, false, false, false, false, false, false, false]) [8, 9, 10, 11] rfl (by kernel_rfl) (by kernel_rfl) (by kernel_rfl) (by kernel_rfl) (by kernel_rfl) rfl (fun _ _ _ h => h) (by rfl) (fun wx hS => ?q4_5) (by assumption) ?_
        case q4_5 => (go_simp; try with_reducible rfl)
        try simp only [List.getElem_toArray, List.getElem_cons_succ, List.getElem_cons_zero, Act.put, List.setIfInBounds_toArray, List.set_cons_zero, List.set_cons_succ]
        refine wpC_take (i := 5) (v := ?v5_6) (l' := #[true, true, true, true, true, true, false, false, false, false, false, false]) [6, 7, 8, 9, 10, 11] rfl (by kernel_rfl) (by kernel_rfl) (by kernel_rfl) (by kernel_rfl) (by kernel_rfl) rfl (fun _ _ _ h => h) (by rfl) (fun wx hS => ?q5_6) (by assumption) ?_
        case q5_6 => (go_simp; try with_reducible rfl)
        try simp only [List.getElem_toArray, List.getElem_cons_succ, List.getElem_cons_zero, Act.put, List.setIfInBounds_toArray, List.set_cons_zero, List.set_cons_succ]
        refine wpC_one (i := 6) (l' := #[true, true, true, true, true, true, true, false, false, false, false, false]) (by kernel_rfl) rfl rfl (by rfl) (fun Kr hKr => ?_)
        refine step_callV rfl 67 #[.tmp 51] _ rfl HRUN.out #[.slice (some ca) p.length cc] (by first | rfl | (simp [Act.eval]; done) | (simp [Act.eval]; rfl) | (simp [Act.eval]; repeat' constructor)) (HCL.out _ (Below.refl _ _).drew) ?_
        rintro e wA ⟨vA, FA, rfl, hbA, hoA, hnA, hlA⟩
        refine ⟨_, rfl, ?_⟩
        have hbA2 : Below wq.heap.size wq wA := (Below.refl _ _).drew.trans hbA
        obtain ⟨aA, cA, rfl⟩ := hoA.val
        refine hKr _ _ (fun _ => (bcell1 hbA2 HLT.out.1).trans HB.out) ?_
        clear hKr Kr
        try simp only [List.getElem_toArray, List.getElem_cons_succ, List.getElem_cons_zero, Act.put, List.setIfInBounds_toArray, List.set_cons_zero, List.set_cons_succ]
        refine wpC_one (i := 7) (l' := #[true, true, true, true, true, true, true, true, false, false, false, false]) (by kernel_rfl) rfl rfl (by rfl) (fun Kr hKr => ?_)
        go_simp
        refine hKr _ _ (fun _ => (bcell1 (below_alloc wA _) (Nat.lt_of_lt_of_le HLT.out.1 hbA2.size)).trans ((bcell1 hbA2 HLT.out.1).trans HB.out)) ?_
        clear hKr Kr
        try simp only [List.getElem_toArray, List.getElem_cons_succ, List.getElem_cons_zero, Act.put, List.setIfInBounds_toArray, List.set_cons_zero, List.set_cons_succ]
        refine wpC_one (i := 8) (l' := #[true, true, true, true, true, true, true, true, true, false, false, false]) (by kernel_rfl) rfl rfl (by rfl) (fun Kr hKr => ?_)
        refine step_lst rfl (.tmp 50) (.tmp 53) 29 rfl tabII rfl (by omega) (by decide) w0.heap.size (.slice av L.length cv) L.length (L.map dI) [dI p] G FA [.slice aA p.length cA] rfl (HLS.out.below (hbA2.alloc hbA2.size _)) wA.heap.size rfl ⟨⟨FA, [], hoA.below (below_alloc _ _), rfl, by simp⟩, rfl, hnA, fun x hx => Nat.le_trans HW.out.bel.size (Nat.le_trans (by simp) (hlA x hx)), fun x hx hg => (by have h9 := hlA x hx; simp at h9; have h10 := (HLS.out.lt x hg).2; omega), fun j u hu => by match j, hu with | 0, hu => (simp at hu; subst hu; simp [go_sem]), by simp [Value.oneCell']⟩ (by omega) (by have := HW.out.bel.size; have := hbA2.size; simp; omega) ?_
        intro v7 w7 G7 hN
        obtain ⟨hl7, a7, c7, rfl⟩ := hN.lst.val
        obtain ⟨z1, z2, hW7, hC7, hG7⟩ := HW.out.add hbA2 hlA hN HLS.out HB.out (by omega)
        refine hKr _ _ (fun _ => z1) ?_
        clear hKr Kr
        try simp only [List.getElem_toArray, List.getElem_cons_succ, List.getElem_cons_zero, Act.put, List.setIfInBounds_toArray, List.set_cons_zero, List.set_cons_succ]
        have hs4 := z1
        refine wpC_take (i := 9) (v := ?v9_7) (l' := #[true, true, true, true, true, true, true, true, true, true, false, false]) [10, 11] rfl (by kernel_rfl) (by kernel_rfl) (by kernel_rfl) (by kernel_rfl) (by kernel_rfl) rfl (fun _ _ _ h => h) (by rfl) (fun wx hS => ?q9_7) (by assumption) ?_
        case q9_7 => (go_simp; try with_reducible rfl)
        try simp only [List.getElem_toArray, List.getElem_cons_succ, List.getElem_cons_zero, Act.put, List.setIfInBounds_toArray, List.set_cons_zero, List.set_cons_succ]
        refine wpC_take (i := 10) (v := ?v10_8) (l' := #[true, true, true, true, true, true, true, true, true, true, true, false]) [11] rfl (by kernel_rfl) (by kernel_rfl) (by kernel_rfl) (by kernel_rfl) (by kernel_rfl) rfl (fun _ _ _ h => h) (by rfl) (fun wx hS => ?q10_8) (by assumption) ?_
        case q10_8 => (go_simp; try with_reducible rfl)
        try simp only [List.getElem_toArray, List.getElem_cons_succ, List.getElem_cons_zero, Act.put, List.setIfInBounds_toArray, List.set_cons_zero, List.set_cons_succ]
        refine wpC_one (i := 11) (l' := #[true, true, true, true, true, true, true, true, true, true, true, true]) (by kernel_rfl) rfl rfl (by rfl) (fun Kr hKr => ?_)
        go_simp
        refine hKr _ _ (fun h => absurd (by decide) h) ?_
        clear hKr Kr
        try simp only [List.getElem_toArray, List.getElem_cons_succ, List.getElem_cons_zero, Act.put, List.setIfInBounds_toArray, List.set_cons_zero, List.set_cons_succ]
        refine wpC_done (by kernel_rfl) ?_ _
        skip
        refine hK9 _ _ ?_
        have HW7 := Lib.hid hW7
        have HC7 := Lib.hid (HC2'.out.compU hC7 (fun g hg => .inl hg))
        have HG7 := Lib.hid hG7
        have HSZ := Lib.hid HC2'.out.size
        clear hN hbA2 hbA hoA hnA hlA hs0 hs4 z1 z2 hK9 hW7 hC7 hG7
        go_wp2
        go_end0
        exact ⟨rfl, f + 1, L ++ [p], G7, HW7.out, HC7.out, fun g hg => (HG7.out g hg).imp id (fun h => Nat.le_trans HSZ.out h), .inl ⟨by simp; omega, by simp, by simp [hch]⟩⟩
    · have hdec : decide ((f : Int) + 1 ≤ 1500) = false := by simp; omega
      have hdec2 : ¬ (f : Int) + 1 ≤ 1500 := by omega
      clear hwd
      go_enter Try.func52, Try.ntmps52
      go_wp2
      refine wp_quiet_wd (by kernel_rfl) (by kernel_rfl) ?_
      repeat (go_big_quiet_step (fail))
      refine wpQuiet_nil ?_
      rintro _ ⟨wq', rfl⟩
      have HW2 := Lib.hid (HW1.out.next (wat_below wq'))
      have HC2 := Lib.hid (HCS.out.trans (Chg.ofBelow (wat_below wq')))
      go_wp2
      go_end0
      exact ⟨rfl, f + 1, L, G, HW2.out, HC2.out, fun g hg => .inl hg, .inr ⟨by simp; omega, by omega⟩⟩
  | succ d ih =>
    intro p ws f L G gl cgl xs ca cc hpd hok hfit hf hW hxs hflat hp hcn
    have hkm : p.length < x3.length := by omega
    have ht : ((p.length : Int) == (x3.length : Int)) = false := by simp; omega
    have q0 := hW.c0
    have qp := (hW.bel.cell (p := ⟨pp, 3, none⟩) zp).trans hp3
    have hxl : xs.length = (x1.length + 1) * K := hflat.1
    have hxl40 : xs.length ≤ 40 := by omega
    have hxl1 : 1 ≤ xs.length := by omega
    have hpl8 : p.length ≤ 8 := by omega
    have HIH := Lib.hid (fun (q : Nat) (hq : q ≤ 1000) (hfq : (fitP x1 x2 x3 y0 y1) (padL x3.length (p ++ [(q : Int)])) = true) wx f' L' G' gm cg xs2 cb cd hf' hWx hxs2 hfl2 hpq hcn2 => ih (p ++ [(q : Int)]) wx f' L' G' gm cg xs2 cb cd (by simp; omega) (hok.snoc hq) hfq hf' hWx hxs2 hfl2 hpq hcn2)
    have HNX := Lib.hid (fun (q : Nat) (hq : q ≤ 1000) (hfq : (fitP x1 x2 x3 y0 y1) (padL x3.length (p ++ [(q : Int)])) = true) (xs2 : List Int) hx => take_next (xs := xs2) hps hst hkm hok hq hfq hx)
    have HXT := Lib.hid (fun (q : Nat) (h : q < ext (fitP x1 x2 x3 y0 y1) x3.length p) => And.intro (ext_1000 h) (ext_fit h))
    have HXI : Hid (∀ q : Nat, q ≤ 1001 → ((fitP x1 x2 x3 y0 y1) (padL x3.length (p ++ [(q : Int)])) = true ↔ q < ext (fitP x1 x2 x3 y0 y1) x3.length p)) := Lib.hid (fun (q : Nat) (h : q ≤ 1001) => ext_iff (n := q) hF hkm hok h)
    have hx0 : 0 < ext (fitP x1 x2 x3 y0 y1) x3.length p := (ext_iff (n := 0) hF hkm hok (by omega)).1 (by rw [show ((0 : Nat) : Int) = 0 from rfl, pad_zeroW hkm]; exact hfit)
    have hx1 := ext_le (fit := (fitP x1 x2 x3 y0 y1)) (m := x3.length) p
    have HFL0 : Hid (Flat K x1.length xs (lev x1 x2 x3 (bagsS y0 y1) (padL x3.length (p ++ [((0 : Nat) : Int)])) x3.length)) := Lib.hid (by rw [show ((0 : Nat) : Int) = 0 from rfl, pad_zeroW hkm]; exact hflat)
    have HTKA := Lib.hid (fun (xs2 : List Int) gm cg wx hb hbl hlen => takeG_at K x1 x2 x3 a1 a2 a3 c1 c2 c3 p.length 1 xs2 gm cg pp w0 wx h1 h2 h3 hp0 hp1 hp2 hp3 hps hkm hb hbl hlen)
    have HJ : Hid (∀ w', (Instr.indexAt 26 (.slice a3 x3.length c3) (.int .i64 (p.length : Int))).run Try.prog w' = .ok (.pointer (some ⟨blk a3, ofs a3 + p.length * 3, none⟩)) w') := Lib.hid (fun w' => by
      have h9 := i3 p.length w' (by omega) (by omega)
      simpa only [Int.toNat_natCast, adr] using h9)
    have HW := Lib.hid hW
    have HP := Lib.hid hp
    have HCN := Lib.hid hcn
    have HLT := Lib.hid hW.lt
    have hzx : xb < ws.heap.size := hW.lt.1
    have hzb := hW.base
    have HP3 := Lib.hid hp3
    have HXL := Lib.hid hxl
    clear ih hfit hok hW hp hcn hflat h1 h2 h3 i3 hxs3 hpd hp0 hp1 hp2 hp3 hps hst hF hxl hm hm1
    go_enter Try.func52, Try.ntmps52
    go_wp2_with fail
    refine (l00OwnB_c Any (some ⟨gl, 0, none⟩) cgl xs ws hxs ⟨_, rfl⟩ (by omega)).mono ?_
    rintro e wm ⟨vm, rfl, hbm, hlm⟩
    obtain ⟨gm, cg, rfl⟩ : ∃ g c, vm = .slice (some ⟨g, 0, none⟩) xs.length c := by
      have := Bld.ptr hlm (by simp; omega)
      simpa using this
    have hgm : ws.heap.size ≤ gm := (Bld.base hlm).1
    have HB0 := Lib.hid hbm
    have HL0 := Lib.hid (hlm.lower (B' := w0.heap.size) HW.out.bel.size)
    clear hbm hlm hxs q0 qp
    go_wp2
    go_loopw [8] (fun n wr => ∃ (q f' : Nat) (L' : List (List Int)) (G' : List Nat) (xs2 : List Int), q < ext (fitP x1 x2 x3 y0 y1) x3.length p ∧ n = .int .i64 q ∧ xs2.length = xs.length ∧ Hid (Flat K x1.length xs2 (lev x1 x2 x3 (bagsS y0 y1) (padL x3.length (p ++ [(q : Int)])) x3.length)) ∧ Hid (Ans f L (enumP (fitP x1 x2 x3 y0 y1) x3.length d p q) (fun c => chosenS x1 x2 x3 (bagsS y0 y1) c mode) f' L') ∧ Hid (Wlk w0 wr xb pp mode f' L' G' 24) ∧ Hid (Chg (xb :: G) ws wr) ∧ Hid (∀ g, g ∈ G' → g ∈ G ∨ ws.heap.size ≤ g) ∧ Hid (gm ∉ G') ∧ Hid (Bld 2 wr w0.heap.size (.slice (some ⟨gm, 0, none⟩) xs.length cg) (xs2.map (.int .i64)))) (fun n _ => 1001 - (intOf n).toNat)
    case atStart => exact ⟨0, f, L, G, xs, hx0, rfl, rfl, HFL0, Lib.hid (Ans.nil hf _ _), Lib.hid (HW.out.next HB0.out), Lib.hid (Chg.ofBelow HB0.out), Lib.hid (fun g hg => .inl hg), Lib.hid (fun hg => by have := (HLT.out.2 _ hg).2; omega), HL0⟩
    case round =>
      obtain ⟨q, f', L', G', xs2, hq, rfl, hxs2, HFL, HA, HWr, HC, HG, HNG, HBL⟩ := hrel
      have t0 := HWr.out.c0
      have t2 := HWr.out.c2
      by_cases hle : f' ≤ 1500
      · have hdec : decide ((f' : Int) ≤ 1500) = true := by simp; omega
        have hdec2 : (f' : Int) ≤ 1500 := by omega
        obtain ⟨hq1, hfq⟩ := HXT.out q hq
        have HFQ := Lib.hid hfq
        have hq2 : (q : Int) ≤ 1000 := by omega
        have hq3 : decide ((q : Int) ≤ 1000) = true := by simp; omega
        clear hfq
        go_wp2_with fail
        refine (l00OwnB_c Any (some ca) cc p wr (HP.out.chg HC.out HCN.out) ⟨ca, rfl⟩ (by omega)).mono ?_
        rintro e w1 ⟨v1, rfl, hb1, hl1⟩
        have hz1 := hb1.size
        have hl1' := hl1.below (below_alloc w1 (.cells #[.int .i64 q] 2))
        have HB1 := Lib.hid hb1
        clear hb1 hl1 t0 t2
        go_wp2_with (at_builtin; refine app_one rfl _ _ 24 rfl tabI rfl (by decide) wr.heap.size _ _ rfl hl1' w1.heap.size (.int .i64 q) rfl rfl ?c1 ?c2 ?c3 ?_)
        case c1 => simp
        case c2 => simp; omega
        case c3 => simp; omega
        intro v2 w2 hl2 hb2
        obtain ⟨a2', c2', F2, rfl, ho2, hn2, hF2⟩ := (show Bld 2 w2 wr.heap.size v2 ((p ++ [(q : Int)]).map (.int .i64)) from (by simpa using hl2)).ow (by simp; unfold maxLen; omega)
        have hw2 : Below wr.heap.size wr w2 := (HB1.out.alloc hz1 _).trans hb2
        obtain ⟨ad2, rfl, had2⟩ : ∃ ad2, a2' = some ad2 ∧ wr.heap.size ≤ ad2.block := by
          have ho := ho2.own
          rcases ho.foot with ⟨h, _⟩ | ⟨_, ⟨g, o, rfl⟩, hF⟩
          · simp at h
          · exact ⟨_, rfl, hF2 _ (by rw [hF]; simp [blk])⟩
        have hglt := HWr.out.lt
        have hgml : gm < wr.heap.size := (Bld.base HBL.out).2
        have hcall := HIH.out q hq1 HFQ.out w2 f' L' G' gm cg xs2 ad2 c2' hle (HWr.out.next hw2) (SlI.ofBld (HBL.out.below hw2) (by rw [hxs2]; unfold maxLen; omega)).any HFL.out ho2.arg (by simp; exact ⟨fun e => by have := hglt.1; omega, fun hg => by have := (hglt.2 _ hg).2; omega⟩)
        have hlen2 : (p ++ [(q : Int)]).length = p.length + 1 := by simp
        rw [hlen2, hxs2] at hcall
        have HCL := Lib.hid hcall
        have HW2 := Lib.hid hw2
        clear hcall hw2 hl1' hl2 hb2 ho2 hlen2 hglt
        go_wp2_with fail
        refine HCL.out.mono ?_
        rintro e w3 ⟨rfl, f3, L3, G3, hW3, hC3, hG3, hA3⟩
        have hn9 : gm ∉ xb :: G' := by simp; exact ⟨by omega, HNG.out⟩
        have HBL3 := Lib.hid ((HBL.out.below HW2.out).keepC hC3 hn9)
        have HC3 : Hid (Chg (xb :: G) ws w3) := Lib.hid ((HC.out.trans (Chg.ofBelow HW2.out)).compU hC3 (fun g hg => by
          rcases List.mem_cons.1 hg with rfl | hg
          · exact .inl (List.mem_cons_self ..)
          · exact (HG.out g hg).imp (List.mem_cons_of_mem _) id))
        have HG3 : Hid (∀ g, g ∈ G3 → g ∈ G ∨ ws.heap.size ≤ g) := Lib.hid (fun g hg => by
          rcases hG3 g hg with h | h
          · exact HG.out g h
          · exact .inr (Nat.le_trans HC.out.size (Nat.le_trans HW2.out.size h)))
        have HNG3 : Hid (gm ∉ G3) := Lib.hid (fun hg => by
          rcases hG3 gm hg with h | h
          · exact HNG.out h
          · have := HW2.out.size; omega)
        have HA3 : Hid (Ans f L (enumP (fitP x1 x2 x3 y0 y1) x3.length d p (q + 1)) (fun c => chosenS x1 x2 x3 (bagsS y0 y1) c mode) f3 L3) := Lib.hid (by rw [enumP_succ]; exact HA.out.app hle hA3)
        have HW3 := Lib.hid hW3
        obtain ⟨hnb, hnf⟩ := HNX.out q hq1 HFQ.out xs2 HFL.out
        obtain ⟨T, hT⟩ : ∃ T, T = takeF (cellN (nthPR x3 p.length) * K) (upN x1 (nthPR x3 p.length) * K) x2 (nthPR x3 p.length) 1 xs2 K := ⟨_, rfl⟩
        have hT1 : T.1.length = xs2.length := by rw [hT]; exact takeF_len _ _ _ _ _ _ _
        rw [← hT] at hnb hnf
        have HNF := Lib.hid hnf
        have hTK : ∀ wx, Below w3.heap.size w3 wx → Calls Try.prog 38 #[.pointer (some ⟨pp, 0, none⟩), .slice (some ⟨gm, 0, none⟩) xs.length cg, .pointer (some ⟨blk a3, ofs a3 + p.length * 3, none⟩), .int .i64 1] wx (fun e w' => (e = .returned (.bool ((fitP x1 x2 x3 y0 y1) (padL x3.length (p ++ [((q + 1 : Nat) : Int)])))) ∧ Bld 2 w' w0.heap.size (.slice (some ⟨gm, 0, none⟩) xs.length cg) (T.1.map (.int .i64))) ∧ BelG w0.heap.size gm wx w') := fun wx hb => by
          have h9 := HTKA.out xs2 gm cg wx (bnext HW3.out.bel hb (Nat.le_refl _)) (by rw [hxs2]; exact HBL3.out.below hb) (by rw [hxs2]; exact HXL.out)
          rw [hxs2, ← hT] at h9
          refine h9.mono ?_
          rintro e w' ⟨⟨he, hl⟩, hg⟩
          exact ⟨⟨by rw [he, hnb], hl⟩, hg⟩
        have HT1 := Lib.hid hT1
        have HNB := Lib.hid hnb
        have HS5 : Hid (∀ w5, BelG w0.heap.size gm w3.drew w5 → w5.cell? ⟨xb, 0, none⟩ = some (.pointer (some ⟨pp, 0, none⟩)) ∧ w5.cell? ⟨pp, 3, none⟩ = some (.slice a3 x3.length c3)) := Lib.hid (fun w5 h5 =>
          ⟨(h5.chg.cell HW3.out.lt.1 (by simp; omega) 0).trans HW3.out.c0, ((h5.bel.cell (p := ⟨pp, 3, none⟩) zp).trans (HW3.out.bel.cell (p := ⟨pp, 3, none⟩) zp)).trans HP3.out⟩)
        have hs0 : w3.drew.cell? ⟨xb, 0, none⟩ = some (.pointer (some ⟨pp, 0, none⟩)) ∧ w3.drew.cell? ⟨pp, 3, none⟩ = some (.slice a3 x3.length c3) := ⟨HW3.out.c0, (HW3.out.bel.cell (p := ⟨pp, 3, none⟩) zp).trans HP3.out⟩
        have HXIQ := HXI.out (q + 1) (by omega)
        cases hbq : (fitP x1 x2 x3 y0 y1) (padL x3.length (p ++ [((q + 1 : Nat) : Int)]))
        · rw [hbq] at hTK HXIQ
          have HTK := Lib.hid hTK
          have HEND : Hid (Ans f L (enumF (fitP x1 x2 x3 y0 y1) x3.length (d + 1) p) (fun c => chosenS x1 x2 x3 (bagsS y0 y1) c mode) f3 L3) := Lib.hid (by
            have e : q + 1 = ext (fitP x1 x2 x3 y0 y1) x3.length p := by
              have := mt HXIQ.2 (by simp)
              omega
            rw [← enumP_ext, ← e]; exact HA3.out)
          clear hTK hbq HXIQ hT hT1 hnb hnf hW3 hC3 hG3 hA3 HNB
          go_wp2
          rename_i K9 hK9
          refine Code.wp_mono (Q := normW K9) (fun e a w h => by cases e <;> first | exact h | exact h.elim) ?_
          refine wp_region_C (n := 16) (l := #[false, false, false, false, false, false, false, false, false, false, false, false, false, false, false, false]) (fun wx => wx.cell? ⟨xb, 0, none⟩ = some (.pointer (some ⟨pp, 0, none⟩)) ∧ wx.cell? ⟨pp, 3, none⟩ = some (.slice a3 x3.length c3)) [] (by kernel_rfl) rfl rfl ?_
          refine wpC_take (i := 0) (v := ?v0_9) (l' := #[true, false, false, false, false, false, false, false, false, false, false, false, false, false, false, false]) [1, 2, 3, 14, 15] rfl (by kernel_rfl) (by kernel_rfl) (by kernel_rfl) (by kernel_rfl) (by kernel_rfl) rfl (fun _ _ _ h => h) (by rfl) (fun wx hS => ?q0_9) (by assumption) ?_
          case q0_9 => (go_simp; try with_reducible rfl)
          try simp only [List.getElem_toArray, List.getElem_cons_zero, Act.put, List.setIfInBounds_toArray, List.set_cons_zero, List.set_cons_succ]
          refine wpC_take (i := 1) (v := ?v1_10) (l' := #[true, true, false, false, false, false, false, false, false, false, false, false, false, false, false, false]) [2, 3, 14, 15] rfl (by kernel_rfl) (by kernel_rfl) (by kernel_rfl) (by kernel_rfl) (by kernel_rfl) rfl (fun _ _ _ h => h) (by rfl) (fun wx hS => ?q1_10) (by assumption) ?_
          case q1_10 => (go_simp; try with_reducible rfl)
          try simp only [List.getElem_toArray, List.getElem_cons_succ, List.getElem_cons_zero, Act.put, List.setIfInBounds_toArray, List.set_cons_zero, List.set_cons_succ]
          refine wpC_take (i := 2) (v := ?v2_11) (l' := #[true, true, true, false, false, false, false, false, false, false, false, false, false, false, false, false]) [3, 14, 15] rfl (by kernel_rfl) (by kernel_rfl) (by kernel_rfl) (by kernel_rfl) (by kernel_rfl) rfl (fun _ _ _ h => h) (by rfl) (fun wx hS => ?q2_11) (by assumption) ?_
          case q2_11 => (go_simp; try with_reducible rfl)
          try simp only [List.getElem_toArray, List.getElem_cons_succ, List.getElem_cons_zero, Act.put, List.setIfInBounds_toArray, List.set_cons_zero, List.set_cons_succ]
          refine wpC_take (i := 3) (v := ?v3_12) (l' := #[true, true, true, true, false, false, false, false, false, false, false, false, false, false, false, false]) [14, 15] rfl (by kernel_rfl) (by kernel_rfl) (by kernel_rfl) (by kernel_rfl) (by kernel_rfl) rfl (fun _ _ _ h => h) (by rfl) (fun wx hS => ?q3_12) (by assumption) ?_
          case q3_12 => ((try dsimp only at hS); obtain ⟨hS1, hS2⟩ := hS; go_simp; try with_reducible rfl)
          try simp only [List.getElem_toArray, List.getElem_cons_succ, List.getElem_cons_zero, Act.put, List.setIfInBounds_toArray, List.set_cons_zero, List.set_cons_succ]
          refine wpC_take (i := 4) (v := ?v4_13) (l' := #[true, true, true, true, true, false, false, false, false, false, false, false, false, false, false, false]) [14, 15] rfl (by kernel_rfl) (by kernel_rfl) (by kernel_rfl) (by kernel_rfl) (by kernel_rfl) rfl (fun _ _ _ h => h) (by rfl) (fun wx hS => ?q4_13) (by assumption) ?_
          case q4_13 => (go_simp; try with_reducible rfl)
          try simp only [List.getElem_toArray, List.getElem_cons_succ, List.getElem_cons_zero, Act.put, List.setIfInBounds_toArray, List.set_cons_zero, List.set_cons_succ]
          refine wpC_take (i := 5) (v := ?v5_14) (l' := #[true, true, true, true, true, true, false, false, false, false, false, false, false, false, false, false]) [6, 7, 8, 9, 10, 11, 13, 14, 15] rfl (by kernel_rfl) (by kernel_rfl) (by kernel_rfl) (by kernel_rfl) (by kernel_rfl) rfl (fun _ _ _ h => h) (by rfl) (fun wx hS => ?q5_14) (by assumption) ?_
          case q5_14 => (go_simp; try with_reducible rfl)
          try simp only [List.getElem_toArray, List.getElem_cons_succ, List.getElem_cons_zero, Act.put, List.setIfInBounds_toArray, List.set_cons_zero, List.set_cons_succ]
          refine wpC_take (i := 6) (v := ?v6_15) (l' := #[true, true, true, true, true, true, true, false, false, false, false, false, false, false, false, false]) [7, 8, 9, 10, 11, 13, 14, 15] rfl (by kernel_rfl) (by kernel_rfl) (by kernel_rfl) (by kernel_rfl) (by kernel_rfl) rfl (fun _ _ _ h => h) (by rfl) (fun wx hS => ?q6_15) (by assumption) ?_
          case q6_15 => (go_simp; try with_reducible rfl)
          try simp only [List.getElem_toArray, List.getElem_cons_succ, List.getElem_cons_zero, Act.put, List.setIfInBounds_toArray, List.set_cons_zero, List.set_cons_succ]
          refine wpC_take (i := 7) (v := ?v7_16) (l' := #[true, true, true, true, true, true, true, true, false, false, false, false, false, false, false, false]) [8, 9, 10, 11, 13, 14, 15] rfl (by kernel_rfl) (by kernel_rfl) (by kernel_rfl) (by kernel_rfl) (by kernel_rfl) rfl (fun _ _ _ h => h) (by rfl) (fun wx hS => ?q7_16) (by assumption) ?_
          case q7_16 => (go_simp; try with_reducible rfl)
          try simp only [List.getElem_toArray, List.getElem_cons_succ, List.getElem_cons_zero, Act.put, List.setIfInBounds_toArray, List.set_cons_zero, List.set_cons_succ]
          refine wpC_take (i := 8) (v := ?v8_17) (l' := #[true, true, true, true, true, true, true, true, true, false, false, false, false, false, false, false]) [9, 10, 11, 13, 14, 15] rfl (by kernel_rfl) (by kernel_rfl) (by kernel_rfl) (by kernel_rfl) (by kernel_rfl) rfl (fun _ _ _ h => h) (by rfl) (fun wx hS => ?q8_17) (by assumption) ?_
          case q8_17 => ((try dsimp only at hS); obtain ⟨hS1, hS2⟩ := hS; go_simp; try with_reducible rfl)
          try simp only [List.getElem_toArray, List.getElem_cons_succ, List.getElem_cons_zero, Act.put, List.setIfInBounds_toArray, List.set_cons_zero, List.set_cons_succ]
          refine wpC_take (i := 9) (v := ?v9_18) (l' := #[true, true, true, true, true, true, true, true, true, true, false, false, false, false, false, false]) [10, 11, 13, 14, 15] rfl (by kernel_rfl) (by kernel_rfl) (by kernel_rfl) (by kernel_rfl) (by kernel_rfl) rfl (fun _ _ _ h => h) (by rfl) (fun wx hS => ?q9_18) (by assumption) ?_
          case q9_18 => (go_simp; try with_reducible rfl)
          try simp only [List.getElem_toArray, List.getElem_cons_succ, List.getElem_cons_zero, Act.put, List.setIfInBounds_toArray, List.set_cons_zero, List.set_cons_succ]
          refine wpC_take (i := 10) (v := ?v10_19) (l' := #[true, true, true, true, true, true, true, true, true, true, true, false, false, false, false, false]) [11, 13, 14, 15] rfl (by kernel_rfl) (by kernel_rfl) (by kernel_rfl) (by kernel_rfl) (by kernel_rfl) rfl (fun _ _ _ h => h) (by rfl) (fun wx hS => ?q10_19) (by assumption) ?_
          case q10_19 => (go_simp; try with_reducible rfl)
          try simp only [List.getElem_toArray, List.getElem_cons_succ, List.getElem_cons_zero, Act.put, List.setIfInBounds_toArray, List.set_cons_zero, List.set_cons_succ]
          refine wpC_take (i := 11) (v := ?v11_20) (l' := #[true, true, true, true, true, true, true, true, true, true, true, true, false, false, false, false]) [13, 14, 15] rfl (by kernel_rfl) (by kernel_rfl) (by kernel_rfl) (by kernel_rfl) (by kernel_rfl) rfl (fun _ _ _ h => h) (by rfl) (fun wx hS => ?q11_20) (by assumption) ?_
          case q11_20 => ((try dsimp only at hS); obtain ⟨hS1, hS2⟩ := hS; go_simp; try with_reducible rfl)
          try simp only [List.getElem_toArray, List.getElem_cons_succ, List.getElem_cons_zero, Act.put, List.setIfInBounds_toArray, List.set_cons_zero, List.set_cons_succ]
          refine wpC_take (i := 12) (v := ?v12_21) (l' := #[true, true, true, true, true, true, true, true, true, true, true, true, true, false, false, false]) [13, 14, 15] rfl (by kernel_rfl) (by kernel_rfl) (by kernel_rfl) (by kernel_rfl) (by kernel_rfl) rfl (fun _ _ _ h => h) (by rfl) (fun wx hS => ?q12_21) (by assumption) ?_
          case q12_21 => (go_simp; try with_reducible rfl)
          try simp only [List.getElem_toArray, List.getElem_cons_succ, List.getElem_cons_zero, Act.put, List.setIfInBounds_toArray, List.set_cons_zero, List.set_cons_succ]
          refine wpC_take (i := 13) (v := ?v13_22) (l' := #[true, true, true, true, true, true, true, true, true, true, true, true, true, true, false, false]) [14, 15] rfl (by kernel_rfl) (by kernel_rfl) (by kernel_rfl) (by kernel_rfl) (by kernel_rfl) rfl (fun _ _ _ h => h) (by rfl) (fun wx hS => ?q13_22) (by assumption) ?_
          case q13_22 => (have jq := HJ.out; go_simp; try with_reducible rfl)
          try simp only [List.getElem_toArray, List.getElem_cons_succ, List.getElem_cons_zero, Act.put, List.setIfInBounds_toArray, List.set_cons_zero, List.set_cons_succ]
          refine wpC_one (i := 14) (l' := #[true, true, true, true, true, true, true, true, true, true, true, true, true, true, true, false]) (by kernel_rfl) rfl rfl (by rfl) (fun Kr hKr => ?_)
          refine step_callV rfl 38 #[.tmp 81, .tmp 82, .tmp 91, .const (.int .i64 1)] _ rfl HRT.out #[.pointer (some ⟨pp, 0, none⟩), .slice (some ⟨gm, 0, none⟩) xs.length cg, .pointer (some ⟨blk a3, ofs a3 + p.length * 3, none⟩), .int .i64 1] (by first | rfl | (simp [Act.eval]; done) | (simp [Act.eval]; rfl) | (simp [Act.eval]; repeat' constructor)) (HTK.out _ (Below.refl _ _).drew) ?_
          rintro e w5 ⟨⟨rfl, hbl5⟩, hb5⟩
          refine ⟨_, rfl, ?_⟩
          have hs5 := HS5.out _ hb5
          refine hKr _ _ (fun _ => hs5) ?_
          clear hKr Kr
          try simp only [List.getElem_toArray, List.getElem_cons_succ, List.getElem_cons_zero, Act.put, List.setIfInBounds_toArray, List.set_cons_zero, List.set_cons_succ]
          refine wpC_take (i := 15) (v := ?v15_23) (l' := #[true, true, true, true, true, true, true, true, true, true, true, true, true, true, true, true]) [] rfl (by kernel_rfl) (by kernel_rfl) (by kernel_rfl) (by kernel_rfl) (by kernel_rfl) rfl (fun _ _ _ h => h) (by rfl) (fun wx hS => ?q15_23) (by assumption) ?_
          case q15_23 => (go_simp; try with_reducible rfl)
          try simp only [List.getElem_toArray, List.getElem_cons_succ, List.getElem_cons_zero, Act.put, List.setIfInBounds_toArray, List.set_cons_zero, List.set_cons_succ]
          refine wpC_done (by kernel_rfl) ?_ _
          skip
          refine hK9 _ _ ?_
          have hch5 : Chg [gm] w3 w5 := (Chg.ofBelow (Below.refl _ _).drew).trans hb5.chg
          have HW5 := Lib.hid (HW3.out.keep (F := [gm]) hch5 (by simp; omega) (fun g hg => by simp; rintro rfl; exact HNG3.out hg) (by simp; omega))
          have HC5 := Lib.hid (HC3.out.compU hch5 (fun g hg => by simp at hg; subst hg; exact .inr hgm))
          clear hs0 hs5 hb5 hbl5 hK9 hch5
          go_wp2
          go_end0
          exact ⟨rfl, f3, L3, G3, HW5.out, HC5.out, HG3.out, HEND.out⟩
        · rw [hbq] at hTK HXIQ
          have HTK := Lib.hid hTK
          have hq9 : q + 1 < ext (fitP x1 x2 x3 y0 y1) x3.length p := HXIQ.1 rfl
          clear hTK hbq HXIQ hT hT1 hnb hnf hW3 hC3 hG3 hA3 HNB
          go_wp2
          rename_i K9 hK9
          refine Code.wp_mono (Q := normW K9) (fun e a w h => by cases e <;> first | exact h | exact h.elim) ?_
          refine wp_region_C (n := 16) (l := #[false, false, false, false, false, false, false, false, false, false, false, false, false, false, false, false]) (fun wx => wx.cell? ⟨xb, 0, none⟩ = some (.pointer (some ⟨pp, 0, none⟩)) ∧ wx.cell? ⟨pp, 3, none⟩ = some (.slice a3 x3.length c3)) [] (by kernel_rfl) rfl rfl ?_
          refine wpC_take (i := 0) (v := ?v0_24) (l' := #[true, false, false, false, false, false, false, false, false, false, false, false, false, false, false, false]) [1, 2, 3, 14, 15] rfl (by kernel_rfl) (by kernel_rfl) (by kernel_rfl) (by kernel_rfl) (by kernel_rfl) rfl (fun _ _ _ h => h) (by rfl) (fun wx hS => ?q0_24) (by assumption) ?_
          case q0_24 => (go_simp; try with_reducible rfl)
          try simp only [List.getElem_toArray, List.getElem_cons_zero, Act.put, List.setIfInBounds_toArray, List.set_cons_zero, List.set_cons_succ]
          refine wpC_take (i := 1) (v := ?v1_25) (l' := #[true, true, false, false, false, false, false, false, false, false, false, false, false, false, false, false]) [2, 3, 14, 15] rfl (by kernel_rfl) (by kernel_rfl) (by kernel_rfl) (by kernel_rfl) (by kernel_rfl) rfl (fun _ _ _ h => h) (by rfl) (fun wx hS => ?q1_25) (by assumption) ?_
          case q1_25 => (go_simp; try with_reducible rfl)
          try simp only [List.getElem_toArray, List.getElem_cons_succ, List.getElem_cons_zero, Act.put, List.setIfInBounds_toArray, List.set_cons_zero, List.set_cons_succ]
          refine wpC_take (i := 2) (v := ?v2_26) (l' := #[true, true, true, false, false, false, false, false, false, false, false, false, false, false, false, false]) [3, 14, 15] rfl (by kernel_rfl) (by kernel_rfl) (by kernel_rfl) (by kernel_rfl) (by kernel_rfl) rfl (fun _ _ _ h => h) (by rfl) (fun wx hS => ?q2_26) (by assumption) ?_
          case q2_26 => (go_simp; try with_reducible rfl)
          try simp only [List.getElem_toArray, List.getElem_cons_succ, List.getElem_cons_zero, Act.put, List.setIfInBounds_toArray, List.set_cons_zero, List.set_cons_succ]
          refine wpC_take (i := 3) (v := ?v3_27) (l' := #[true, true, true, true, false, false, false, false, false, false, false, false, false, false, false, false]) [14, 15] rfl (by kernel_rfl) (by kernel_rfl) (by kernel_rfl) (by kernel_rfl) (by kernel_rfl) rfl (fun _ _ _ h => h) (by rfl) (fun wx hS => ?q3_27) (by assumption) ?_
          case q3_27 => ((try dsimp only at hS); obtain ⟨hS1, hS2⟩ := hS; go_simp; try with_reducible rfl)
          try simp only [List.getElem_toArray, List.getElem_cons_succ, List.getElem_cons_zero, Act.put, List.setIfInBounds_toArray, List.set_cons_zero, List.set_cons_succ]
          refine wpC_take (i := 4) (v := ?v4_28) (l' := #[true, true, true, true, true, false, false, false, false, false, false, false, false, false, false, false]) [14, 15] rfl (by kernel_rfl) (by kernel_rfl) (by kernel_rfl) (by kernel_rfl) (by kernel_rfl) rfl (fun _ _ _ h => h) (by rfl) (fun wx hS => ?q4_28) (by assumption) ?_
          case q4_28 => (go_simp; try with_reducible rfl)
          try simp only [List.getElem_toArray, List.getElem_cons_succ, List.getElem_cons_zero, Act.put, List.setIfInBounds_toArray, List.set_cons_zero, List.set_cons_succ]
          refine wpC_take (i := 5) (v := ?v5_29) (l' := #[true, true, true, true, true, true, false, false, false, false, false, false, false, false, false, false]) [6, 7, 8, 9, 10, 11, 13, 14, 15] rfl (by kernel_rfl) (by kernel_rfl) (by kernel_rfl) (by kernel_rfl) (by kernel_rfl) rfl (fun _ _ _ h => h) (by rfl) (fun wx hS => ?q5_29) (by assumption) ?_
          case q5_29 => (go_simp; try with_reducible rfl)
          try simp only [List.getElem_toArray, List.getElem_cons_succ, List.getElem_cons_zero, Act.put, List.setIfInBounds_toArray, List.set_cons_zero, List.set_cons_succ]
          refine wpC_take (i := 6) (v := ?v6_30) (l' := #[true, true, true, true, true, true, true, false, false, false, false, false, false, false, false, false]) [7, 8, 9, 10, 11, 13, 14, 15] rfl (by kernel_rfl) (by kernel_rfl) (by kernel_rfl) (by kernel_rfl) (by kernel_rfl) rfl (fun _ _ _ h => h) (by rfl) (fun wx hS => ?q6_30) (by assumption) ?_
          case q6_30 => (go_simp; try with_reducible rfl)
          try simp only [List.getElem_toArray, List.getElem_cons_succ, List.getElem_cons_zero, Act.put, List.setIfInBounds_toArray, List.set_cons_zero, List.set_cons_succ]
          refine wpC_take (i := 7) (v := ?v7_31) (l' := #[true, true, true, true, true, true, true, true, false, false, false, false, false, false, false, false]) [8, 9, 10, 11, 13, 14, 15] rfl (by kernel_rfl) (by kernel_rfl) (by kernel_rfl) (by kernel_rfl) (by kernel_rfl) rfl (fun _ _ _ h => h) (by rfl) (fun wx hS => ?q7_31) (by assumption) ?_
          case q7_31 => (go_simp; try with_reducible rfl)
          try simp only [List.getElem_toArray, List.getElem_cons_succ, List.getElem_cons_zero, Act.put, List.setIfInBounds_toArray, List.set_cons_zero, List.set_cons_succ]
          refine wpC_take (i := 8) (v := ?v8_32) (l' := #[true, true, true, true, true, true, true, true, true, false, false, false, false, false, false, false]) [9, 10, 11, 13, 14, 15] rfl (by kernel_rfl) (by kernel_rfl) (by kernel_rfl) (by kernel_rfl) (by kernel_rfl) rfl (fun _ _ _ h => h) (by rfl) (fun wx hS => ?q8_32) (by assumption) ?_
          case q8_32 => ((try dsimp only at hS); obtain ⟨hS1, hS2⟩ := hS; go_simp; try with_reducible rfl)
          try simp only [List.getElem_toArray, List.getElem_cons_succ, List.getElem_cons_zero, Act.put, List.setIfInBounds_toArray, List.set_cons_zero, List.set_cons_succ]
          refine wpC_take (i := 9) (v := ?v9_33) (l' := #[true, true, true, true, true, true, true, true, true, true, false, false, false, false, false, false]) [10, 11, 13, 14, 15] rfl (by kernel_rfl) (by kernel_rfl) (by kernel_rfl) (by kernel_rfl) (by kernel_rfl) rfl (fun _ _ _ h => h) (by rfl) (fun wx hS => ?q9_33) (by assumption) ?_
          case q9_33 => (go_simp; try with_reducible rfl)
          try simp only [List.getElem_toArray, List.getElem_cons_succ, List.getElem_cons_zero, Act.put, List.setIfInBounds_toArray, List.set_cons_zero, List.set_cons_succ]
          refine wpC_take (i := 10) (v := ?v10_34) (l' := #[true, true, true, true, true, true, true, true, true, true, true, false, false, false, false, false]) [11, 13, 14, 15] rfl (by kernel_rfl) (by kernel_rfl) (by kernel_rfl) (by kernel_rfl) (by kernel_rfl) rfl (fun _ _ _ h => h) (by rfl) (fun wx hS => ?q10_34) (by assumption) ?_
          case q10_34 => (go_simp; try with_reducible rfl)
          try simp only [List.getElem_toArray, List.getElem_cons_succ, List.getElem_cons_zero, Act.put, List.setIfInBounds_toArray, List.set_cons_zero, List.set_cons_succ]
          refine wpC_take (i := 11) (v := ?v11_35) (l' := #[true, true, true, true, true, true, true, true, true, true, true, true, false, false, false, false]) [13, 14, 15] rfl (by kernel_rfl) (by kernel_rfl) (by kernel_rfl) (by kernel_rfl) (by kernel_rfl) rfl (fun _ _ _ h => h) (by rfl) (fun wx hS => ?q11_35) (by assumption) ?_
          case q11_35 => ((try dsimp only at hS); obtain ⟨hS1, hS2⟩ := hS; go_simp; try with_reducible rfl)
          try simp only [List.getElem_toArray, List.getElem_cons_succ, List.getElem_cons_zero, Act.put, List.setIfInBounds_toArray, List.set_cons_zero, List.set_cons_succ]
          refine wpC_take (i := 12) (v := ?v12_36) (l' := #[true, true, true, true, true, true, true, true, true, true, true, true, true, false, false, false]) [13, 14, 15] rfl (by kernel_rfl) (by kernel_rfl) (by kernel_rfl) (by kernel_rfl) (by kernel_rfl) rfl (fun _ _ _ h => h) (by rfl) (fun wx hS => ?q12_36) (by assumption) ?_
          case q12_36 => (go_simp; try with_reducible rfl)
          try simp only [List.getElem_toArray, List.getElem_cons_succ, List.getElem_cons_zero, Act.put, List.setIfInBounds_toArray, List.set_cons_zero, List.set_cons_succ]
          refine wpC_take (i := 13) (v := ?v13_37) (l' := #[true, true, true, true, true, true, true, true, true, true, true, true, true, true, false, false]) [14, 15] rfl (by kernel_rfl) (by kernel_rfl) (by kernel_rfl) (by kernel_rfl) (by kernel_rfl) rfl (fun _ _ _ h => h) (by rfl) (fun wx hS => ?q13_37) (by assumption) ?_
          case q13_37 => (have jq := HJ.out; go_simp; try with_reducible rfl)
          try simp only [List.getElem_toArray, List.getElem_cons_succ, List.getElem_cons_zero, Act.put, List.setIfInBounds_toArray, List.set_cons_zero, List.set_cons_succ]
          refine wpC_one (i := 14) (l' := #[true, true, true, true, true, true, true, true, true, true, true, true, true, true, true, false]) (by kernel_rfl) rfl rfl (by rfl) (fun Kr hKr => ?_)
          refine step_callV rfl 38 #[.tmp 81, .tmp 82, .tmp 91, .const (.int .i64 1)] _ rfl HRT.out #[.pointer (some ⟨pp, 0, none⟩), .slice (some ⟨gm, 0, none⟩) xs.length cg, .pointer (some ⟨blk a3, ofs a3 + p.length * 3, none⟩), .int .i64 1] (by first | rfl | (simp [Act.eval]; done) | (simp [Act.eval]; rfl) | (simp [Act.eval]; repeat' constructor)) (HTK.out _ (Below.refl _ _).drew) ?_
          rintro e w5 ⟨⟨rfl, hbl5⟩, hb5⟩
          refine ⟨_, rfl, ?_⟩
          have hs5 := HS5.out _ hb5
          refine hKr _ _ (fun _ => hs5) ?_
          clear hKr Kr
          try simp only [List.getElem_toArray, List.getElem_cons_succ, List.getElem_cons_zero, Act.put, List.setIfInBounds_toArray, List.set_cons_zero, List.set_cons_succ]
          refine wpC_take (i := 15) (v := ?v15_38) (l' := #[true, true, true, true, true, true, true, true, true, true, true, true, true, true, true, true]) [] rfl (by kernel_rfl) (by kernel_rfl) (by kernel_rfl) (by kernel_rfl) (by kernel_rfl) rfl (fun _ _ _ h => h) (by rfl) (fun wx hS => ?q15_38) (by assumption) ?_
          case q15_38 => (go_simp; try with_reducible rfl)
          try simp only [List.getElem_toArray, List.getElem_cons_succ, List.getElem_cons_zero, Act.put, List.setIfInBounds_toArray, List.set_cons_zero, List.set_cons_succ]
          refine wpC_done (by kernel_rfl) ?_ _
          skip
          refine hK9 _ _ ?_
          have hch5 : Chg [gm] w3 w5 := (Chg.ofBelow (Below.refl _ _).drew).trans hb5.chg
          have HW5 := Lib.hid (HW3.out.keep (F := [gm]) hch5 (by simp; omega) (fun g hg => by simp; rintro rfl; exact HNG3.out hg) (by simp; omega))
          have HC5 := Lib.hid (HC3.out.compU hch5 (fun g hg => by simp at hg; subst hg; exact .inr hgm))
          have HBL5 := Lib.hid hbl5
          clear hs0 hs5 hb5 hbl5 hK9 hch5
          go_wp2
          go_roundw
          case rel => exact ⟨q + 1, f3, L3, G3, T.1, hq9, by go_num, HT1.out.trans hxs2, HNF, HA3, HW5, HC5, HG3, HNG3, HBL5⟩
          case measure => simp [intOf]; omega
      · have hdec : decide ((f' : Int) ≤ 1500) = false := by simp; omega
        have hdec2 : ¬ (f' : Int) ≤ 1500 := by omega
        have hq1 := (HXT.out q hq).1
        have hq2 : (q : Int) ≤ 1000 := by omega
        have hq3 : decide ((q : Int) ≤ 1000) = true := by simp; omega
        have HEND : Hid (Ans f L (enumF (fitP x1 x2 x3 y0 y1) x3.length (d + 1) p) (fun c => chosenS x1 x2 x3 (bagsS y0 y1) c mode) f' L') := Lib.hid (HA.out.over hle (enumP_mono d p (Nat.le_of_lt hq)))
        go_wp2
        go_end0
        exact ⟨rfl, f', L', G', HWr.out, HC.out, HG.out, HEND.out⟩
end Go.Proofs.Ytkjmehpehopncaa

/- PassChoices, the reference's, from its entry on. Written by mkuf.py. -/
namespace Go.Proofs.Ytkjmehpehopncaa
open Go.RowKit
/-- What l06Choices tells: A is all that fits, R what is chosen. -/
def RetCh (w : World) (A R : List (List Int)) (e : Ending) (w' : World) : Prop :=
  (A.length ≤ 1500 ∧ ∃ v F, e = .returned (.tuple #[v, .bool true]) ∧ Below w.heap.size w w' ∧ Ow w' (dII R) v F ∧ F.Nodup ∧ ∀ g, g ∈ F → w.heap.size ≤ g) ∨
  (1500 < A.length ∧ ∃ v, e = .returned (.tuple #[v, .bool false]) ∧ Below w.heap.size w w')
set_option maxHeartbeats 4000000 in
set_option maxRecDepth 100000 in
theorem l06Choices_c (x0 : Int) (x1 : List Int) (x2 : List Bool) (x3 : List PR) (y0 : List (List Int)) (y1 : List Int) (a1 a2 a3 b0 b1 : Option Addr) (c1 c2 c3 d0 d1 : Nat) (mode : Int) (w : World) (h1 : SlI Any w a1 x1) (h2 : SlB Any w a2 x2) (h3 : Rd Any w (dPR x3) (.slice a3 x3.length c3)) (k0 : SlII Any w b0 y0) (k1 : SlI Any w b1 y1) (K : Nat) (hps : PsOk K x1 x2 x3) (hst : StOk K x1.length y0 y1) (pp qq : Nat)
    (hp0 : w.cell? ⟨pp, 0, none⟩ = some (.int .i64 K)) (hp1 : w.cell? ⟨pp, 1, none⟩ = some (.slice a1 x1.length c1)) (hp2 : w.cell? ⟨pp, 2, none⟩ = some (.slice a2 x2.length c2)) (hp3 : w.cell? ⟨pp, 3, none⟩ = some (.slice a3 x3.length c3)) (hq0 : w.cell? ⟨qq, 0, none⟩ = some (.slice b0 y0.length d0)) (hq1 : w.cell? ⟨qq, 1, none⟩ = some (.slice b1 y1.length d1)) :
    Calls Try.prog 28 #[.pointer (some ⟨pp, 0, none⟩), .pointer (some ⟨qq, 0, none⟩), .int .i64 mode] w (RetCh w (allF (fitP x1 x2 x3 y0 y1) x3.length) (chL x1 x2 x3 y0 y1 mode)) := by
  have h8 := hps.r8
  have hF := fit_ok hps hst
  have hba : Below w.heap.size w (w.alloc (.cells #[.pointer (some ⟨pp, 0, none⟩), .int .i64 mode, .int .i64 0, .slice none 0 0] 89)) := below_alloc w _
  have zq : qq < w.heap.size := World.block_lt_of_cell? w _ hq0
  have hfl := flat_start hst
  have hm1 : 1 ≤ (x1.length + 1) * K := Nat.mul_pos (by omega) hps.k1
  have hm := small_mul (k := x1.length + 1) (K := K) (n := 5) (by have := hps.p4; omega) hps.k8
  have HF := Lib.hid (l06Flat_c K y0 y1 b0 b1 d0 d1 ⟨pp, 0, none⟩ ⟨qq, 0, none⟩ qq (w.alloc (.cells #[.pointer (some ⟨pp, 0, none⟩), .int .i64 mode, .int .i64 0, .slice none 0 0] 89)) (k0.below hba) (k1.below hba) rfl ((bcell1 hba zq).trans hq0) ((bcell1 hba zq).trans hq1) (Lib.hid fun i hi => (hst.bag i (by have := hst.len; omega)).2) hst.around.2 hps.k1 hps.k8 (by have := hst.len; have := hps.p4; omega))
  have hflz : Flat K x1.length (bagsS y0 y1).flatten (lev x1 x2 x3 (bagsS y0 y1) (padL x3.length []) x3.length) := ⟨hfl.1, fun pl k hp hk => by
    rw [show padL x3.length [] = List.replicate x3.length 0 by simp [padL], lev_zero]; exact hfl.2 pl k hp hk⟩
  have HWK := Lib.hid (fun wx (hb : Below w.heap.size w wx) f L G gl cgl xs ca cc h1x h2x h3x h4x h5x h6x => walk_c x0 x1 x2 x3 y0 y1 a1 a2 a3 b0 b1 c1 c2 c3 d0 d1 mode w h1 h2 h3 K hps hst pp w.heap.size hp0 hp1 hp2 hp3 x3.length [] wx f L G gl cgl xs ca cc (by simp) (fun j => by simp [nth]) (by rw [show padL x3.length [] = List.replicate x3.length 0 by simp [padL]]; exact hF.zero) h1x h2x h3x h4x h5x h6x)
  have hlf : (bagsS y0 y1).flatten.length = (x1.length + 1) * K := hfl.1
  obtain ⟨FL, hFL⟩ : ∃ FL, FL = (bagsS y0 y1).flatten := ⟨_, rfl⟩
  rw [← hFL] at HF hflz hlf
  have hl1 : 1 ≤ FL.length := by omega
  have hl40 : FL.length ≤ 40 := by omega
  have HFZ := Lib.hid hflz
  have HBA := Lib.hid hba
  clear h1 h2 h3 k0 k1 hps hst hp0 hp1 hp2 hp3 hq0 hq1 hF hfl hflz hFL hlf hm hm1 hba
  go_enter Try.func28, Try.ntmps28
  go_wp2_with fail
  refine HF.out.mono ?_
  rintro e wB ⟨vB, rfl, hbB, hlB⟩
  obtain ⟨gl, cgl, rfl⟩ : ∃ g c, vB = .slice (some ⟨g, 0, none⟩) FL.length c := by
    have := Bld.ptr hlB (by simp; omega)
    simpa using this
  have hzB : w.heap.size + 1 ≤ wB.heap.size := by have := hbB.size; simpa using this
  have hcB : ∀ i v, (w.alloc (.cells #[.pointer (some ⟨pp, 0, none⟩), .int .i64 mode, .int .i64 0, .slice none 0 0] 89)).cell? ⟨w.heap.size, i, none⟩ = some v → (wB.alloc (.cells #[] 2)).cell? ⟨w.heap.size, i, none⟩ = some v := fun i v hv => (bcell1 (below_alloc wB _) (by omega)).trans ((bcell1 hbB (by simp)).trans hv)
  have hBC : Below w.heap.size w (wB.alloc (.cells #[] 2)) := (HBA.out.trans (hbB.mono (by simp))).trans ((below_alloc wB _).mono (by omega))
  have hW : Wlk w (wB.alloc (.cells #[] 2)) w.heap.size pp mode 0 [] [] 24 := by
    refine ⟨hBC, hcB 0 _ (by simp [go_sem]), hcB 1 _ (by simp [go_sem]), hcB 2 _ (by simp [go_sem]), ⟨.slice none 0 0, hcB 3 _ (by simp [go_sem]), Lst.nil _ _ _ _⟩, fun i => ?_, by simp, Nat.le_refl _, by simp⟩
    rw [(below_alloc wB _).frozen (p := ⟨w.heap.size, i, none⟩) (by simp; omega), hbB.frozen (p := ⟨w.heap.size, i, none⟩) (by simp)]
    simp [go_sem]
  have C := HWK.out (wB.alloc (.cells #[] 2)) hBC 0 [] [] gl cgl FL ⟨wB.heap.size, 0, none⟩ 0 (by omega) hW (SlI.ofBld (hlB.below (below_alloc wB _)) (by unfold maxLen; omega)).any HFZ.out ⟨by simp [maxLen], fun h0 => by simp at h0, fun i hi => by simp at hi⟩ (by simp; omega)
  have C2 : Calls Try.prog 52 #[.pointer (some ⟨w.heap.size, 0, none⟩), .slice (some ⟨gl, 0, none⟩) FL.length cgl, .slice (some ⟨wB.heap.size, 0, none⟩) 0 0] (wB.alloc (.cells #[] 2)) (FrmW w (wB.alloc (.cells #[] 2)) w.heap.size pp mode 0 [] (allF (fitP x1 x2 x3 y0 y1) x3.length) [] (fun c => chosenS x1 x2 x3 (bagsS y0 y1) c mode) 24) := C
  replace C2 := Lib.hid C2
  clear C hW hcB hbB hlB HWK HF HFZ hBC
  go_wp2_with fail
  refine C2.out.mono ?_
  rintro e w3 ⟨rfl, f3, L3, G3, hW3, _, _, hA3⟩
  clear C2
  have e2 := hW3.c2
  obtain ⟨v, e3, hls⟩ := hW3.lst
  obtain ⟨_, av, cv, rfl⟩ := hls.val
  have HB3 := Lib.hid hW3.bel
  rcases hA3 with ⟨hle, hf3, hL3⟩ | ⟨hgt, hf3⟩
  · have hL : L3 = chL x1 x2 x3 y0 y1 mode := by rw [hL3]; rfl
    subst hL
    have hfle : f3 ≤ 1500 := by omega
    have hAle : (allF (fitP x1 x2 x3 y0 y1) x3.length).length ≤ 1500 := by omega
    have hcnt := hW3.cnt
    obtain ⟨G', ho, hn, hs⟩ := hls.ow (by omega) (by unfold maxLen; omega)
    have HR : Hid (∀ wx, Below w3.heap.size w3 wx → RetCh w (allF (fitP x1 x2 x3 y0 y1) x3.length) (chL x1 x2 x3 y0 y1 mode) (.returned (.tuple #[.slice av (chL x1 x2 x3 y0 y1 mode).length cv, .bool true])) wx) := Lib.hid (fun wx hx => .inl ⟨hAle, _, G', rfl, bnext HB3.out hx (Nat.le_refl _), ho.below hx, hn, fun g hg => (hls.lt g (hs g hg)).1⟩)
    have hdec : decide ((f3 : Int) ≤ 1500) = true := by simp; omega
    have hdec2 : (f3 : Int) ≤ 1500 := by omega
    have q2 := wat_cell e2
    have q3 := wat_cell e3
    clear hW3 hls ho hn hs hL3 hf3 hle hAle e2 e3
    go_wp2
    refine wp_quiet_wd (by kernel_rfl) (by kernel_rfl) ?_
    repeat (go_big_quiet_step (fail))
    refine wpQuiet_nil ?_
    rintro _ ⟨wq', rfl⟩
    go_wp2
    go_ret2
    exact HR.out _ (wat_below wq')
  · have hAgt : 1500 < (allF (fitP x1 x2 x3 y0 y1) x3.length).length := by omega
    have HR : Hid (∀ wx, Below w3.heap.size w3 wx → RetCh w (allF (fitP x1 x2 x3 y0 y1) x3.length) (chL x1 x2 x3 y0 y1 mode) (.returned (.tuple #[.slice av L3.length cv, .bool false])) wx) := Lib.hid (fun wx hx => .inr ⟨hAgt, _, rfl, bnext HB3.out hx (Nat.le_refl _)⟩)
    have hdec : decide ((f3 : Int) ≤ 1500) = false := by simp; omega
    have hdec2 : ¬ (f3 : Int) ≤ 1500 := by omega
    have q2 := wat_cell e2
    have q3 := wat_cell e3
    clear hW3 hls hgt hAgt e2 e3
    go_wp2
    refine wp_quiet_wd (by kernel_rfl) (by kernel_rfl) ?_
    repeat (go_big_quiet_step (fail))
    refine wpQuiet_nil ?_
    rintro _ ⟨wq', rfl⟩
    go_wp2
    go_ret2
    exact HR.out _ (wat_below wq')
set_option maxHeartbeats 4000000 in
set_option maxRecDepth 100000 in
theorem specPassChoices_c (x0 : Int) (x1 : List Int) (x2 : List Bool) (x3 : List PR) (y0 : List (List Int)) (y1 : List Int) (a1 a2 a3 b0 b1 : Option Addr) (c1 c2 c3 d0 d1 : Nat) (mode : Int) (w : World) (h1 : SlI Any w a1 x1) (h2 : SlB Any w a2 x2) (h3 : Rd Any w (dPR x3) (.slice a3 x3.length c3)) (k0 : SlII Any w b0 y0) (k1 : SlI Any w b1 y1) (K : Nat) (hxK : x0 = K) (hps : PsOk K x1 x2 x3) (hst : StOk K x1.length y0 y1) (hst0 : stCode x0 x1 x2 x3 y0 y1 = 0) (hmode : inRg mode 1 3 = true) :
    Calls Try.prog 10 #[.agg #[.int .i64 x0, .slice a1 x1.length c1, .slice a2 x2.length c2, .slice a3 x3.length c3], .agg #[.slice b0 y0.length d0, .slice b1 y1.length d1], .int .i64 mode] w (RetDC w (dII (choicesS x1 x2 x3 y0 y1 mode).1) (choicesS x1 x2 x3 y0 y1 mode).2) := by
  have hb0 : Below w.heap.size w ((w.alloc (.cells #[.int .i64 x0, .slice a1 x1.length c1, .slice a2 x2.length c2, .slice a3 x3.length c3] 28)).alloc (.cells #[.slice b0 y0.length d0, .slice b1 y1.length d1] 31)) := ((Below.refl _ _).alloc (Nat.le_refl _) _).alloc (by simp) _
  have HC := l06Code_c x0 x1 x2 x3 y0 y1 a1 a2 a3 b0 b1 c1 c2 c3 d0 d1 ((w.alloc (.cells #[.int .i64 x0, .slice a1 x1.length c1, .slice a2 x2.length c2, .slice a3 x3.length c3] 28)).alloc (.cells #[.slice b0 y0.length d0, .slice b1 y1.length d1] 31)) (h1.below hb0) (h2.below hb0) (h3.below hb0) (k0.below hb0) (k1.below hb0) w.heap.size (w.heap.size + 1) (by simp [go_sem]) (by simp [go_sem]) (by simp [go_sem]) (by simp [go_sem]) (by simp [go_sem]) (by simp [go_sem])
  rw [hst0] at HC
  replace HC := Lib.hid HC
  have HM := Lib.hid (fun wx => l06Mode_c mode wx)
  rw [hmode] at HM
  obtain ⟨A, hA⟩ : ∃ A, A = allF (fitP x1 x2 x3 y0 y1) x3.length := ⟨_, rfl⟩
  obtain ⟨R, hR⟩ : ∃ R, R = chL x1 x2 x3 y0 y1 mode := ⟨_, rfl⟩
  have HCH : Hid (∀ wx, Below w.heap.size w wx → wx.cell? ⟨w.heap.size, 0, none⟩ = some (.int .i64 x0) → wx.cell? ⟨w.heap.size, 1, none⟩ = some (.slice a1 x1.length c1) → wx.cell? ⟨w.heap.size, 2, none⟩ = some (.slice a2 x2.length c2) → wx.cell? ⟨w.heap.size, 3, none⟩ = some (.slice a3 x3.length c3) → wx.cell? ⟨w.heap.size + 1, 0, none⟩ = some (.slice b0 y0.length d0) → wx.cell? ⟨w.heap.size + 1, 1, none⟩ = some (.slice b1 y1.length d1) →
      Calls Try.prog 28 #[.pointer (some ⟨w.heap.size, 0, none⟩), .pointer (some ⟨w.heap.size + 1, 0, none⟩), .int .i64 mode] wx (RetCh wx A R)) := Lib.hid (fun wx h g0 g1 g2 g3 g4 g5 => by
    rw [hA, hR]
    exact l06Choices_c x0 x1 x2 x3 y0 y1 a1 a2 a3 b0 b1 c1 c2 c3 d0 d1 mode wx (h1.below h) (h2.below h) (h3.below h) (k0.below h) (k1.below h) K hps hst _ _ (by rw [g0, hxK]) g1 g2 g3 g4 g5)
  have HX : Hid ((A.length ≤ 1500 → choicesS x1 x2 x3 y0 y1 mode = (R, 0)) ∧ (1500 < A.length → choicesS x1 x2 x3 y0 y1 mode = ([], 3))) := Lib.hid (by
    rw [hA, hR]
    exact ⟨fun h => by unfold choicesS; rw [if_pos h], fun h => by unfold choicesS; rw [if_neg (by omega)]⟩)
  obtain ⟨X, hX⟩ : ∃ X, X = choicesS x1 x2 x3 y0 y1 mode := ⟨_, rfl⟩
  rw [← hX] at HX ⊢
  have HB0 := Lib.hid hb0
  clear hb0 h1 h2 h3 k0 k1 hX hA hR hps hst hst0 hmode hxK
  go_enter Try.func10, Try.ntmps10
  go_wp2_with fail
  refine HC.out.mono ?_
  rintro e w1 ⟨rfl, hb1⟩
  have HB1 := Lib.hid (HB0.out.trans (hb1.mono (by simp <;> omega)))
  have p0 : w1.cell? ⟨w.heap.size, 0, none⟩ = some (.int .i64 x0) := by rw [bcell1 hb1 (by simp <;> omega)]; simp [go_sem]
  have p1 : w1.cell? ⟨w.heap.size, 1, none⟩ = some (.slice a1 x1.length c1) := by rw [bcell1 hb1 (by simp <;> omega)]; simp [go_sem]
  have p2 : w1.cell? ⟨w.heap.size, 2, none⟩ = some (.slice a2 x2.length c2) := by rw [bcell1 hb1 (by simp <;> omega)]; simp [go_sem]
  have p3 : w1.cell? ⟨w.heap.size, 3, none⟩ = some (.slice a3 x3.length c3) := by rw [bcell1 hb1 (by simp <;> omega)]; simp [go_sem]
  have s0 : w1.cell? ⟨w.heap.size + 1, 0, none⟩ = some (.slice b0 y0.length d0) := by rw [bcell1 hb1 (by simp <;> omega)]; simp [go_sem]
  have s1 : w1.cell? ⟨w.heap.size + 1, 1, none⟩ = some (.slice b1 y1.length d1) := by rw [bcell1 hb1 (by simp <;> omega)]; simp [go_sem]
  have C2 := Lib.hid (HCH.out w1 HB1.out p0 p1 p2 p3 s0 s1)
  clear hb1 HC HCH p0 p1 p2 p3 s0 s1
  go_wp2_with fail
  refine (HM.out _).mono ?_
  rintro e w2 ⟨rfl, rfl⟩
  go_wp2_with fail
  refine C2.out.mono ?_
  rintro e w2 (⟨hle, v, F, rfl, hb2, ho, hn, hF⟩ | ⟨hgt, v, rfl, hb2⟩)
  · obtain ⟨a9, c9, rfl⟩ := Ow.valII ho
    have HR : Hid (RetDC w (dII X.1) X.2 (.returned (.tuple #[.slice a9 R.length c9, .int .i64 0])) w2) := Lib.hid (by rw [HX.out.1 hle]; exact ⟨_, F, rfl, bnext HB1.out hb2 (Nat.le_refl _), ho, hn, fun g hg => Nat.le_trans HB1.out.size (hF g hg)⟩)
    clear hb2 ho hn hF C2 hle
    go_wp2
    go_ret2
    exact HR.out
  · have HR : Hid (∀ a c wx, Below w2.heap.size w2 wx → RetDC w (dII X.1) X.2 (.returned (.tuple #[.slice a 0 c, .int .i64 3])) wx) := Lib.hid (fun a c wx hx => by rw [HX.out.2 hgt]; exact RetDC.none _ _ _ (bnext (bnext HB1.out hb2 (Nat.le_refl _)) hx (Nat.le_refl _)))
    clear hb2 C2 hgt
    go_wp2
    go_ret2
    exact HR.out _ _ _ (below_alloc _ _)
end Go.Proofs.Ytkjmehpehopncaa

/- The source of draws of the laws over bytes: contracts. -/
namespace Go.Proofs.Ytkjmehpehopncaa
open Go.RowKit

theorem tabU8 : Tab Try.prog 22 5 (.int .u8 0) 1 1 := ⟨by kernel_rfl, by kernel_rfl⟩
/-- Cells of bytes, read through an address. -/
structure SlU (S : Nat → Prop) (w : World) (a : Option Addr) (n : Nat) : Prop where
  len : n ≤ maxLen
  ptr : 0 < n → S (blk a) ∧ ∃ g o, a = some ⟨g, o, none⟩
  cell : ∀ i, i < n → ∃ x : Int, 0 ≤ x ∧ x < 256 ∧ w.cell? (adr a i) = some (.int .u8 x)
theorem SlU.ix {P : Program} {T E : Nat} {S : Nat → Prop} {w : World} {a : Option Addr} {n : Nat} (h : SlU S w a n) (hT : P.underlying T = some (.slice E)) (hE : (P.info? E).map (·.size) = some 1)
   (c : Nat) (i : Int) (w' : World) (h0 : 0 ≤ i) (h1 : i < n) : (Instr.indexAt T (.slice a n c) (.int .i64 i)).run P w' = .ok (.pointer (some (adr a i.toNat))) w' := by
  rw [ix_of hT hE (fun h0 => (h.ptr h0).2) c i w' h0 h1, Nat.mul_one]
theorem SlU.keep {S : Nat → Prop} {w w' : World} {a : Option Addr} {n : Nat} (h : SlU S w a n) (hk : ∀ k, S k → k < w.heap.size → w'.heap[k]? = w.heap[k]?) : SlU S w' a n :=
  ⟨h.len, h.ptr, fun i hi => by
    obtain ⟨x, h1, h2, h3⟩ := h.cell i hi
    refine ⟨x, h1, h2, ?_⟩
    rw [World.cell?_of_block (w := w) (hk (blk a) (h.ptr (by omega)).1 (World.block_lt_of_cell? w _ h3))]; exact h3⟩
theorem SlU.below {S : Nat → Prop} {w w' : World} {a : Option Addr} {n : Nat} (h : SlU S w a n) (hb : Below w.heap.size w w') : SlU S w' a n := h.keep fun k _ hk => hb.block k hk
theorem SlU.any {S T : Nat → Prop} {w : World} {a : Option Addr} {n : Nat} (h : SlU S w a n) (hs : ∀ k, S k → T k) : SlU T w a n := ⟨h.len, fun h0 => ⟨hs _ (h.ptr h0).1, (h.ptr h0).2⟩, h.cell⟩

/-- A source of draws in the block s, at its t-th byte. -/
structure Src (w : World) (s : Nat) (a : Option Addr) (n c : Nat) (t : Nat) (z : Int) : Prop where
  c0 : w.cell? ⟨s, 0, none⟩ = some (.slice a n c)
  c1 : w.cell? ⟨s, 1, none⟩ = some (.int .i64 t)
  c2 : w.cell? ⟨s, 2, none⟩ = some (.int .u64 z)
  f1 : w.frozen? ⟨s, 1, none⟩ = false
  f2 : w.frozen? ⟨s, 2, none⟩ = false
  by_ : SlU (· < s) w a n
/-- A source from which at most m bytes were drawn. -/
def SrcE (w : World) (s m : Nat) : Prop := ∃ a n c t z, t ≤ m ∧ Src w s a n c t z
theorem Src.keep {w w' : World} {s : Nat} {a : Option Addr} {n c t : Nat} {z : Int} (h : Src w s a n c t z) (hk : ∀ k, k ≤ s → w'.heap[k]? = w.heap[k]?) : Src w' s a n c t z := by
  have hc : ∀ i, w'.cell? ⟨s, i, none⟩ = w.cell? ⟨s, i, none⟩ := fun i => World.cell?_of_block (hk s (Nat.le_refl _))
  have hf : ∀ i, w'.frozen? ⟨s, i, none⟩ = w.frozen? ⟨s, i, none⟩ := fun i => World.frozen?_of_block (hk s (Nat.le_refl _))
  exact ⟨(hc 0).trans h.c0, (hc 1).trans h.c1, (hc 2).trans h.c2, (hf 1).trans h.f1, (hf 2).trans h.f2, h.by_.keep fun k h1 _ => hk k (Nat.le_of_lt h1)⟩
theorem Src.lt {w : World} {s : Nat} {a : Option Addr} {n c t : Nat} {z : Int} (h : Src w s a n c t z) : s < w.heap.size := World.block_lt_of_cell? w _ h.c0
theorem SrcE.lt {w : World} {s m : Nat} (h : SrcE w s m) : s < w.heap.size := by obtain ⟨_, _, _, _, _, _, h⟩ := h; exact h.lt
theorem SrcE.keep {w w' : World} {s m : Nat} (h : SrcE w s m) (hk : ∀ k, k ≤ s → w'.heap[k]? = w.heap[k]?) : SrcE w' s m := by
  obtain ⟨a, n, c, t, z, ht, h⟩ := h; exact ⟨a, n, c, t, z, ht, h.keep hk⟩
theorem SrcE.below {w w' : World} {s m B : Nat} (h : SrcE w s m) (hb : Below B w w') (hB : s < B) : SrcE w' s m := h.keep fun k hk => hb.block k (by omega)
theorem SrcE.chg {w w' : World} {s m : Nat} {F : List Nat} (h : SrcE w s m) (hb : Chg F w w') (hF : ∀ g, g ∈ F → s < g) : SrcE w' s m := h.keep fun k hk => hb.block k (by have := h.lt; omega) (fun hg => by have := hF _ hg; omega)
theorem SrcE.more {w : World} {s m m' : Nat} (h : SrcE w s m) (hm : m ≤ m') : SrcE w s m' := by obtain ⟨a, n, c, t, z, ht, h⟩ := h; exact ⟨a, n, c, t, z, by omega, h⟩
theorem Src.step {w : World} {s : Nat} {a : Option Addr} {n c t : Nat} {z : Int} (h : Src w s a n c t z) (z' : Int) : Src ((w.setCell ⟨s, 1, none⟩ (.int .i64 ((t : Int) + 1))).setCell ⟨s, 2, none⟩ (.int .u64 z')) s a n c (t + 1) z' := by
  have o : ∀ (w : World) (i j : Nat) (v : Value), i ≠ j → (w.setCell ⟨s, i, none⟩ v).cell? ⟨s, j, none⟩ = w.cell? ⟨s, j, none⟩ := fun w i j v h => World.cell?_setCell_other _ _ _ _ (by intro e; cases e; exact h rfl)
  refine ⟨?_, ?_, ?_, ?_, ?_, ?_⟩
  · rw [o _ 2 0 _ (by omega), o _ 1 0 _ (by omega)]; exact h.c0
  · rw [o _ 2 1 _ (by omega), World.cell?_setCell_same _ _ _ h.c1]; simp
  · exact World.cell?_setCell_same _ _ _ (by rw [o _ 1 2 _ (by omega)]; exact h.c2)
  · rw [World.frozen?_setCell, World.frozen?_setCell]; exact h.f1
  · rw [World.frozen?_setCell, World.frozen?_setCell]; exact h.f2
  · exact h.by_.keep fun k hk _ => (((Exc.setCell w ⟨s, 1, none⟩ (.int .i64 ((t : Int) + 1))).trans (Exc.setCell _ ⟨s, 2, none⟩ (.int .u64 z'))).block k (by simp; omega))
theorem Src.exc (w : World) (s : Nat) (v v' : Value) : Exc [s] w ((w.setCell ⟨s, 1, none⟩ v).setCell ⟨s, 2, none⟩ v') := (Exc.setCell w ⟨s, 1, none⟩ v).trans (Exc.setCell _ ⟨s, 2, none⟩ v')
theorem Src.stepN {w : World} {s : Nat} {a : Option Addr} {n c t : Nat} {z : Int} (h : Src w s a n c t z) (k k2 : Nat) (z' : Int) : Src (((((w.drewN k).setCell ⟨s, 1, none⟩ (.int .i64 ((t : Int) + 1))).setCell ⟨s, 2, none⟩ (.int .u64 z'))).drewN k2) s a n c (t + 1) z' :=
  ((h.keep (w' := w.drewN k) (fun _ _ => rfl)).step z').keep (fun _ _ => rfl)
theorem Src.excN (w : World) (s k k2 : Nat) (v v' : Value) : Exc [s] w (((((w.drewN k).setCell ⟨s, 1, none⟩ v).setCell ⟨s, 2, none⟩ v')).drewN k2) :=
  have h := Src.exc (w.drewN k) s v v'
  ⟨h.os, h.tape, h.output, h.size, h.block⟩
theorem u64_and255 {x : Int} (h0 : 0 ≤ x) (h1 : x < 18446744073709551616) : bits .and .u64 x 255 = x % 256 :=
  bits_mask .u64 64 (by decide) (fun n a b => by simp [IntKind.wrap, IntKind.bits, IntKind.signed]; omega) 8 (by decide) x h0 h1
theorem lastByte (y : Int) : 0 ≤ wrap64 (bits .and .u64 (IntKind.u64.wrap y / 1099511627776) 255) ∧ wrap64 (bits .and .u64 (IntKind.u64.wrap y / 1099511627776) 255) ≤ 255 := by
  have e : IntKind.u64.wrap y = y % 18446744073709551616 := by simp [IntKind.wrap, IntKind.bits, IntKind.signed]
  rw [e, u64_and255 (by omega) (by omega)]
  unfold wrap64; omega
/-- The call draws a number of which p holds. -/
def RetN (w : World) (s m : Nat) (p : Int → Prop) (e : Ending) (w' : World) : Prop := ∃ x : Int, e = .returned (.int .i64 x) ∧ p x ∧ Exc [s] w w' ∧ SrcE w' s m
set_option maxHeartbeats 1000000 in
theorem next_c2 (s m : Nat) (w : World) (h : SrcE w s m) (hm : m ≤ 4294967296) :
    Calls Try.prog 36 #[.pointer (some ⟨s, 0, none⟩)] w (RetN w s (m + 1) fun x => 0 ≤ x ∧ x ≤ 255) := by
  obtain ⟨a, n, c, t, z, ht, hs⟩ := h
  have i1 := hs.by_.ix tabU8.under tabU8.size c
  have c0 := hs.c0
  have c1 := hs.c1
  have c2 := hs.c2
  have f1 := hs.f1
  have f2 := hs.f2
  have hl := hs.by_.len
  unfold maxLen at hl
  have HS := Lib.hid hs
  by_cases hlt : t < n
  · obtain ⟨x, hx0, hx1, gx⟩ := hs.by_.cell t hlt
    clear hs
    go_enter Try.func36, Try.ntmps36
    go_wp2
    go_quiet (fail)
    go_wp2
    go_quiet (fail)
    go_wp2
    go_quiet (fail)
    go_wp2
    go_ret
    exact ⟨_, rfl, by first | omega | exact lastByte _, Src.excN _ _ _ _ _ _, a, n, c, t + 1, _, by omega, HS.out.stepN _ _ _⟩
  · clear hs
    go_enter Try.func36, Try.ntmps36
    go_wp2
    go_quiet (fail)
    go_wp2
    go_quiet (fail)
    go_wp2
    go_ret
    exact ⟨_, rfl, by first | omega | exact lastByte _, Src.excN _ _ _ _ _ _, a, n, c, t + 1, _, by omega, HS.out.stepN _ _ _⟩
theorem l00From_c (a : Option Addr) (n c : Nat) (w : World) (h : SlU (· < w.heap.size) w a n) :
    Calls Try.prog 15 #[.slice a n c] w (fun e w' => e = .returned (.pointer (some ⟨w.heap.size, 0, none⟩)) ∧ Below w.heap.size w w' ∧ w.heap.size < w'.heap.size ∧ SrcE w' w.heap.size 0) := by
  have hb := below_alloc w (.cells #[.slice a n c, .int .i64 0, .int .u64 0] 71)
  have HE : Hid (SrcE (w.alloc (.cells #[.slice a n c, .int .i64 0, .int .u64 0] 71)) w.heap.size 0) := Lib.hid ⟨a, n, c, 0, 0, Nat.le_refl _, by simp [go_sem], by simp [go_sem], by simp [go_sem], by simp [go_sem], by simp [go_sem], h.below hb⟩
  have HB := Lib.hid hb
  clear hb h
  go_enter Try.func15, Try.ntmps15
  go_wp2
  go_ret
  exact ⟨rfl, HB.out, by simp, HE.out⟩
set_option maxHeartbeats 1000000 in
theorem pick_c (s m : Nat) (n : Int) (w : World) (h : SrcE w s m) (hm : m ≤ 4000000000) (hn : n ≤ 40000) :
    Calls Try.prog 18 #[.pointer (some ⟨s, 0, none⟩), .int .i64 n] w (RetN w s (m + 2) fun x => 0 ≤ x ∧ (x < n ∨ x = 0)) := by
  have HN := Lib.hid (fun m w h hm => next_c2 s m w h hm)
  have HS := Lib.hid h
  clear h
  by_cases h1 : n ≤ 1
  · go_enter Try.func18, Try.ntmps18
    go_wp2
    go_ret
    exact ⟨0, rfl, by omega, Exc.refl _ _, HS.out.more (by omega)⟩
  · by_cases h2 : 200 < n
    · go_enter Try.func18, Try.ntmps18
      go_wp2_with fail
      refine (HN.out m w HS.out (by omega)).mono ?_
      rintro e w1 ⟨x, rfl, hx, he, hs⟩
      have HE := Lib.hid he
      have HS1 := Lib.hid hs
      clear he hs
      go_wp2_with fail
      refine (HN.out (m + 1) w1 HS1.out (by omega)).mono ?_
      rintro e w2 ⟨y, rfl, hy, he, hs⟩
      have HE2 := Lib.hid (HE.out.trans he)
      have HS2 := Lib.hid hs
      clear he hs
      obtain ⟨z, hz⟩ : ∃ z, z = x * 256 + y := ⟨_, rfl⟩
      have hz1 : 0 ≤ z ∧ z ≤ 65535 := by omega
      have q1 := Int.emod_nonneg z (show n ≠ 0 by omega)
      have q2 := Int.emod_lt_of_pos z (show 0 < n by omega)
      have hb1 := hz
      go_wp2
      go_ret
      rw [← hz]
      exact ⟨_, rfl, by omega, HE2.out, HS2.out⟩
    · go_enter Try.func18, Try.ntmps18
      go_wp2_with fail
      refine (HN.out m w HS.out (by omega)).mono ?_
      rintro e w1 ⟨x, rfl, hx, he, hs⟩
      have HE := Lib.hid he
      have HS1 := Lib.hid hs
      clear he hs
      have q1 := Int.emod_nonneg x (show n ≠ 0 by omega)
      have q2 := Int.emod_lt_of_pos x (show 0 < n by omega)
      go_wp2
      go_ret
      exact ⟨_, rfl, by omega, HE.out, HS1.out.more (by omega)⟩
theorem one_c (s m : Nat) (n : Int) (w : World) (h : SrcE w s m) (hm : m ≤ 4000000000) (hn : n ≤ 40000) :
    Calls Try.prog 20 #[.pointer (some ⟨s, 0, none⟩), .int .i64 n] w (fun e w' => ∃ b : Bool, e = .returned (.bool b) ∧ Exc [s] w w' ∧ SrcE w' s (m + 2)) := by
  have HN := Lib.hid (pick_c s m n w h hm hn)
  clear h
  go_enter Try.func20, Try.ntmps20
  go_wp2_with fail
  refine HN.out.mono ?_
  rintro e w1 ⟨x, rfl, hx, he, hs⟩
  have HE := Lib.hid he
  have HS1 := Lib.hid hs
  clear he hs
  go_wp2
  go_ret
  exact ⟨_, rfl, HE.out, HS1.out⟩
theorem Chg.low {F : List Nat} {w w1 w2 : World} (h : Chg F w w1) (h2 : Below w.heap.size w1 w2) : Chg F w w2 :=
  ⟨h2.os.trans h.os, h2.tape.trans h.tape, h2.output.trans h.output, Nat.le_trans h.size h2.size, fun k hk hF => (h2.block k hk).trans (h.block k hk hF)⟩
/-- The call draws a list of which p holds, in memory of its own. -/
def RetL (w : World) (s m : Nat) (p : List Int → Prop) (e : Ending) (w' : World) : Prop := ∃ xs v F, e = .returned v ∧ Chg [s] w w' ∧ Ow w' (dI xs) v F ∧ F.Nodup ∧ (∀ g, g ∈ F → w.heap.size ≤ g) ∧ p xs ∧ SrcE w' s m
theorem Bld.exc {E : Nat} {w w' : World} {B s : Nat} {v : Value} {vs : List Value} (h : Bld E w B v vs) (he : Exc [s] w w') (hs : s < B) : Bld E w' B v vs :=
  ownsRow_kept h fun g hg => he.block g (by have := (ob_lt h g hg).1; simp; omega)
end Go.Proofs.Ytkjmehpehopncaa

/- Reversed systems that pass objects. Written by mkrv.py. -/
namespace Go.Proofs.Ytkjmehpehopncaa
open Go.RowKit

/-- The rule that passes the other way. -/
def revPR (r : PR) : PR := ⟨r.cell, r.inn, r.out⟩
abbrev Psn := Int × List Int × List Bool × List PR
def zPsn : Psn := (0, [], [], [])
def psD (p : Psn) : List D := [.i p.1, dI p.2.1, dB p.2.2.1, dPR p.2.2.2]
def revS (x0 : Int) (x1 : List Int) (x2 : List Bool) (x3 : List PR) : Psn × Int :=
  if okPass x0 x1 x2 x3 = true then (if okPass x0 x1 x2 (x3.map revPR) = true then ((x0, x1, x2, x3.map revPR), 0) else (zPsn, 4)) else (zPsn, 1)
/-- The call returns a row in memory of its own, and a code. -/
def RetAC (w : World) (ds : List D) (code : Int) (e : Ending) (w' : World) : Prop := ∃ vs F, e = .returned (.tuple #[.agg ⟨vs⟩, .int .i64 code]) ∧ Below w.heap.size w w' ∧ OwA w' ds vs F ∧ F.Nodup ∧ ∀ g, g ∈ F → w.heap.size ≤ g
def put4 (w : World) (b : Nat) (v0 v1 v2 v3 : Value) : World := (((w.setCell ⟨b, 0, none⟩ v0).setCell ⟨b, 1, none⟩ v1).setCell ⟨b, 2, none⟩ v2).setCell ⟨b, 3, none⟩ v3
theorem set4 (w : World) (b : Nat) (v0 v1 v2 v3 : Value) {u0 u1 u2 u3 : Value} (h0 : w.cell? ⟨b, 0, none⟩ = some u0) (h1 : w.cell? ⟨b, 1, none⟩ = some u1) (h2 : w.cell? ⟨b, 2, none⟩ = some u2) (h3 : w.cell? ⟨b, 3, none⟩ = some u3) :
    ((((w.setCell ⟨b, 0, none⟩ v0).setCell ⟨b, 1, none⟩ v1).setCell ⟨b, 2, none⟩ v2).setCell ⟨b, 3, none⟩ v3).cell? ⟨b, 0, none⟩ = some v0 ∧ ((((w.setCell ⟨b, 0, none⟩ v0).setCell ⟨b, 1, none⟩ v1).setCell ⟨b, 2, none⟩ v2).setCell ⟨b, 3, none⟩ v3).cell? ⟨b, 1, none⟩ = some v1 ∧
    ((((w.setCell ⟨b, 0, none⟩ v0).setCell ⟨b, 1, none⟩ v1).setCell ⟨b, 2, none⟩ v2).setCell ⟨b, 3, none⟩ v3).cell? ⟨b, 2, none⟩ = some v2 ∧ ((((w.setCell ⟨b, 0, none⟩ v0).setCell ⟨b, 1, none⟩ v1).setCell ⟨b, 2, none⟩ v2).setCell ⟨b, 3, none⟩ v3).cell? ⟨b, 3, none⟩ = some v3 := by
  have o : ∀ (w : World) (i j : Nat) (v : Value), i ≠ j → (w.setCell ⟨b, i, none⟩ v).cell? ⟨b, j, none⟩ = w.cell? ⟨b, j, none⟩ := fun w i j v h => World.cell?_setCell_other _ _ _ _ (by intro e; cases e; exact h rfl)
  refine ⟨?_, ?_, ?_, ?_⟩
  · rw [o _ 3 0 _ (by omega), o _ 2 0 _ (by omega), o _ 1 0 _ (by omega)]; exact World.cell?_setCell_same _ _ _ h0
  · rw [o _ 3 1 _ (by omega), o _ 2 1 _ (by omega)]; exact World.cell?_setCell_same _ _ _ (by rw [o _ 0 1 _ (by omega)]; exact h1)
  · rw [o _ 3 2 _ (by omega)]; exact World.cell?_setCell_same _ _ _ (by rw [o _ 1 2 _ (by omega), o _ 0 2 _ (by omega)]; exact h2)
  · exact World.cell?_setCell_same _ _ _ (by rw [o _ 2 3 _ (by omega), o _ 1 3 _ (by omega), o _ 0 3 _ (by omega)]; exact h3)
theorem put4_below {w w1 : World} {b : Nat} (v0 v1 v2 v3 : Value) (h : Below w.heap.size w w1) (hb : w.heap.size ≤ b) : Below w.heap.size w ((((w1.setCell ⟨b, 0, none⟩ v0).setCell ⟨b, 1, none⟩ v1).setCell ⟨b, 2, none⟩ v2).setCell ⟨b, 3, none⟩ v3) :=
  (((h.setCell hb _).setCell hb _).setCell hb _).setCell hb _
theorem RetAC.zero {w w1 : World} {b : Nat} (h : Below w.heap.size w w1) (hb : w.heap.size ≤ b) (code : Int) :
    RetAC w (psD (zPsn, code).1) (zPsn, code).2 (.returned (.tuple #[.agg #[.int .i64 0, .slice none 0 0, .slice none 0 0, .slice none 0 0], .int .i64 code])) ((((w1.setCell ⟨b, 0, none⟩ (.int .i64 0)).setCell ⟨b, 1, none⟩ (.slice none 0 0)).setCell ⟨b, 2, none⟩ (.slice none 0 0)).setCell ⟨b, 3, none⟩ (.slice none 0 0)) :=
  ⟨[.int .i64 0, .slice none 0 0, .slice none 0 0, .slice none 0 0], [], rfl, put4_below _ _ _ _ h hb, ⟨[], [], ⟨rfl, rfl⟩, ⟨[], [], Ow_empty _ _ _ _, ⟨[], [], Ow_empty _ _ _ _, ⟨[], [], Ow_empty _ _ _ _, rfl, rfl⟩, rfl⟩, rfl⟩, rfl⟩, by simp, by simp⟩
theorem SlB.addr {S : Nat → Prop} {w : World} {a : Option Addr} {xs : List Bool} (h : SlB S w a xs) (h0 : 0 < xs.length) : ∃ ad, a = some ad := by
  obtain ⟨g, o, e⟩ := (h.ptr h0).2
  exact ⟨_, e⟩
theorem owA_bools (w : World) : ∀ xs : List Bool, OwA w (xs.map .b) (xs.map .bool) []
  | [] => rfl
  | _ :: xs => ⟨[], [], ⟨rfl, rfl⟩, owA_bools w xs, rfl⟩
/-- A list of yes and no that has been built is owned. -/
theorem Bld.owB {E : Nat} {w : World} {B : Nat} {v : Value} {xs : List Bool} (h : Bld E w B v (xs.map .bool)) (hl : xs.length ≤ maxLen) : ∃ a c F, v = .slice a xs.length c ∧ Ow w (dB xs) (.slice a xs.length c) F ∧ F.Nodup ∧ ∀ g, g ∈ F → B ≤ g := by
  have hL : Lst E 1 w B v xs.length (xs.map .b) (ob v) := ⟨xs.map .bool, [], by simpa [Bld] using h, owA_bools w xs, by simp, by simp, by simp, by simp⟩
  obtain ⟨_, a, c, rfl⟩ := hL.val
  obtain ⟨G', h1, h2, h3⟩ := hL.ow (by omega) hl
  exact ⟨a, c, G', rfl, h1, h2, fun g hg => (hL.lt g (h3 g hg)).1⟩
theorem SlB.vals {S : Nat → Prop} {w : World} {ad : Addr} {xs : List Bool} (h : SlB S w (some ad) xs) : ∀ j u, (xs.map Value.bool)[j]? = some u → w.cell? (ad.add j) = some u := by
  intro j u hu
  have hj : j < xs.length := by have := (List.getElem?_eq_some_iff.1 hu).1; simpa using this
  obtain ⟨g, p, e⟩ := (h.ptr (by omega)).2
  cases e
  have := h.cell j hj
  rw [Addr.add_lit]
  simp only [adr, blk, ofs] at this
  rw [this]
  simp [hj] at hu
  rw [← hu, nthB_lt hj]
theorem bools_one (xs : List Bool) : ∀ u ∈ xs.map Value.bool, u.oneCell' = true := by
  intro u hu
  obtain ⟨y, _, rfl⟩ := List.mem_map.1 hu
  rfl
end Go.Proofs.Ytkjmehpehopncaa

/- Drawn passing systems: objects; the state of the drawing. Written by mkva.py. -/
namespace Go.Proofs.Ytkjmehpehopncaa
open Go.RowKit
theorem exc_cellV {w w' : World} {s b i : Nat} (h : Exc [s] w w') (hb : b ≠ s) : w'.cell? ⟨b, i, none⟩ = w.cell? ⟨b, i, none⟩ := World.cell?_of_block (w := w) (h.block b (by simpa using hb))
theorem Bld.atV {E : Nat} {w : World} {B g n c : Nat} {xs : List Int} (h : Bld E w B (.slice (some ⟨g, 0, none⟩) n c) (xs.map (.int .i64))) {i : Nat} (hi : i < xs.length) : w.cell? ⟨g, i, none⟩ = some (.int .i64 (nth xs i)) :=
  h.cell (by simp [nth, hi])
theorem Bld.setV {E : Nat} {w : World} {B g n c : Nat} {xs : List Int} (h : Bld E w B (.slice (some ⟨g, 0, none⟩) n c) (xs.map (.int .i64))) (i : Nat) (x : Int) : Bld E (w.setCell ⟨g, i, none⟩ (.int .i64 x)) B (.slice (some ⟨g, 0, none⟩) n c) ((xs.set i x).map (.int .i64)) := by
  have := h.set i (.int .i64 x)
  rwa [show (xs.map (Value.int .i64)).set i (.int .i64 x) = (xs.set i x).map (.int .i64) by rw [List.map_set]] at this
theorem Chg.compV {F F' : List Nat} {w wr w1 : World} (h : Chg F w wr) (h2 : Chg F' wr w1) (hs : ∀ g, g ∈ F' → g ∈ F ∨ w.heap.size ≤ g) : Chg F w w1 :=
  ⟨h2.os.trans h.os, h2.tape.trans h.tape, h2.output.trans h.output, Nat.le_trans h.size h2.size, fun k hk hn => (h2.block k (Nat.lt_of_lt_of_le hk h.size) (fun hh => by
    rcases hs k hh with h3 | h3
    · exact hn h3
    · omega)).trans (h.block k hk hn)⟩
/-- The call draws a list of which p holds, in a block of its own. -/
def RetBV (w : World) (s m : Nat) (p : List Int → Prop) (e : Ending) (w' : World) : Prop := ∃ (xs : List Int) (g c : Nat), e = .returned (.slice (some ⟨g, 0, none⟩) xs.length c) ∧ Chg [s] w w' ∧ Bld 2 w' w.heap.size (.slice (some ⟨g, 0, none⟩) xs.length c) (xs.map (.int .i64)) ∧ p xs ∧ SrcE w' s m
set_option maxHeartbeats 2000000 in
theorem l06ObjectsB_c (s m : Nat) (kinds most : Nat) (w : World) (h : SrcE w s m) (hm : m ≤ 1000000000) (hk : 1 ≤ kinds ∧ kinds ≤ 8) (h0 : most ≤ 100) :
    Calls Try.prog 17 #[.pointer (some ⟨s, 0, none⟩), .int .i64 kinds, .int .i64 most] w (RetBV w s (m + 2 + 2 * most) fun xs => xs.length = kinds ∧ ∀ j, 0 ≤ nth xs j ∧ nth xs j ≤ most) := by
  have hsz := h.lt
  have HS := Lib.hid h
  clear h
  go_enter Try.func17, Try.ntmps17
  go_wp2_with (at_make; refine make_one rfl _ _ 24 rfl tabI rfl (by decide) kinds _ _ rfl rfl rfl rfl (by omega) w.heap.size (Nat.le_refl _) ?_)
  intro w1 hbl1 hb1 hz1
  have HS1 := Lib.hid (HS.out.below hb1 hsz)
  have HC1 : Hid (Chg [s] w w1) := Lib.hid (Chg.ofBelow hb1)
  have HB1 : Hid (Bld 2 w1 w.heap.size (.slice (some ⟨w.heap.size, 0, none⟩) kinds kinds) ((List.replicate kinds (0 : Int)).map (.int .i64))) := Lib.hid (by rw [List.map_replicate]; exact hbl1)
  have C := Lib.hid (pick_c s m ((most : Int) + 1) w1 HS1.out (by omega) (by omega))
  clear hbl1 hb1
  go_wp2_with fail
  refine C.out.mono ?_
  rintro e w2 ⟨x, rfl, hx, he2, hs2⟩
  obtain ⟨q, rfl⟩ : ∃ q : Nat, x = q := ⟨x.toNat, by omega⟩
  have hqm : q ≤ most := by omega
  have HC2 := Lib.hid (HC1.out.trans he2.chg)
  have HB2 := Lib.hid (HB1.out.exc he2 hsz)
  have HS2 := Lib.hid hs2
  clear he2 hs2 C HC1 HB1 HS1
  have i2 := ix_of (P := Try.prog) tabI.under tabI.size (a := some ⟨w.heap.size, 0, none⟩) (n := kinds) (fun _ => ⟨w.heap.size, 0, rfl⟩) kinds
  simp only [Nat.mul_one, adr, blk, ofs, Nat.zero_add] at i2
  go_wp2
  go_loopw [8] (fun i wr => ∃ (r : Nat) (xs : List Int), r ≤ q ∧ i = .int .i64 r ∧ Hid (xs.length = kinds) ∧ Hid (∀ j, 0 ≤ nth xs j ∧ nth xs j ≤ (q : Int) - r) ∧ Hid (Chg [s] w wr) ∧ Hid (Bld 2 wr w.heap.size (.slice (some ⟨w.heap.size, 0, none⟩) kinds kinds) (xs.map (.int .i64))) ∧ Hid (SrcE wr s (m + 2 + 2 * (q - r)))) (fun i _ => (intOf i).toNat)
  case atStart => exact ⟨q, List.replicate kinds 0, Nat.le_refl _, rfl, Lib.hid (by simp), Lib.hid (fun j => by rw [nth_rep]; omega), HC2, HB2, Lib.hid (HS2.out.more (by omega))⟩
  case round =>
    obtain ⟨r, xs, hr, rfl, HL, HX, HC, HB, HE⟩ := hrel
    by_cases h0r : 0 < r
    · have h0i : (0 : Int) < r := by omega
      have C := Lib.hid (pick_c s _ kinds wr HE.out (by omega) (by omega))
      go_wp2_with fail
      refine C.out.mono ?_
      rintro e w3 ⟨x, rfl, hx, he3, hs3⟩
      obtain ⟨i, rfl⟩ : ∃ i : Nat, x = i := ⟨x.toNat, by omega⟩
      have hik : i < kinds := by omega
      have hik2 : (i : Int) < kinds := by omega
      have HC3 := Lib.hid (HC.out.trans he3.chg)
      have HB3 := Lib.hid (HB.out.exc he3 hsz)
      have HS3 := Lib.hid hs3
      have hz3 := HC3.out.size
      have g1 := HB3.out.atV (i := i) (by have := HL.out; omega)
      have g2 := HB3.out.free i
      have b1 := HX.out i
      have HCS : Hid (Chg [s] w (w3.setCell ⟨w.heap.size, i, none⟩ (.int .i64 (nth xs i + 1)))) := Lib.hid (HC3.out.low ((Below.refl w.heap.size w3).setCell (by exact Nat.le_refl _) _))
      have HBS := Lib.hid (HB3.out.setV i (nth xs i + 1))
      have HSS : Hid (SrcE (w3.setCell ⟨w.heap.size, i, none⟩ (.int .i64 (nth xs i + 1))) s (m + 2 + 2 * (q - (r - 1)))) := Lib.hid ((HS3.out.below (B := w.heap.size) ((Below.refl w.heap.size w3).setCell (by exact Nat.le_refl _) _) hsz).more (by omega))
      have HXS : Hid (∀ j, 0 ≤ nth (xs.set i (nth xs i + 1)) j ∧ nth (xs.set i (nth xs i + 1)) j ≤ (q : Int) - (r - 1 : Nat)) := Lib.hid fun j => by
        rw [nthS (by have := HL.out; omega)]
        have := HX.out j
        have := HX.out i
        split <;> omega
      clear C he3 hs3 HC3 HB3 HS3
      go_wp2
      go_roundw
      case rel => exact ⟨r - 1, xs.set i (nth xs i + 1), by omega, by go_num, Lib.hid (by have := HL.out; simp; omega), HXS, HCS, HBS, HSS⟩
      case measure => simp [intOf]; omega
    · have h0i : ¬ (0 : Int) < r := by omega
      have HR : Hid (r = 0) := Lib.hid (by omega)
      clear h0r
      go_wp2
      go_ret
      exact ⟨xs, w.heap.size, kinds, by rw [HL.out]; rfl, HC.out, by rw [HL.out]; exact HB.out, ⟨HL.out, fun j => by have := HX.out j; omega⟩, HE.out.more (by omega)⟩
theorem l06Objects_c (s m : Nat) (kinds most : Nat) (w : World) (h : SrcE w s m) (hm : m ≤ 1000000000) (hk : 1 ≤ kinds ∧ kinds ≤ 8) (h0 : most ≤ 100) :
    Calls Try.prog 17 #[.pointer (some ⟨s, 0, none⟩), .int .i64 kinds, .int .i64 most] w (RetL w s (m + 2 + 2 * most) fun xs => xs.length = kinds ∧ ∀ j, 0 ≤ nth xs j ∧ nth xs j ≤ most) := by
  refine (l06ObjectsB_c s m kinds most w h hm hk h0).mono ?_
  rintro e w' ⟨xs, g, c, rfl, hc, hbl, hp, hs⟩
  obtain ⟨a, c', F, hv, ho, hn, hF⟩ := hbl.ow (by rw [hp.1]; unfold maxLen; omega)
  exact ⟨xs, _, F, rfl, hc, by rw [hv]; exact ho, hn, hF, hp, hs⟩
/-- The cells of a passing system that is being drawn: the result's block, the block of what is drawn. -/
structure DrC (w0 : World) (s m : Nat) (K : Int) (wr : World) (v1 v2 v3 : Value) : Prop where
  chg : Chg [s] w0 wr
  src : SrcE wr s m
  hs : s < w0.heap.size
  hz : w0.heap.size + 1 + 1 + 1 ≤ wr.heap.size
  r : ∀ i, i < 4 → ∃ u, wr.cell? ⟨w0.heap.size, i, none⟩ = some u
  zr : ∀ i, wr.frozen? ⟨w0.heap.size, i, none⟩ = false
  c0 : wr.cell? ⟨w0.heap.size + 1 + 1, 0, none⟩ = some (.int .i64 K)
  c1 : wr.cell? ⟨w0.heap.size + 1 + 1, 1, none⟩ = some v1
  c2 : wr.cell? ⟨w0.heap.size + 1 + 1, 2, none⟩ = some v2
  c3 : wr.cell? ⟨w0.heap.size + 1 + 1, 3, none⟩ = some v3
  zc : ∀ i, wr.frozen? ⟨w0.heap.size + 1 + 1, i, none⟩ = false
section
variable {w0 : World} {s m m' : Nat} {K : Int} {wr w' : World} {v1 v2 v3 : Value} {F : List Nat}
theorem DrC.go (h : DrC w0 s m K wr v1 v2 v3) (hc : Chg F wr w') (hs : SrcE w' s m') (hF : ∀ g, g ∈ F → g = s ∨ (w0.heap.size + 1 ≤ g ∧ g ≠ w0.heap.size + 1 + 1)) : DrC w0 s m' K w' v1 v2 v3 := by
  have hz := h.hz
  have hhs := h.hs
  have e1 : w0.heap.size ∉ F := fun e => by have := hF _ e; omega
  have e2 : w0.heap.size + 1 + 1 ∉ F := fun e => by have := hF _ e; omega
  have cc := fun i => hc.cell (b := w0.heap.size + 1 + 1) (by omega) e2 i
  refine ⟨h.chg.compV hc (fun g hg => by
    rcases hF g hg with h1 | h1
    · exact .inl (by simp [h1])
    · exact .inr (by omega)), hs, hhs, Nat.le_trans hz hc.size, fun i hi => ?_, fun i => (hc.frozen (by omega) e1 i).trans (h.zr i), (cc 0).trans h.c0, (cc 1).trans h.c1, (cc 2).trans h.c2, (cc 3).trans h.c3, fun i => (hc.frozen (by omega) e2 i).trans (h.zc i)⟩
  obtain ⟨u, hu⟩ := h.r i hi
  exact ⟨u, (hc.cell (by omega) e1 i).trans hu⟩
theorem DrC.exc (h : DrC w0 s m K wr v1 v2 v3) (hc : Exc [s] wr w') (hs : SrcE w' s m') : DrC w0 s m' K w' v1 v2 v3 := h.go hc.chg hs (fun g hg => .inl (by simpa using hg))
theorem DrC.more (h : DrC w0 s m K wr v1 v2 v3) (hm : m ≤ m') : DrC w0 s m' K wr v1 v2 v3 := ⟨h.chg, h.src.more hm, h.hs, h.hz, h.r, h.zr, h.c0, h.c1, h.c2, h.c3, h.zc⟩
theorem DrC.below (h : DrC w0 s m K wr v1 v2 v3) (hb : Below wr.heap.size wr w') : DrC w0 s m K w' v1 v2 v3 := h.go (F := []) (Chg.ofBelow hb) (h.src.below hb (by have := h.hs; have := h.hz; omega)) (by simp)
theorem DrC.setq (h : DrC w0 s m K wr v1 v2 v3) (i : Nat) (v : Value) : SrcE (wr.setCell ⟨w0.heap.size + 1 + 1, i, none⟩ v) s m ∧ Chg [s] w0 (wr.setCell ⟨w0.heap.size + 1 + 1, i, none⟩ v) ∧ w0.heap.size + 1 + 1 + 1 ≤ (wr.setCell ⟨w0.heap.size + 1 + 1, i, none⟩ v).heap.size ∧ (∀ i', i' < 4 → ∃ u, (wr.setCell ⟨w0.heap.size + 1 + 1, i, none⟩ v).cell? ⟨w0.heap.size, i', none⟩ = some u) ∧ (∀ i', (wr.setCell ⟨w0.heap.size + 1 + 1, i, none⟩ v).frozen? ⟨w0.heap.size, i', none⟩ = false) ∧ (∀ i', (wr.setCell ⟨w0.heap.size + 1 + 1, i, none⟩ v).frozen? ⟨w0.heap.size + 1 + 1, i', none⟩ = false) := by
  have hc : Chg [w0.heap.size + 1 + 1] wr (wr.setCell ⟨w0.heap.size + 1 + 1, i, none⟩ v) := chg_set wr _ v [w0.heap.size + 1 + 1] (by simp)
  have hz := h.hz
  refine ⟨h.src.chg hc (fun g hg => by have := h.hs; simp at hg; omega), h.chg.compV hc (fun g hg => by simp at hg; exact .inr (by omega)), by have := hc.size; omega, fun i' hi => ?_, fun i' => by rw [World.frozen?_setCell]; exact h.zr i', fun i' => by rw [World.frozen?_setCell]; exact h.zc i'⟩
  obtain ⟨u, hu⟩ := h.r i' hi
  exact ⟨u, (hc.cell (by omega) (by simp only [List.mem_singleton]; omega) i').trans hu⟩
theorem DrC.set1 (h : DrC w0 s m K wr v1 v2 v3) (v : Value) : DrC w0 s m K (wr.setCell ⟨w0.heap.size + 1 + 1, 1, none⟩ v) v v2 v3 := by
  obtain ⟨h1, h2, h3, h4, h5, h6⟩ := h.setq 1 v
  exact ⟨h2, h1, h.hs, h3, h4, h5, (World.cell?_setCell_other _ _ _ _ (by simp)).trans h.c0, World.cell?_setCell_same _ _ _ h.c1, (World.cell?_setCell_other _ _ _ _ (by simp)).trans h.c2, (World.cell?_setCell_other _ _ _ _ (by simp)).trans h.c3, h6⟩
theorem DrC.set2 (h : DrC w0 s m K wr v1 v2 v3) (v : Value) : DrC w0 s m K (wr.setCell ⟨w0.heap.size + 1 + 1, 2, none⟩ v) v1 v v3 := by
  obtain ⟨h1, h2, h3, h4, h5, h6⟩ := h.setq 2 v
  exact ⟨h2, h1, h.hs, h3, h4, h5, (World.cell?_setCell_other _ _ _ _ (by simp)).trans h.c0, (World.cell?_setCell_other _ _ _ _ (by simp)).trans h.c1, World.cell?_setCell_same _ _ _ h.c2, (World.cell?_setCell_other _ _ _ _ (by simp)).trans h.c3, h6⟩
theorem DrC.set3 (h : DrC w0 s m K wr v1 v2 v3) (v : Value) : DrC w0 s m K (wr.setCell ⟨w0.heap.size + 1 + 1, 3, none⟩ v) v1 v2 v := by
  obtain ⟨h1, h2, h3, h4, h5, h6⟩ := h.setq 3 v
  exact ⟨h2, h1, h.hs, h3, h4, h5, (World.cell?_setCell_other _ _ _ _ (by simp)).trans h.c0, (World.cell?_setCell_other _ _ _ _ (by simp)).trans h.c1, (World.cell?_setCell_other _ _ _ _ (by simp)).trans h.c2, World.cell?_setCell_same _ _ _ h.c3, h6⟩
end
/-- A list in a cell of the drawn system's block gets one row more. -/
theorem Lst.putC {E : TypeId} {k : Nat} {wb w7 : World} {B q i n : Nat} {v v' : Value} {ds rs : List D} {G F G' : List Nat} (hL : Lst E k wb B v n ds G) (hN : LstNext E k wb w7 B v v' n ds rs G F G') (hq : q ∉ G) (hF : q ∉ F) (hz : q < wb.heap.size) :
    Lst E k (w7.setCell ⟨q, i, none⟩ v') B v' (n + 1) (ds ++ rs) G' ∧ Chg (q :: ob v) wb (w7.setCell ⟨q, i, none⟩ v') ∧ (∀ g, g ∈ G' → g ∈ G ∨ g ∈ F ∨ wb.heap.size ≤ g) ∧ q ∉ G' ∧ q ∉ ob v := by
  have hng : q ∉ G' := fun e => by
    rcases hN.mem q e with h | h | h
    · exact hq h
    · exact hF h
    · omega
  exact ⟨hN.lst.keep (chg_set w7 ⟨q, i, none⟩ v' [q] (by simp)) (fun g hg e => by simp at e; subst e; exact hng hg), (hN.chg.wider (fun k hk => List.mem_cons_of_mem _ hk)).trans (chg_set w7 _ _ _ (by simp)), hN.mem, hng, fun e => hq (ob_sub hL _ e)⟩
/-- What l06Draw returns. -/
def RetDP (w : World) (s m : Nat) (e : Ending) (w' : World) : Prop := ∃ (K : Nat) (x1 : List Int) (x2 : List Bool) (x3 : List PR) (v1 v2 v3 : Value) (F1 F2 F3 : List Nat), e = .returned (.agg #[.int .i64 K, v1, v2, v3]) ∧ Chg [s] w w' ∧ SrcE w' s m ∧ Ow w' (dI x1) v1 F1 ∧ Ow w' (dB x2) v2 F2 ∧ Ow w' (dPR x3) v3 F3 ∧ (∀ g, g ∈ F1 ++ F2 ++ F3 → w.heap.size ≤ g) ∧ okPass K x1 x2 x3 = true ∧ K ≤ 3
theorem pars_snoc {xs : List Int} {x : Int} (h : parsOk xs = true) (h0 : 1 ≤ xs.length) (hx : 0 ≤ x ∧ x < xs.length) : parsOk (xs ++ [x]) = true := by
  refine parsOk_true fun j hj => ?_
  unfold parOk
  rw [snoc_nth]
  by_cases e : j + 1 = xs.length
  · rw [if_pos e]; simp [inRg]; omega
  · rw [if_neg e]
    simp at hj
    exact parsOk_at h (by omega)
theorem allPR_snoc {p : PR → Bool} {rs : List PR} {r : PR} (h : allPR p rs = true) (hr : p r = true) : allPR p (rs ++ [r]) = true := by
  refine allPR_true fun j hj => ?_
  by_cases e : j < rs.length
  · have := allPR_at h e
    rwa [show nthPR (rs ++ [r]) j = nthPR rs j by simp [nthPR, List.getD_eq_getElem?_getD, List.getElem?_append_left e]]
  · have : j = rs.length := by simp at hj; omega
    subst this
    simpa [nthPR] using hr
theorem RowAt.prV {B : Nat} {w4 w5 : World} {E : TypeId} {x : Int} {o i : List Int} {ao ai : Option Addr} {co ci : Nat} {Fo Fi G : List Nat} (ho : Ow w5 (dI o) (.slice ao o.length co) Fo) (hi : Ow w5 (dI i) (.slice ai i.length ci) Fi) (hno : Fo.Nodup) (hni : Fi.Nodup) (hFo : ∀ g, g ∈ Fo → B ≤ g ∧ g < w4.heap.size) (hFi : ∀ g, g ∈ Fi → B ≤ g ∧ w4.heap.size ≤ g) (hG : ∀ g, g ∈ Fo ++ Fi → g ∉ G) :
    RowAt (w5.alloc (.cells #[.int .i64 x, .slice ao o.length co, .slice ai i.length ci] E)) w5.heap.size 3 B (PR.mk x o i).ds [.int .i64 x, .slice ao o.length co, .slice ai i.length ci] (Fo ++ Fi) G := by
  have hb := below_alloc w5 (.cells #[.int .i64 x, .slice ao o.length co, .slice ai i.length ci] E)
  refine ⟨⟨[], Fo ++ Fi, ⟨rfl, rfl⟩, ⟨Fo, Fi, ho.below hb, ⟨Fi, [], hi.below hb, rfl, by simp⟩, rfl⟩, rfl⟩, rfl, List.nodup_append.2 ⟨hno, hni, fun a ha b hb e => by have := hFo a ha; have := hFi b hb; omega⟩, fun g hg => ?_, hG, fun j u hu => ?_, by simp [Value.oneCell']⟩
  · rcases List.mem_append.1 hg with hg | hg
    · exact (hFo g hg).1
    · exact (hFi g hg).1
  · match j, hu with
    | 0, hu => simp at hu; subst hu; simp [go_sem]
    | 1, hu => simp at hu; subst hu; simp [go_sem]
    | 2, hu => simp at hu; subst hu; simp [go_sem]
theorem DrC.ret {w0 wr : World} {s m : Nat} {kk : Nat} {v1 v2 v3 : Value} {x1 : List Int} {x2 : List Bool} {x3 : List PR} {F1 F2 F3 : List Nat} (h : DrC w0 s m (1 + (kk : Int)) wr v1 v2 v3) (o1 : Ow wr (dI x1) v1 F1) (o2 : Ow wr (dB x2) v2 F2) (o3 : Ow wr (dPR x3) v3 F3) (hF : ∀ g, g ∈ F1 ++ F2 ++ F3 → w0.heap.size + 1 ≤ g) (hok : okPass (1 + (kk : Int)) x1 x2 x3 = true) (hk : kk ≤ 2) :
    RetDP w0 s m (.returned (.agg #[.int .i64 (1 + (kk : Int)), v1, v2, v3])) ((((wr.setCell ⟨w0.heap.size, 0, none⟩ (.int .i64 (1 + (kk : Int)))).setCell ⟨w0.heap.size, 1, none⟩ v1).setCell ⟨w0.heap.size, 2, none⟩ v2).setCell ⟨w0.heap.size, 3, none⟩ v3) := by
  have hc : Chg [w0.heap.size] wr ((((wr.setCell ⟨w0.heap.size, 0, none⟩ (.int .i64 (1 + (kk : Int)))).setCell ⟨w0.heap.size, 1, none⟩ v1).setCell ⟨w0.heap.size, 2, none⟩ v2).setCell ⟨w0.heap.size, 3, none⟩ v3) :=
    (((chg_set wr ⟨w0.heap.size, 0, none⟩ _ _ (by simp)).trans (chg_set _ ⟨w0.heap.size, 1, none⟩ v1 _ (by simp))).trans (chg_set _ ⟨w0.heap.size, 2, none⟩ v2 _ (by simp))).trans (chg_set _ ⟨w0.heap.size, 3, none⟩ v3 _ (by simp))
  have e : ((kk + 1 : Nat) : Int) = 1 + (kk : Int) := by omega
  have hn : ∀ F : List Nat, (∀ g, g ∈ F → w0.heap.size + 1 ≤ g) → ∀ g, g ∈ F → g ∉ [w0.heap.size] := fun F hF g hg => by have := hF g hg; simp; omega
  exact ⟨kk + 1, x1, x2, x3, v1, v2, v3, F1, F2, F3, by rw [e], h.chg.compV hc (fun g hg => by simp at hg; exact .inr (by omega)), h.src.chg hc (fun g hg => by have := h.hs; simp at hg; omega), hc.ow o1 (hn F1 fun g hg => hF g (by simp [hg])), hc.ow o2 (hn F2 fun g hg => hF g (by simp [hg])), hc.ow o3 (hn F3 fun g hg => hF g (by simp [hg])), fun g hg => by have := hF g hg; omega, by rw [e]; exact hok, by omega⟩
end Go.Proofs.Ytkjmehpehopncaa
