/- Configs that follow: the program's function. -/
import Derived.Test.YtdcpdipakglnnaaND
namespace Go.Proofs.Ytdcpdipakglnnaa
open Go.RowKit

theorem Lst.cfg1 {E : TypeId} {w3 : World} {B : Nat} {sl : Value} {xs : List Int} {F : List Nat} (ho : Ow w3 (dI xs) sl F) (hn : F.Nodup) (hF : ∀ g, g ∈ F → B ≤ g) (hB : B ≤ w3.heap.size) (a : Int) :
    Lst E 2 (w3.alloc (.cells #[.int .i64 a, sl] E)) B (.slice (some ⟨w3.heap.size, 0, none⟩) 1 1) 1 [.i a, dI xs] (w3.heap.size :: F) := by
  refine ⟨[.int .i64 a, sl], F, ⟨by simp, .inr ⟨w3.heap.size, 1, #[.int .i64 a, sl], rfl, hB, heap_alloc_new w3 _, by omega, by simp [maxLen], by simp, by simp⟩⟩, ⟨[], F, ⟨rfl, rfl⟩, ⟨F, [], ho.below (below_alloc _ _), rfl, by simp⟩, by simp⟩, hn, hF, fun g hg hg2 => ?_, rfl⟩
  have h1 := Ow.lt _ _ _ ho g hg2
  have h2 : g = w3.heap.size := by simpa [ob, Value.ownBlock] using hg
  omega
theorem RetDC.noneC {w w' : World} (a : Option Addr) (c : Nat) (code : Int) (hb : Below w.heap.size w w') : RetDC w (dCS []) code (.returned (.tuple #[.slice a 0 c, .int .i64 code])) w' :=
  ⟨_, [], rfl, hb, Ow_empty _ _ _ _, by simp, by simp⟩
theorem RetDC.ofLst {E : TypeId} {w w' : World} {v : Value} {n : Nat} {ds : List D} {G : List Nat} {cs : List Cfg} (code : Int) (h : Lst E 2 w' w.heap.size v n ds G) (_hn : n = cs.length) (hds : ds = cs.flatMap Cfg.ds) (hb : Below w.heap.size w w') (hl : n ≤ maxLen := by simp [maxLen]) : RetDC w (dCS cs) code (.returned (.tuple #[v, .int .i64 code])) w' := by
  obtain ⟨G', ho, hN, hS⟩ := h.ow (by omega) hl
  subst hds
  exact ⟨v, G', rfl, hb, ho, hN, fun g hg => (h.lt g (hS g hg)).1⟩
theorem set_same {xs : List Int} {i : Nat} (h : i < xs.length) : xs.set i (nth xs i) = xs := by
  rw [nth_lt h]; exact List.set_getElem_self h
theorem movedC_c (pc at_ reg by_ : Int) (a : Option Addr) (c : Nat) (regs : List Int) (w : World) (hx : SlI Any w a regs) (l1 : regs.length ≤ 8) (hr : 0 ≤ reg ∧ reg < regs.length) (hv : 0 ≤ nth regs reg.toNat ∧ nth regs reg.toNat ≤ 1000) (hby : -1 ≤ by_ ∧ by_ ≤ 1) :
    Calls Try.prog 182 #[.agg #[.int .i64 pc, .slice a regs.length c], .int .i64 at_, .int .i64 reg, .int .i64 by_] w (fun e w' => ∃ a1 c1 F, e = .returned (.agg #[.int .i64 at_, .slice a1 regs.length c1]) ∧ Below w.heap.size w w' ∧ Ow w' (dI (regs.set reg.toNat (nth regs reg.toNat + by_))) (.slice a1 regs.length c1) F ∧ F.Nodup ∧ ∀ g, g ∈ F → w.heap.size ≤ g) := by
  refine (moved_c pc at_ reg by_ a c regs w hx l1 hr hv hby).mono ?_
  rintro e w' ⟨vs, F, rfl, hb, ho, hn, hF⟩
  match vs, ho with
  | [v0, v1], ⟨G0, _, ⟨h0, h0'⟩, ⟨G1, _, h1, h2, h3⟩, h4⟩ =>
    subst h0 h0'
    have h2' : _ = [] := h2
    subst h2' h3
    simp only [List.append_nil, List.nil_append] at h4
    subst h4
    obtain ⟨a1, c1, rfl⟩ := h1.val
    rw [List.length_set] at h1 ⊢
    exact ⟨a1, c1, _, rfl, hb, h1, hn, hF⟩
set_option maxHeartbeats 8000000 in
theorem next_c (R : Int) (ao : Option Addr) (co : Nat) (os : List Ord) (pc : Int) (a : Option Addr) (c : Nat) (regs : List Int) (w : World) (ho : SlO Any w ao os) (hx : SlI Any w a regs) (hvp : validProgS R os = true) (hcf : confOk R os.length pc regs = true) :
    Calls Try.prog 133 #[.agg #[.int .i64 R, .slice ao os.length co], .agg #[.int .i64 pc, .slice a regs.length c]] w (RetDC w (dCS (nextS os pc regs).1) (nextS os pc regs).2) := by
  have hR : 1 ≤ R ∧ R ≤ 3 ∧ 1 ≤ os.length ∧ os.length ≤ 6 := by simp [validProgS, inRg] at hvp; omega
  have hP : 0 ≤ pc ∧ pc ≤ os.length := by simp [confOk, inRg] at hcf; omega
  have hRg := regsOk_ok (show regsOk R regs = true by simp only [confOk, Bool.and_eq_true] at hcf; exact hcf.2)
  have hl8 : regs.length ≤ 8 := by omega
  have hb : Below w.heap.size w ((w.alloc (.cells #[.int .i64 R, .slice ao os.length co] 65)).alloc (.cells #[.int .i64 pc, .slice a regs.length c] 78)) := ((Below.refl _ _).alloc (Nat.le_refl _) _).alloc (by simp) _
  have HH := Lib.hid (halts_c R ao co os pc (.slice a regs.length c) ((w.alloc (.cells #[.int .i64 R, .slice ao os.length co] 65)).alloc (.cells #[.int .i64 pc, .slice a regs.length c] 78)) (ho.below hb) hP.1 hP.2)
  have HB := Lib.hid hb
  have HX := Lib.hid hx
  cases hh : haltS os pc
  rotate_left
  · have ev : nextS os pc regs = ([], 0) := by rw [nextS, if_pos hh]
    rw [ev]
    rw [hh] at HH
    clear ev hh hb hx hcf hvp
    go_enter Try.func133, Try.ntmps133
    go_wp2_with fail
    refine HH.out.mono ?_
    rintro e w1 ⟨rfl, hb1⟩
    have HB1 := Lib.hid (HB.out.trans (hb1.mono (by simp <;> omega)))
    clear hb1
    go_wp2
    go_ret2
    exact RetDC.noneC _ _ _ HB1.out
  · have ev : nextS os pc regs = nextO (nthO os pc.toNat) regs := by rw [nextS, if_neg (by rw [hh]; simp)]
    rw [hh] at HH
    have hne : pc ≠ os.length ∧ (nthO os pc.toNat).op ≠ 3 := by simp [haltS] at hh; exact hh
    have hlt : pc < os.length := by omega
    have hok : okOrd R os.length (nthO os pc.toNat) = true := by
      simp only [validProgS, Bool.and_eq_true] at hvp
      have h := hvp.2
      rw [allO, List.all_eq_true] at h
      rw [nthO_lt (by omega)]; exact h _ (List.getElem_mem (by omega))
    have hop : ((nthO os pc.toNat).op = 1 ∨ (nthO os pc.toNat).op = 2) ∧ 0 ≤ (nthO os pc.toNat).reg ∧ (nthO os pc.toNat).reg < R := by
      unfold okOrd at hok
      split at hok
      · rename_i h; simp [inRg] at hok; exact ⟨h, by omega, by omega⟩
      · simp at hok; exact absurd hok.1 hne.2
    have hrg : 0 ≤ (nthO os pc.toNat).reg ∧ (nthO os pc.toNat).reg < regs.length := by omega
    have hvv := hRg.2 (nthO os pc.toNat).reg.toNat (by omega)
    have i0 := fun w' => ixO ho co pc w' hP.1 hlt
    have i1 := fun w' => hx.ix tabI.under tabI.size c (nthO os pc.toNat).reg w' hrg.1 hrg.2
    have G0 := Lib.hid (ho.c0 pc.toNat (by omega))
    have G1 := Lib.hid (ho.c1 pc.toNat (by omega))
    have G2 := Lib.hid (ho.c2 pc.toNat (by omega))
    have G3 := Lib.hid (ho.c3 pc.toNat (by omega))
    have Q0 := Lib.hid (hx.cell (nthO os pc.toNat).reg.toNat (by omega))
    have HOP := Lib.hid hop.1
    have h2 : (nthO os pc.toNat).op = 1 ∨ (nthO os pc.toNat).op = 2 := hop.1
    have hcl : True := trivial
    clear hb hx ho hcf hvp hh hne hok hop hRg hR
    by_cases e2 : (nthO os pc.toNat).op = 2
    · have b2 : ((nthO os pc.toNat).op == 2) = true := by simp [e2]
      by_cases ev0 : 0 < nth regs (nthO os pc.toNat).reg.toNat
      · have er : nextO (nthO os pc.toNat) regs = ([⟨(nthO os pc.toNat).to, regs.set (nthO os pc.toNat).reg.toNat (nth regs (nthO os pc.toNat).reg.toNat + -1)⟩], 0) := by simp [nextO, e2, ev0, Int.sub_eq_add_neg]
        rw [ev, er]
        clear ev er e2 h2 HOP
        go_enter Try.func133, Try.ntmps133
        go_wp2_with fail
        refine HH.out.mono ?_
        rintro e w1 ⟨rfl, hb1⟩
        have hz1 : w.heap.size + 2 ≤ w1.heap.size := by have := hb1.size; (try simp at this); omega
        have hu1 : w.heap.size < w1.heap.size := by omega
        have hv1 : w.heap.size + 1 < w1.heap.size := by omega
        have e1 : w1.cell? ⟨w.heap.size, 1, none⟩ = some (.slice ao os.length co) := by rw [bcell1 hb1 (by simp <;> omega)]; simp [go_sem]
        have e2 : w1.cell? ⟨w.heap.size + 1, 0, none⟩ = some (.int .i64 pc) := by rw [bcell1 hb1 (by simp)]; simp [go_sem]
        have e3 : w1.cell? ⟨w.heap.size + 1, 1, none⟩ = some (.slice a regs.length c) := by rw [bcell1 hb1 (by simp)]; simp [go_sem]
        have hbw : Below w.heap.size w w1 := HB.out.trans (hb1.mono (by simp <;> omega))
        have g0 := (hbw.cell (World.block_lt_of_cell? w _ G0.out)).trans G0.out
        have g1 := (hbw.cell (World.block_lt_of_cell? w _ G1.out)).trans G1.out
        have g2 := (hbw.cell (World.block_lt_of_cell? w _ G2.out)).trans G2.out
        have g3 := (hbw.cell (World.block_lt_of_cell? w _ G3.out)).trans G3.out
        have q0 := (hbw.cell (World.block_lt_of_cell? w _ Q0.out)).trans Q0.out
        have qa := fun ob => (((below_alloc w1 ob).cell (World.block_lt_of_cell? w1 _ q0))).trans q0
        have HBW := Lib.hid hbw
        have HB2 : Hid (∀ o, Below w.heap.size w (w1.alloc o)) := Lib.hid (fun o => hbw.alloc (by omega) o)
        clear hb1 hbw
        go_wp2_with fail
        refine (movedC_c pc (nthO os pc.toNat).to (nthO os pc.toNat).reg (-1) a c regs _ (HX.out.below (HB2.out _)) hl8 hrg hvv (by omega)).mono ?_
        rintro e w3 ⟨xw3, yw3, F3, rfl, hbw3, how3, hnw3, hfw3⟩
        have hbt : Below w.heap.size w w3 := bnext (HB2.out (.cells #[.int .i64 (nthO os pc.toNat).op, .int .i64 (nthO os pc.toNat).reg, .int .i64 (nthO os pc.toNat).to, .int .i64 (nthO os pc.toNat).els] 196)) hbw3 (Nat.le_refl _)
        have hl : Lst 78 2 (w3.alloc (.cells #[.int .i64 (nthO os pc.toNat).to, .slice xw3 regs.length yw3] 78)) w.heap.size (.slice (some ⟨w3.heap.size, 0, none⟩) 1 1) 1 [.i (nthO os pc.toNat).to, dI (regs.set (nthO os pc.toNat).reg.toNat (nth regs (nthO os pc.toNat).reg.toNat + -1))] (w3.heap.size :: F3) := Lst.cfg1 how3 hnw3 (fun g hg => by have := hfw3 g hg; (try simp at this); omega) hbt.size _
        have HR := Lib.hid (RetDC.ofLst (cs := [⟨(nthO os pc.toNat).to, regs.set (nthO os pc.toNat).reg.toNat (nth regs (nthO os pc.toNat).reg.toNat + -1)⟩]) 0 hl rfl (by simp [Cfg.ds]) (hbt.alloc hbt.size _))
        clear hbw3 how3 hnw3 hfw3 hbt hl
        go_wp2
        go_ret2
        exact HR.out
      · have hlen8 : (nthO os pc.toNat).reg.toNat < regs.length := by omega
        have hv0 : ¬ 0 < nth regs (nthO os pc.toNat).reg.toNat := ev0
        have er : nextO (nthO os pc.toNat) regs = ([⟨(nthO os pc.toNat).els, regs⟩], 0) := by simp [nextO, e2, ev0]
        rw [ev, er]
        clear ev er e2 h2 HOP
        go_enter Try.func133, Try.ntmps133
        go_wp2_with fail
        refine HH.out.mono ?_
        rintro e w1 ⟨rfl, hb1⟩
        have hz1 : w.heap.size + 2 ≤ w1.heap.size := by have := hb1.size; (try simp at this); omega
        have hu1 : w.heap.size < w1.heap.size := by omega
        have hv1 : w.heap.size + 1 < w1.heap.size := by omega
        have e1 : w1.cell? ⟨w.heap.size, 1, none⟩ = some (.slice ao os.length co) := by rw [bcell1 hb1 (by simp <;> omega)]; simp [go_sem]
        have e2 : w1.cell? ⟨w.heap.size + 1, 0, none⟩ = some (.int .i64 pc) := by rw [bcell1 hb1 (by simp)]; simp [go_sem]
        have e3 : w1.cell? ⟨w.heap.size + 1, 1, none⟩ = some (.slice a regs.length c) := by rw [bcell1 hb1 (by simp)]; simp [go_sem]
        have hbw : Below w.heap.size w w1 := HB.out.trans (hb1.mono (by simp <;> omega))
        have g0 := (hbw.cell (World.block_lt_of_cell? w _ G0.out)).trans G0.out
        have g1 := (hbw.cell (World.block_lt_of_cell? w _ G1.out)).trans G1.out
        have g2 := (hbw.cell (World.block_lt_of_cell? w _ G2.out)).trans G2.out
        have g3 := (hbw.cell (World.block_lt_of_cell? w _ G3.out)).trans G3.out
        have q0 := (hbw.cell (World.block_lt_of_cell? w _ Q0.out)).trans Q0.out
        have qa := fun ob => (((below_alloc w1 ob).cell (World.block_lt_of_cell? w1 _ q0))).trans q0
        have HBW := Lib.hid hbw
        have HB2 : Hid (∀ o, Below w.heap.size w (w1.alloc o)) := Lib.hid (fun o => hbw.alloc (by omega) o)
        clear hb1 hbw
        go_wp2_with fail
        refine (movedC_c pc (nthO os pc.toNat).els (nthO os pc.toNat).reg 0 a c regs _ (HX.out.below (HB2.out _)) hl8 hrg hvv (by omega)).mono ?_
        rintro e w3 ⟨xw3, yw3, F3, rfl, hbw3, how3, hnw3, hfw3⟩
        have hbt : Below w.heap.size w w3 := bnext (HB2.out (.cells #[.int .i64 (nthO os pc.toNat).op, .int .i64 (nthO os pc.toNat).reg, .int .i64 (nthO os pc.toNat).to, .int .i64 (nthO os pc.toNat).els] 196)) hbw3 (Nat.le_refl _)
        have hl : Lst 78 2 (w3.alloc (.cells #[.int .i64 (nthO os pc.toNat).els, .slice xw3 regs.length yw3] 78)) w.heap.size (.slice (some ⟨w3.heap.size, 0, none⟩) 1 1) 1 [.i (nthO os pc.toNat).els, dI (regs.set (nthO os pc.toNat).reg.toNat (nth regs (nthO os pc.toNat).reg.toNat + 0))] (w3.heap.size :: F3) := Lst.cfg1 how3 hnw3 (fun g hg => by have := hfw3 g hg; (try simp at this); omega) hbt.size _
        have HR := Lib.hid (RetDC.ofLst (cs := [⟨(nthO os pc.toNat).els, regs⟩]) 0 hl rfl (by simp [Cfg.ds, set_same hlen8]) (hbt.alloc hbt.size _))
        clear hbw3 how3 hnw3 hfw3 hbt hl
        go_wp2
        go_ret2
        exact HR.out
    · have b2 : ((nthO os pc.toNat).op == 2) = false := by simp [e2]
      by_cases ev0 : nth regs (nthO os pc.toNat).reg.toNat = 1000
      · have er : nextO (nthO os pc.toNat) regs = ([], 3) := by simp [nextO, e2, ev0]
        have b3 : (nth regs (nthO os pc.toNat).reg.toNat == 1000) = true := by simp [ev0]
        rw [ev, er]
        clear ev er e2 h2 HOP ev0
        go_enter Try.func133, Try.ntmps133
        go_wp2_with fail
        refine HH.out.mono ?_
        rintro e w1 ⟨rfl, hb1⟩
        have hz1 : w.heap.size + 2 ≤ w1.heap.size := by have := hb1.size; (try simp at this); omega
        have hu1 : w.heap.size < w1.heap.size := by omega
        have hv1 : w.heap.size + 1 < w1.heap.size := by omega
        have e1 : w1.cell? ⟨w.heap.size, 1, none⟩ = some (.slice ao os.length co) := by rw [bcell1 hb1 (by simp <;> omega)]; simp [go_sem]
        have e2 : w1.cell? ⟨w.heap.size + 1, 0, none⟩ = some (.int .i64 pc) := by rw [bcell1 hb1 (by simp)]; simp [go_sem]
        have e3 : w1.cell? ⟨w.heap.size + 1, 1, none⟩ = some (.slice a regs.length c) := by rw [bcell1 hb1 (by simp)]; simp [go_sem]
        have hbw : Below w.heap.size w w1 := HB.out.trans (hb1.mono (by simp <;> omega))
        have g0 := (hbw.cell (World.block_lt_of_cell? w _ G0.out)).trans G0.out
        have g1 := (hbw.cell (World.block_lt_of_cell? w _ G1.out)).trans G1.out
        have g2 := (hbw.cell (World.block_lt_of_cell? w _ G2.out)).trans G2.out
        have g3 := (hbw.cell (World.block_lt_of_cell? w _ G3.out)).trans G3.out
        have q0 := (hbw.cell (World.block_lt_of_cell? w _ Q0.out)).trans Q0.out
        have qa := fun ob => (((below_alloc w1 ob).cell (World.block_lt_of_cell? w1 _ q0))).trans q0
        have HBW := Lib.hid hbw
        have HB2 : Hid (∀ o, Below w.heap.size w (w1.alloc o)) := Lib.hid (fun o => hbw.alloc (by omega) o)
        clear hb1 hbw
        go_wp2
        go_ret2
        exact RetDC.noneC _ _ _ (HB2.out _)
      · have b3 : (nth regs (nthO os pc.toNat).reg.toNat == 1000) = false := by simp [ev0]
        by_cases et : (nthO os pc.toNat).els = (nthO os pc.toNat).to
        · have er : nextO (nthO os pc.toNat) regs = ([⟨(nthO os pc.toNat).to, regs.set (nthO os pc.toNat).reg.toNat (nth regs (nthO os pc.toNat).reg.toNat + 1)⟩], 0) := by simp [nextO, e2, ev0, et]
          have b4 : ((nthO os pc.toNat).els != (nthO os pc.toNat).to) = false := by simp [et]
          rw [ev, er]
          clear ev er e2 h2 HOP ev0 et
          go_enter Try.func133, Try.ntmps133
          go_wp2_with fail
          refine HH.out.mono ?_
          rintro e w1 ⟨rfl, hb1⟩
          have hz1 : w.heap.size + 2 ≤ w1.heap.size := by have := hb1.size; (try simp at this); omega
          have hu1 : w.heap.size < w1.heap.size := by omega
          have hv1 : w.heap.size + 1 < w1.heap.size := by omega
          have e1 : w1.cell? ⟨w.heap.size, 1, none⟩ = some (.slice ao os.length co) := by rw [bcell1 hb1 (by simp <;> omega)]; simp [go_sem]
          have e2 : w1.cell? ⟨w.heap.size + 1, 0, none⟩ = some (.int .i64 pc) := by rw [bcell1 hb1 (by simp)]; simp [go_sem]
          have e3 : w1.cell? ⟨w.heap.size + 1, 1, none⟩ = some (.slice a regs.length c) := by rw [bcell1 hb1 (by simp)]; simp [go_sem]
          have hbw : Below w.heap.size w w1 := HB.out.trans (hb1.mono (by simp <;> omega))
          have g0 := (hbw.cell (World.block_lt_of_cell? w _ G0.out)).trans G0.out
          have g1 := (hbw.cell (World.block_lt_of_cell? w _ G1.out)).trans G1.out
          have g2 := (hbw.cell (World.block_lt_of_cell? w _ G2.out)).trans G2.out
          have g3 := (hbw.cell (World.block_lt_of_cell? w _ G3.out)).trans G3.out
          have q0 := (hbw.cell (World.block_lt_of_cell? w _ Q0.out)).trans Q0.out
          have qa := fun ob => (((below_alloc w1 ob).cell (World.block_lt_of_cell? w1 _ q0))).trans q0
          have HBW := Lib.hid hbw
          have HB2 : Hid (∀ o, Below w.heap.size w (w1.alloc o)) := Lib.hid (fun o => hbw.alloc (by omega) o)
          clear hb1 hbw
          go_wp2_with fail
          refine (movedC_c pc (nthO os pc.toNat).to (nthO os pc.toNat).reg 1 a c regs _ (HX.out.below (HB2.out _)) hl8 hrg hvv (by omega)).mono ?_
          rintro e w3 ⟨xw3, yw3, F3, rfl, hbw3, how3, hnw3, hfw3⟩
          have hbt : Below w.heap.size w w3 := bnext (HB2.out (.cells #[.int .i64 (nthO os pc.toNat).op, .int .i64 (nthO os pc.toNat).reg, .int .i64 (nthO os pc.toNat).to, .int .i64 (nthO os pc.toNat).els] 196)) hbw3 (Nat.le_refl _)
          have hl : Lst 78 2 (w3.alloc (.cells #[.int .i64 (nthO os pc.toNat).to, .slice xw3 regs.length yw3] 78)) w.heap.size (.slice (some ⟨w3.heap.size, 0, none⟩) 1 1) 1 [.i (nthO os pc.toNat).to, dI (regs.set (nthO os pc.toNat).reg.toNat (nth regs (nthO os pc.toNat).reg.toNat + 1))] (w3.heap.size :: F3) := Lst.cfg1 how3 hnw3 (fun g hg => by have := hfw3 g hg; (try simp at this); omega) hbt.size _
          have hu3 : w1.heap.size < w3.heap.size := by have := hbw3.size; (try simp at this); omega
          have c0 : w3.cell? ⟨w1.heap.size, 2, none⟩ = some (.int .i64 (nthO os pc.toNat).to) := by rw [bcell1 hbw3 (by simp)]; simp [go_sem]
          have c1 : w3.cell? ⟨w1.heap.size, 3, none⟩ = some (.int .i64 (nthO os pc.toNat).els) := by rw [bcell1 hbw3 (by simp)]; simp [go_sem]
          have HR := Lib.hid (RetDC.ofLst (cs := [⟨(nthO os pc.toNat).to, regs.set (nthO os pc.toNat).reg.toNat (nth regs (nthO os pc.toNat).reg.toNat + 1)⟩]) 0 hl rfl (by simp [Cfg.ds]) (hbt.alloc hbt.size _))
          clear hbw3 how3 hnw3 hfw3 hbt hl
          go_wp2
          go_ret2
          exact HR.out
        · have er : nextO (nthO os pc.toNat) regs = ([⟨(nthO os pc.toNat).to, regs.set (nthO os pc.toNat).reg.toNat (nth regs (nthO os pc.toNat).reg.toNat + 1)⟩, ⟨(nthO os pc.toNat).els, regs.set (nthO os pc.toNat).reg.toNat (nth regs (nthO os pc.toNat).reg.toNat + 1)⟩], 0) := by simp [nextO, e2, ev0, et]
          have b4 : ((nthO os pc.toNat).els != (nthO os pc.toNat).to) = true := by simp [et]
          rw [ev, er]
          clear ev er e2 h2 HOP ev0 et
          go_enter Try.func133, Try.ntmps133
          go_wp2_with fail
          refine HH.out.mono ?_
          rintro e w1 ⟨rfl, hb1⟩
          have hz1 : w.heap.size + 2 ≤ w1.heap.size := by have := hb1.size; (try simp at this); omega
          have hu1 : w.heap.size < w1.heap.size := by omega
          have hv1 : w.heap.size + 1 < w1.heap.size := by omega
          have e1 : w1.cell? ⟨w.heap.size, 1, none⟩ = some (.slice ao os.length co) := by rw [bcell1 hb1 (by simp <;> omega)]; simp [go_sem]
          have e2 : w1.cell? ⟨w.heap.size + 1, 0, none⟩ = some (.int .i64 pc) := by rw [bcell1 hb1 (by simp)]; simp [go_sem]
          have e3 : w1.cell? ⟨w.heap.size + 1, 1, none⟩ = some (.slice a regs.length c) := by rw [bcell1 hb1 (by simp)]; simp [go_sem]
          have hbw : Below w.heap.size w w1 := HB.out.trans (hb1.mono (by simp <;> omega))
          have g0 := (hbw.cell (World.block_lt_of_cell? w _ G0.out)).trans G0.out
          have g1 := (hbw.cell (World.block_lt_of_cell? w _ G1.out)).trans G1.out
          have g2 := (hbw.cell (World.block_lt_of_cell? w _ G2.out)).trans G2.out
          have g3 := (hbw.cell (World.block_lt_of_cell? w _ G3.out)).trans G3.out
          have q0 := (hbw.cell (World.block_lt_of_cell? w _ Q0.out)).trans Q0.out
          have qa := fun ob => (((below_alloc w1 ob).cell (World.block_lt_of_cell? w1 _ q0))).trans q0
          have HBW := Lib.hid hbw
          have HB2 : Hid (∀ o, Below w.heap.size w (w1.alloc o)) := Lib.hid (fun o => hbw.alloc (by omega) o)
          clear hb1 hbw
          go_wp2_with fail
          refine (movedC_c pc (nthO os pc.toNat).to (nthO os pc.toNat).reg 1 a c regs _ (HX.out.below (HB2.out _)) hl8 hrg hvv (by omega)).mono ?_
          rintro e w3 ⟨xw3, yw3, F3, rfl, hbw3, how3, hnw3, hfw3⟩
          have hbt : Below w.heap.size w w3 := bnext (HB2.out (.cells #[.int .i64 (nthO os pc.toNat).op, .int .i64 (nthO os pc.toNat).reg, .int .i64 (nthO os pc.toNat).to, .int .i64 (nthO os pc.toNat).els] 196)) hbw3 (Nat.le_refl _)
          have hl : Lst 78 2 (w3.alloc (.cells #[.int .i64 (nthO os pc.toNat).to, .slice xw3 regs.length yw3] 78)) w.heap.size (.slice (some ⟨w3.heap.size, 0, none⟩) 1 1) 1 [.i (nthO os pc.toNat).to, dI (regs.set (nthO os pc.toNat).reg.toNat (nth regs (nthO os pc.toNat).reg.toNat + 1))] (w3.heap.size :: F3) := Lst.cfg1 how3 hnw3 (fun g hg => by have := hfw3 g hg; (try simp at this); omega) hbt.size _
          have hu3 : w1.heap.size < w3.heap.size := by have := hbw3.size; (try simp at this); omega
          have hux : w.heap.size < w3.heap.size := by omega
          have hvx : w.heap.size + 1 < w3.heap.size := by omega
          have c0 : w3.cell? ⟨w1.heap.size, 2, none⟩ = some (.int .i64 (nthO os pc.toNat).to) := by rw [bcell1 hbw3 (by simp)]; simp [go_sem]
          have c1 : w3.cell? ⟨w1.heap.size, 3, none⟩ = some (.int .i64 (nthO os pc.toNat).els) := by rw [bcell1 hbw3 (by simp)]; simp [go_sem]
          have c2 : w3.cell? ⟨w1.heap.size, 1, none⟩ = some (.int .i64 (nthO os pc.toNat).reg) := by rw [bcell1 hbw3 (by simp)]; simp [go_sem]
          have c3 : w3.cell? ⟨w.heap.size + 1, 0, none⟩ = some (.int .i64 pc) := by rw [bcell1 hbw3 (by simp; omega), bcell1 (below_alloc _ _) (by omega)]; exact e2
          have c4 : w3.cell? ⟨w.heap.size + 1, 1, none⟩ = some (.slice a regs.length c) := by rw [bcell1 hbw3 (by simp; omega), bcell1 (below_alloc _ _) (by omega)]; exact e3
          have HL1 := Lib.hid hl
          have HBT := Lib.hid hbt
          have hlt1 := Lib.hid hl.lt
          have HB4 : Hid (∀ o, Below w.heap.size w (w3.alloc o)) := Lib.hid (fun o => hbt.alloc hbt.size o)
          clear hbw3 how3 hnw3 hfw3 hbt hl e1 e2 e3 g0 g1 g2 g3 q0 qa
          go_wp2_with fail
          refine (movedC_c pc (nthO os pc.toNat).els (nthO os pc.toNat).reg 1 a c regs _ (HX.out.below (HB4.out _)) hl8 hrg hvv (by omega)).mono ?_
          rintro e w5 ⟨xw5, yw5, F5, rfl, hbw5, how5, hnw5, hfw5⟩
          have hz5 : w3.heap.size + 1 ≤ w5.heap.size := by have := hbw5.size; (try simp at this); omega
          have hl5 := HL1.out.below hbw5
          have hl6 := hl5.below (below_alloc w5 (.cells #[.int .i64 (nthO os pc.toNat).els, .slice xw5 regs.length yw5] 78))
          have hb5 : Below w.heap.size w w5 := bnext (HB4.out _) hbw5 (Nat.le_refl _)
          have HB5 := Lib.hid hb5
          have hrow : RowAt (w5.alloc (.cells #[.int .i64 (nthO os pc.toNat).els, .slice xw5 regs.length yw5] 78)) w5.heap.size 2 w.heap.size [.i (nthO os pc.toNat).els, dI (regs.set (nthO os pc.toNat).reg.toNat (nth regs (nthO os pc.toNat).reg.toNat + 1))] [.int .i64 (nthO os pc.toNat).els, .slice xw5 regs.length yw5] F5 (w3.heap.size :: F3) :=
            ⟨⟨[], F5, ⟨rfl, rfl⟩, ⟨F5, [], how5.below (below_alloc _ _), rfl, by simp⟩, by simp⟩, rfl, hnw5, fun x hx => by have h1 := hfw5 x hx; (try simp at h1); have := HBT.out.size; omega, fun x hx hg => by have h1 := hfw5 x hx; (try simp at h1); have h2 := (hlt1.out x hg).2; (try simp at h2); omega, (fun j u hu => by match j, hu with | 0, hu => (simp at hu; subst hu; simp) | 1, hu => (simp at hu; subst hu; simp)), by simp [Value.oneCell']⟩
          have HROW := Lib.hid hrow
          have HL6 := Lib.hid hl6
          clear hbw5 how5 hnw5 hfw5 hl5 hl6 hb5 hrow
          go_wp2_with (at_builtin; refine app_lst rfl _ _ 81 rfl tabConfigSM rfl (by omega) (by decide) w.heap.size _ 1 _ _ _ _ _ rfl HL6.out w5.heap.size rfl HROW.out (by omega) (by have := HB5.out.size; first | omega | (simp; omega)) ?_)
          intro v7 w7 G7 hN
          have hb7 : Below w.heap.size w w7 := (HB5.out.alloc HB5.out.size _).trans (hN.chg.below (by have := HB5.out.size; simp; omega) (fun g hg => (HL6.out.lt g (ob_sub HL6.out g hg)).1))
          obtain ⟨_, a7, c7, rfl⟩ := hN.lst.val
          have HR := Lib.hid (RetDC.ofLst (cs := [⟨(nthO os pc.toNat).to, regs.set (nthO os pc.toNat).reg.toNat (nth regs (nthO os pc.toNat).reg.toNat + 1)⟩, ⟨(nthO os pc.toNat).els, regs.set (nthO os pc.toNat).reg.toNat (nth regs (nthO os pc.toNat).reg.toNat + 1)⟩]) 0 hN.lst rfl (by simp [Cfg.ds]) hb7)
          clear hN hb7
          go_wp2
          go_ret2
          exact HR.out
end Go.Proofs.Ytdcpdipakglnnaa
