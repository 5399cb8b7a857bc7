/- Configs that follow: the reference's functions. -/
import Derived.Test.YtdcpdipakglnnaaNF
namespace Go.Proofs.Ytdcpdipakglnnaa
open Go.RowKit

/-- The call returns a datum in memory of its own, and says whether all is well. -/
def RetDB (w : World) (d : D) (ok : Bool) (e : Ending) (w' : World) : Prop := ∃ v F, e = .returned (.tuple #[v, .bool ok]) ∧ Below w.heap.size w w' ∧ Ow w' d v F ∧ F.Nodup ∧ ∀ g, g ∈ F → w.heap.size ≤ g
theorem RetDB.none {w w' : World} (a : Option Addr) (c : Nat) (ok : Bool) (hb : Below w.heap.size w w') : RetDB w (dCS []) ok (.returned (.tuple #[.slice a 0 c, .bool ok])) w' :=
  ⟨_, [], rfl, hb, Ow_empty _ _ _ _, by simp, by simp⟩
theorem RetDB.ofLst {E : TypeId} {w w' : World} {v : Value} {n : Nat} {ds : List D} {G : List Nat} {cs : List Cfg} (ok : Bool) (h : Lst E 2 w' w.heap.size v n ds G) (hds : ds = cs.flatMap Cfg.ds) (hb : Below w.heap.size w w') (hl : n ≤ maxLen := by simp [maxLen]) : RetDB w (dCS cs) ok (.returned (.tuple #[v, .bool ok])) w' := by
  obtain ⟨G', ho, hN, hS⟩ := h.ow (by omega) hl
  subst hds
  exact ⟨v, G', rfl, hb, ho, hN, fun g hg => (h.lt g (hS g hg)).1⟩
set_option maxHeartbeats 8000000 in
set_option maxRecDepth 100000 in
theorem l05Next_c (R : Int) (ao : Option Addr) (co p q : Nat) (os : List Ord) (pc : Int) (a : Option Addr) (c : Nat) (regs : List Int) (w : World) (ho : SlO Any w ao os) (hx : SlI Any w a regs) (hp0 : w.cell? ⟨p, 0, none⟩ = some (.int .i64 R)) (hp1 : w.cell? ⟨p, 1, none⟩ = some (.slice ao os.length co)) (hq0 : w.cell? ⟨q, 0, none⟩ = some (.int .i64 pc)) (hq1 : w.cell? ⟨q, 1, none⟩ = some (.slice a regs.length c)) (hvp : validProgS R os = true) (hcf : confOk R os.length pc regs = true) :
    Calls Try.prog 143 #[.pointer (some ⟨p, 0, none⟩), .pointer (some ⟨q, 0, none⟩)] w (RetDB w (dCS (nextS os pc regs).1) ((nextS os pc regs).2 == 0)) := by
  have hR : 1 ≤ R ∧ R ≤ 3 ∧ 1 ≤ os.length ∧ os.length ≤ 6 := by simp [validProgS, inRg] at hvp; omega
  have hP : 0 ≤ pc ∧ pc ≤ os.length := by simp [confOk, inRg] at hcf; omega
  have hRg := regsOk_ok (show regsOk R regs = true by simp only [confOk, Bool.and_eq_true] at hcf; exact hcf.2)
  have hl8 : regs.length ≤ 8 := by omega
  have hpl : p < w.heap.size := World.block_lt_of_cell? w _ hp0
  have hql : q < w.heap.size := World.block_lt_of_cell? w _ hq0
  have HH := Lib.hid (l05Halts_c os pc ao co p w ho hp1 hP.1 hP.2)
  have HX := Lib.hid hx
  cases hh : haltS os pc
  rotate_left
  · have ev : nextS os pc regs = ([], 0) := by rw [nextS, if_pos hh]
    rw [ev]
    rw [hh] at HH
    clear ev hh hx hcf hvp
    go_enter Try.func143, Try.ntmps143
    go_wp2_with fail
    refine HH.out.mono ?_
    rintro e w1 ⟨rfl, rfl⟩
    go_wp2
    go_ret2
    exact RetDB.none _ _ _ (below_alloc _ _)
  · have ev : nextS os pc regs = nextO (nthO os pc.toNat) regs := by rw [nextS, if_neg (by rw [hh]; simp)]
    rw [hh] at HH
    have hne : pc ≠ os.length ∧ (nthO os pc.toNat).op ≠ 3 := by simp [haltS] at hh; exact hh
    have hlt : pc < os.length := by omega
    have hok : okOrd R os.length (nthO os pc.toNat) = true := by
      simp only [validProgS, Bool.and_eq_true] at hvp
      have h := hvp.2
      rw [allO, List.all_eq_true] at h
      rw [nthO_lt (by omega)]; exact h _ (List.getElem_mem (by omega))
    have hop : ((nthO os pc.toNat).op = 1 ∨ (nthO os pc.toNat).op = 2) ∧ 0 ≤ (nthO os pc.toNat).reg ∧ (nthO os pc.toNat).reg < R := by
      unfold okOrd at hok
      split at hok
      · rename_i h; simp [inRg] at hok; exact ⟨h, by omega, by omega⟩
      · simp at hok; exact absurd hok.1 hne.2
    have hrg : 0 ≤ (nthO os pc.toNat).reg ∧ (nthO os pc.toNat).reg < regs.length := by omega
    have hvv := hRg.2 (nthO os pc.toNat).reg.toNat (by omega)
    have i0 := fun w' => ixO ho co pc w' hP.1 hlt
    have g0 := ho.c0 pc.toNat (by omega)
    have g1 := ho.c1 pc.toNat (by omega)
    have g2 := ho.c2 pc.toNat (by omega)
    have g3 := ho.c3 pc.toNat (by omega)
    have k0 := fun ob => ((below_alloc w ob).cell (World.block_lt_of_cell? w _ g0)).trans g0
    have k1 := fun ob => ((below_alloc w ob).cell (World.block_lt_of_cell? w _ g1)).trans g1
    have k2 := fun ob => ((below_alloc w ob).cell (World.block_lt_of_cell? w _ g2)).trans g2
    have k3 := fun ob => ((below_alloc w ob).cell (World.block_lt_of_cell? w _ g3)).trans g3
    clear hx ho hcf hvp hh hne hok hop hRg
    have hbo : Below w.heap.size w (w.alloc (.cells #[.int .i64 (nthO os pc.toNat).op, .int .i64 (nthO os pc.toNat).reg, .int .i64 (nthO os pc.toNat).to, .int .i64 (nthO os pc.toNat).els] 196)).drew := (below_alloc w _).drew
    have HBO := Lib.hid hbo
    clear hbo hR
    by_cases e2 : (nthO os pc.toNat).op = 2
    · have b2 : ((nthO os pc.toNat).op == 2) = true := by simp [e2]
      by_cases ev0 : 0 < nth regs (nthO os pc.toNat).reg.toNat
      · have er : nextO (nthO os pc.toNat) regs = ([⟨(nthO os pc.toNat).to, regs.set (nthO os pc.toNat).reg.toNat (nth regs (nthO os pc.toNat).reg.toNat - 1)⟩], 0) := by simp [nextO, e2, ev0]
        have b0 : (nth regs (nthO os pc.toNat).reg.toNat == 0) = false := by rw [beq_eq_false_iff_ne]; omega
        rw [ev, er]
        clear ev er e2
        go_enter Try.func143, Try.ntmps143
        go_wp2_with fail
        refine HH.out.mono ?_
        rintro e w1 ⟨rfl, rfl⟩
        go_wp2
        go_region
        all_goals
          go_wp2_with fail
          refine (l00OwnN_c Any a c regs _ (HX.out.below HBO.out) (by omega)).mono ?_
          rintro e w2 ⟨v2, rfl, hb2, hl2⟩
          obtain ⟨a2, c2, F2, rfl, ho2, hn2, hF2⟩ := hl2.ow (by unfold maxLen; omega)
          obtain ⟨_, _, ea, hcp, hoi⟩ := Ow_I.1 ho2
          cases ea
          obtain ⟨⟨g, o, rfl⟩, hFe⟩ := hoi.blk (by omega)
          have hgF : g ∈ F2 := by rw [hFe]; simp [blk]
          have hg1 : g < w2.heap.size := Ow.lt _ _ _ ho2 g hgF
          have hg2 : w.heap.size < g := by have := hF2 g hgF; (try simp at this); omega
          have hu2 : w.heap.size < w2.heap.size := by omega
          have n1 : ¬ w.heap.size = g := by omega
          have n2 : ¬ g = w.heap.size := by omega
          have r0 : w2.cell? ⟨w.heap.size, 0, none⟩ = some (.int .i64 (nthO os pc.toNat).op) := by rw [bcell1 hb2 (by simp)]; simp [go_sem]
          have r1 : w2.cell? ⟨w.heap.size, 1, none⟩ = some (.int .i64 (nthO os pc.toNat).reg) := by rw [bcell1 hb2 (by simp)]; simp [go_sem]
          have r2 : w2.cell? ⟨w.heap.size, 2, none⟩ = some (.int .i64 (nthO os pc.toNat).to) := by rw [bcell1 hb2 (by simp)]; simp [go_sem]
          have r3 : w2.cell? ⟨w.heap.size, 3, none⟩ = some (.int .i64 (nthO os pc.toNat).els) := by rw [bcell1 hb2 (by simp)]; simp [go_sem]
          have i1 := fun w' => ix_of (P := Try.prog) tabI.under tabI.size (a := some ⟨g, o, none⟩) (n := regs.length) (fun _ => ⟨g, o, rfl⟩) c2 (nthO os pc.toNat).reg w' hrg.1 hrg.2
          simp only [Nat.mul_one, adr, blk, ofs] at i1
          have f0 : w2.cell? ⟨g, o + (nthO os pc.toNat).reg.toNat, none⟩ = some (.int .i64 (nth regs (nthO os pc.toNat).reg.toNat)) := hoi.cell (nthO os pc.toNat).reg.toNat (by omega)
          have z0 : w2.frozen? ⟨g, o + (nthO os pc.toNat).reg.toNat, none⟩ = false := hoi.free (nthO os pc.toNat).reg.toNat (by omega)
          have hbw : Below w.heap.size w w2 := HBO.out.trans (hb2.mono (by simp <;> omega))
          have hset : ∀ x, Ow (w2.setCell ⟨g, o + (nthO os pc.toNat).reg.toNat, none⟩ (.int .i64 x)) (dI (regs.set (nthO os pc.toNat).reg.toNat x)) (.slice (some ⟨g, o, none⟩) regs.length c2) F2 := fun x => Ow_I.2 ⟨_, c2, by simp, by simpa using hcp, hoi.set (by omega) x⟩
          have hbset : ∀ x, Below w.heap.size w (w2.setCell ⟨g, o + (nthO os pc.toNat).reg.toNat, none⟩ (.int .i64 x)) := fun x => hbw.setCell (show w.heap.size ≤ g by omega) _
          have hfr : ∀ x, x ∈ F2 → w.heap.size ≤ x := fun x hx => by have := hF2 x hx; (try simp at this); omega
          have HSET := Lib.hid hset
          have HBSET := Lib.hid hbset
          have HFR := Lib.hid hfr
          have HO2 := Lib.hid ho2
          have HN2 := Lib.hid hn2
          have HBW := Lib.hid hbw
          have HLT2 : Hid (∀ x, x ∈ F2 → x < w2.heap.size) := Lib.hid (Ow.lt _ _ _ ho2)
          clear hset hbset hfr ho2 hn2 hbw hb2 hl2 hF2 hoi hFe hgF hcp
          have hl : Lst 78 2 ((w2.setCell ⟨g, o + (nthO os pc.toNat).reg.toNat, none⟩ (.int .i64 (nth regs (nthO os pc.toNat).reg.toNat - 1))).alloc (.cells #[.int .i64 (nthO os pc.toNat).to, .slice (some ⟨g, o, none⟩) regs.length c2] 78)) w.heap.size (.slice (some ⟨(w2.setCell ⟨g, o + (nthO os pc.toNat).reg.toNat, none⟩ (.int .i64 (nth regs (nthO os pc.toNat).reg.toNat - 1))).heap.size, 0, none⟩) 1 1) 1 [.i (nthO os pc.toNat).to, dI (regs.set (nthO os pc.toNat).reg.toNat (nth regs (nthO os pc.toNat).reg.toNat - 1))] ((w2.setCell ⟨g, o + (nthO os pc.toNat).reg.toNat, none⟩ (.int .i64 (nth regs (nthO os pc.toNat).reg.toNat - 1))).heap.size :: F2) := Lst.cfg1 (HSET.out _) HN2.out HFR.out (HBSET.out (nth regs (nthO os pc.toNat).reg.toNat - 1)).size _
          have HR := Lib.hid (RetDB.ofLst (cs := [⟨(nthO os pc.toNat).to, regs.set (nthO os pc.toNat).reg.toNat (nth regs (nthO os pc.toNat).reg.toNat - 1)⟩]) true hl (by simp [Cfg.ds]) ((HBSET.out (nth regs (nthO os pc.toNat).reg.toNat - 1)).alloc (HBSET.out (nth regs (nthO os pc.toNat).reg.toNat - 1)).size _))
          clear hl
          go_wp2
          go_ret2
          first | exact HR.out | (have := HR.out; simpa using this)
      · have er : nextO (nthO os pc.toNat) regs = ([⟨(nthO os pc.toNat).els, regs⟩], 0) := by simp [nextO, e2, ev0]
        have b0 : (nth regs (nthO os pc.toNat).reg.toNat == 0) = true := by rw [beq_iff_eq]; omega
        rw [ev, er]
        clear ev er e2 ev0
        go_enter Try.func143, Try.ntmps143
        go_wp2_with fail
        refine HH.out.mono ?_
        rintro e w1 ⟨rfl, rfl⟩
        go_wp2
        go_region
        all_goals
          go_wp2_with fail
          refine (l00OwnN_c Any a c regs _ (HX.out.below HBO.out) (by omega)).mono ?_
          rintro e w2 ⟨v2, rfl, hb2, hl2⟩
          obtain ⟨a2, c2, F2, rfl, ho2, hn2, hF2⟩ := hl2.ow (by unfold maxLen; omega)
          obtain ⟨_, _, ea, hcp, hoi⟩ := Ow_I.1 ho2
          cases ea
          obtain ⟨⟨g, o, rfl⟩, hFe⟩ := hoi.blk (by omega)
          have hgF : g ∈ F2 := by rw [hFe]; simp [blk]
          have hg1 : g < w2.heap.size := Ow.lt _ _ _ ho2 g hgF
          have hg2 : w.heap.size < g := by have := hF2 g hgF; (try simp at this); omega
          have hu2 : w.heap.size < w2.heap.size := by omega
          have n1 : ¬ w.heap.size = g := by omega
          have n2 : ¬ g = w.heap.size := by omega
          have r0 : w2.cell? ⟨w.heap.size, 0, none⟩ = some (.int .i64 (nthO os pc.toNat).op) := by rw [bcell1 hb2 (by simp)]; simp [go_sem]
          have r1 : w2.cell? ⟨w.heap.size, 1, none⟩ = some (.int .i64 (nthO os pc.toNat).reg) := by rw [bcell1 hb2 (by simp)]; simp [go_sem]
          have r2 : w2.cell? ⟨w.heap.size, 2, none⟩ = some (.int .i64 (nthO os pc.toNat).to) := by rw [bcell1 hb2 (by simp)]; simp [go_sem]
          have r3 : w2.cell? ⟨w.heap.size, 3, none⟩ = some (.int .i64 (nthO os pc.toNat).els) := by rw [bcell1 hb2 (by simp)]; simp [go_sem]
          have i1 := fun w' => ix_of (P := Try.prog) tabI.under tabI.size (a := some ⟨g, o, none⟩) (n := regs.length) (fun _ => ⟨g, o, rfl⟩) c2 (nthO os pc.toNat).reg w' hrg.1 hrg.2
          simp only [Nat.mul_one, adr, blk, ofs] at i1
          have f0 : w2.cell? ⟨g, o + (nthO os pc.toNat).reg.toNat, none⟩ = some (.int .i64 (nth regs (nthO os pc.toNat).reg.toNat)) := hoi.cell (nthO os pc.toNat).reg.toNat (by omega)
          have z0 : w2.frozen? ⟨g, o + (nthO os pc.toNat).reg.toNat, none⟩ = false := hoi.free (nthO os pc.toNat).reg.toNat (by omega)
          have hbw : Below w.heap.size w w2 := HBO.out.trans (hb2.mono (by simp <;> omega))
          have hset : ∀ x, Ow (w2.setCell ⟨g, o + (nthO os pc.toNat).reg.toNat, none⟩ (.int .i64 x)) (dI (regs.set (nthO os pc.toNat).reg.toNat x)) (.slice (some ⟨g, o, none⟩) regs.length c2) F2 := fun x => Ow_I.2 ⟨_, c2, by simp, by simpa using hcp, hoi.set (by omega) x⟩
          have hbset : ∀ x, Below w.heap.size w (w2.setCell ⟨g, o + (nthO os pc.toNat).reg.toNat, none⟩ (.int .i64 x)) := fun x => hbw.setCell (show w.heap.size ≤ g by omega) _
          have hfr : ∀ x, x ∈ F2 → w.heap.size ≤ x := fun x hx => by have := hF2 x hx; (try simp at this); omega
          have HSET := Lib.hid hset
          have HBSET := Lib.hid hbset
          have HFR := Lib.hid hfr
          have HO2 := Lib.hid ho2
          have HN2 := Lib.hid hn2
          have HBW := Lib.hid hbw
          have HLT2 : Hid (∀ x, x ∈ F2 → x < w2.heap.size) := Lib.hid (Ow.lt _ _ _ ho2)
          clear hset hbset hfr ho2 hn2 hbw hb2 hl2 hF2 hoi hFe hgF hcp
          have hl : Lst 78 2 (w2.alloc (.cells #[.int .i64 (nthO os pc.toNat).els, .slice (some ⟨g, o, none⟩) regs.length c2] 78)) w.heap.size (.slice (some ⟨w2.heap.size, 0, none⟩) 1 1) 1 [.i (nthO os pc.toNat).els, dI (regs)] (w2.heap.size :: F2) := Lst.cfg1 (HO2.out) HN2.out HFR.out (HBW.out).size _
          have HR := Lib.hid (RetDB.ofLst (cs := [⟨(nthO os pc.toNat).els, regs⟩]) true hl (by simp [Cfg.ds]) ((HBW.out).alloc (HBW.out).size _))
          clear hl
          go_wp2
          go_ret2
          first | exact HR.out | (have := HR.out; simpa using this)
    · have b2 : ((nthO os pc.toNat).op == 2) = false := by simp [e2]
      by_cases ev0 : nth regs (nthO os pc.toNat).reg.toNat = 1000
      · have er : nextO (nthO os pc.toNat) regs = ([], 3) := by simp [nextO, e2, ev0]
        have b3 : (nth regs (nthO os pc.toNat).reg.toNat == 1000) = true := by simp [ev0]
        rw [ev, er]
        clear ev er e2 ev0
        go_enter Try.func143, Try.ntmps143
        go_wp2_with fail
        refine HH.out.mono ?_
        rintro e w1 ⟨rfl, rfl⟩
        go_wp2
        go_region
        all_goals
          go_wp2_with fail
          refine (l00OwnN_c Any a c regs _ (HX.out.below HBO.out) (by omega)).mono ?_
          rintro e w2 ⟨v2, rfl, hb2, hl2⟩
          obtain ⟨a2, c2, F2, rfl, ho2, hn2, hF2⟩ := hl2.ow (by unfold maxLen; omega)
          obtain ⟨_, _, ea, hcp, hoi⟩ := Ow_I.1 ho2
          cases ea
          obtain ⟨⟨g, o, rfl⟩, hFe⟩ := hoi.blk (by omega)
          have hgF : g ∈ F2 := by rw [hFe]; simp [blk]
          have hg1 : g < w2.heap.size := Ow.lt _ _ _ ho2 g hgF
          have hg2 : w.heap.size < g := by have := hF2 g hgF; (try simp at this); omega
          have hu2 : w.heap.size < w2.heap.size := by omega
          have n1 : ¬ w.heap.size = g := by omega
          have n2 : ¬ g = w.heap.size := by omega
          have r0 : w2.cell? ⟨w.heap.size, 0, none⟩ = some (.int .i64 (nthO os pc.toNat).op) := by rw [bcell1 hb2 (by simp)]; simp [go_sem]
          have r1 : w2.cell? ⟨w.heap.size, 1, none⟩ = some (.int .i64 (nthO os pc.toNat).reg) := by rw [bcell1 hb2 (by simp)]; simp [go_sem]
          have r2 : w2.cell? ⟨w.heap.size, 2, none⟩ = some (.int .i64 (nthO os pc.toNat).to) := by rw [bcell1 hb2 (by simp)]; simp [go_sem]
          have r3 : w2.cell? ⟨w.heap.size, 3, none⟩ = some (.int .i64 (nthO os pc.toNat).els) := by rw [bcell1 hb2 (by simp)]; simp [go_sem]
          have i1 := fun w' => ix_of (P := Try.prog) tabI.under tabI.size (a := some ⟨g, o, none⟩) (n := regs.length) (fun _ => ⟨g, o, rfl⟩) c2 (nthO os pc.toNat).reg w' hrg.1 hrg.2
          simp only [Nat.mul_one, adr, blk, ofs] at i1
          have f0 : w2.cell? ⟨g, o + (nthO os pc.toNat).reg.toNat, none⟩ = some (.int .i64 (nth regs (nthO os pc.toNat).reg.toNat)) := hoi.cell (nthO os pc.toNat).reg.toNat (by omega)
          have z0 : w2.frozen? ⟨g, o + (nthO os pc.toNat).reg.toNat, none⟩ = false := hoi.free (nthO os pc.toNat).reg.toNat (by omega)
          have hbw : Below w.heap.size w w2 := HBO.out.trans (hb2.mono (by simp <;> omega))
          have hset : ∀ x, Ow (w2.setCell ⟨g, o + (nthO os pc.toNat).reg.toNat, none⟩ (.int .i64 x)) (dI (regs.set (nthO os pc.toNat).reg.toNat x)) (.slice (some ⟨g, o, none⟩) regs.length c2) F2 := fun x => Ow_I.2 ⟨_, c2, by simp, by simpa using hcp, hoi.set (by omega) x⟩
          have hbset : ∀ x, Below w.heap.size w (w2.setCell ⟨g, o + (nthO os pc.toNat).reg.toNat, none⟩ (.int .i64 x)) := fun x => hbw.setCell (show w.heap.size ≤ g by omega) _
          have hfr : ∀ x, x ∈ F2 → w.heap.size ≤ x := fun x hx => by have := hF2 x hx; (try simp at this); omega
          have HSET := Lib.hid hset
          have HBSET := Lib.hid hbset
          have HFR := Lib.hid hfr
          have HO2 := Lib.hid ho2
          have HN2 := Lib.hid hn2
          have HBW := Lib.hid hbw
          have HLT2 : Hid (∀ x, x ∈ F2 → x < w2.heap.size) := Lib.hid (Ow.lt _ _ _ ho2)
          clear hset hbset hfr ho2 hn2 hbw hb2 hl2 hF2 hoi hFe hgF hcp
          go_wp2
          go_ret2
          exact RetDB.none _ _ _ (HBW.out.alloc HBW.out.size _)
      · have b3 : (nth regs (nthO os pc.toNat).reg.toNat == 1000) = false := by simp [ev0]
        by_cases et : (nthO os pc.toNat).els = (nthO os pc.toNat).to
        · have er : nextO (nthO os pc.toNat) regs = ([⟨(nthO os pc.toNat).to, regs.set (nthO os pc.toNat).reg.toNat (nth regs (nthO os pc.toNat).reg.toNat + 1)⟩], 0) := by simp [nextO, e2, ev0, et]
          have b4 : ((nthO os pc.toNat).els != (nthO os pc.toNat).to) = false := by simp [et]
          rw [ev, er]
          clear ev er e2 ev0 et
          go_enter Try.func143, Try.ntmps143
          go_wp2_with fail
          refine HH.out.mono ?_
          rintro e w1 ⟨rfl, rfl⟩
          go_wp2
          go_region
          all_goals
            go_wp2_with fail
            refine (l00OwnN_c Any a c regs _ (HX.out.below HBO.out) (by omega)).mono ?_
            rintro e w2 ⟨v2, rfl, hb2, hl2⟩
            obtain ⟨a2, c2, F2, rfl, ho2, hn2, hF2⟩ := hl2.ow (by unfold maxLen; omega)
            obtain ⟨_, _, ea, hcp, hoi⟩ := Ow_I.1 ho2
            cases ea
            obtain ⟨⟨g, o, rfl⟩, hFe⟩ := hoi.blk (by omega)
            have hgF : g ∈ F2 := by rw [hFe]; simp [blk]
            have hg1 : g < w2.heap.size := Ow.lt _ _ _ ho2 g hgF
            have hg2 : w.heap.size < g := by have := hF2 g hgF; (try simp at this); omega
            have hu2 : w.heap.size < w2.heap.size := by omega
            have n1 : ¬ w.heap.size = g := by omega
            have n2 : ¬ g = w.heap.size := by omega
            have r0 : w2.cell? ⟨w.heap.size, 0, none⟩ = some (.int .i64 (nthO os pc.toNat).op) := by rw [bcell1 hb2 (by simp)]; simp [go_sem]
            have r1 : w2.cell? ⟨w.heap.size, 1, none⟩ = some (.int .i64 (nthO os pc.toNat).reg) := by rw [bcell1 hb2 (by simp)]; simp [go_sem]
            have r2 : w2.cell? ⟨w.heap.size, 2, none⟩ = some (.int .i64 (nthO os pc.toNat).to) := by rw [bcell1 hb2 (by simp)]; simp [go_sem]
            have r3 : w2.cell? ⟨w.heap.size, 3, none⟩ = some (.int .i64 (nthO os pc.toNat).els) := by rw [bcell1 hb2 (by simp)]; simp [go_sem]
            have i1 := fun w' => ix_of (P := Try.prog) tabI.under tabI.size (a := some ⟨g, o, none⟩) (n := regs.length) (fun _ => ⟨g, o, rfl⟩) c2 (nthO os pc.toNat).reg w' hrg.1 hrg.2
            simp only [Nat.mul_one, adr, blk, ofs] at i1
            have f0 : w2.cell? ⟨g, o + (nthO os pc.toNat).reg.toNat, none⟩ = some (.int .i64 (nth regs (nthO os pc.toNat).reg.toNat)) := hoi.cell (nthO os pc.toNat).reg.toNat (by omega)
            have z0 : w2.frozen? ⟨g, o + (nthO os pc.toNat).reg.toNat, none⟩ = false := hoi.free (nthO os pc.toNat).reg.toNat (by omega)
            have hbw : Below w.heap.size w w2 := HBO.out.trans (hb2.mono (by simp <;> omega))
            have hset : ∀ x, Ow (w2.setCell ⟨g, o + (nthO os pc.toNat).reg.toNat, none⟩ (.int .i64 x)) (dI (regs.set (nthO os pc.toNat).reg.toNat x)) (.slice (some ⟨g, o, none⟩) regs.length c2) F2 := fun x => Ow_I.2 ⟨_, c2, by simp, by simpa using hcp, hoi.set (by omega) x⟩
            have hbset : ∀ x, Below w.heap.size w (w2.setCell ⟨g, o + (nthO os pc.toNat).reg.toNat, none⟩ (.int .i64 x)) := fun x => hbw.setCell (show w.heap.size ≤ g by omega) _
            have hfr : ∀ x, x ∈ F2 → w.heap.size ≤ x := fun x hx => by have := hF2 x hx; (try simp at this); omega
            have HSET := Lib.hid hset
            have HBSET := Lib.hid hbset
            have HFR := Lib.hid hfr
            have HO2 := Lib.hid ho2
            have HN2 := Lib.hid hn2
            have HBW := Lib.hid hbw
            have HLT2 : Hid (∀ x, x ∈ F2 → x < w2.heap.size) := Lib.hid (Ow.lt _ _ _ ho2)
            clear hset hbset hfr ho2 hn2 hbw hb2 hl2 hF2 hoi hFe hgF hcp
            have hl : Lst 78 2 ((w2.setCell ⟨g, o + (nthO os pc.toNat).reg.toNat, none⟩ (.int .i64 (nth regs (nthO os pc.toNat).reg.toNat + 1))).alloc (.cells #[.int .i64 (nthO os pc.toNat).to, .slice (some ⟨g, o, none⟩) regs.length c2] 78)) w.heap.size (.slice (some ⟨(w2.setCell ⟨g, o + (nthO os pc.toNat).reg.toNat, none⟩ (.int .i64 (nth regs (nthO os pc.toNat).reg.toNat + 1))).heap.size, 0, none⟩) 1 1) 1 [.i (nthO os pc.toNat).to, dI (regs.set (nthO os pc.toNat).reg.toNat (nth regs (nthO os pc.toNat).reg.toNat + 1))] ((w2.setCell ⟨g, o + (nthO os pc.toNat).reg.toNat, none⟩ (.int .i64 (nth regs (nthO os pc.toNat).reg.toNat + 1))).heap.size :: F2) := Lst.cfg1 (HSET.out _) HN2.out HFR.out (HBSET.out (nth regs (nthO os pc.toNat).reg.toNat + 1)).size _
            have HR := Lib.hid (RetDB.ofLst (cs := [⟨(nthO os pc.toNat).to, regs.set (nthO os pc.toNat).reg.toNat (nth regs (nthO os pc.toNat).reg.toNat + 1)⟩]) true hl (by simp [Cfg.ds]) ((HBSET.out (nth regs (nthO os pc.toNat).reg.toNat + 1)).alloc (HBSET.out (nth regs (nthO os pc.toNat).reg.toNat + 1)).size _))
            clear hl
            go_wp2
            go_ret2
            first | exact HR.out | (have := HR.out; simpa using this)
        · have er : nextO (nthO os pc.toNat) regs = ([⟨(nthO os pc.toNat).to, regs.set (nthO os pc.toNat).reg.toNat (nth regs (nthO os pc.toNat).reg.toNat + 1)⟩, ⟨(nthO os pc.toNat).els, regs.set (nthO os pc.toNat).reg.toNat (nth regs (nthO os pc.toNat).reg.toNat + 1)⟩], 0) := by simp [nextO, e2, ev0, et]
          have b4 : ((nthO os pc.toNat).els != (nthO os pc.toNat).to) = true := by simp [et]
          rw [ev, er]
          clear ev er e2 ev0 et
          have hrun := callFunc_run Try.func148 (by kernel_rfl) rfl
          go_enter Try.func143, Try.ntmps143
          go_wp2_with fail
          refine HH.out.mono ?_
          rintro e w1 ⟨rfl, rfl⟩
          go_wp2
          go_region
          all_goals
            go_wp2_with fail
            refine (l00OwnN_c Any a c regs _ (HX.out.below HBO.out) (by omega)).mono ?_
            rintro e w2 ⟨v2, rfl, hb2, hl2⟩
            obtain ⟨a2, c2, F2, rfl, ho2, hn2, hF2⟩ := hl2.ow (by unfold maxLen; omega)
            obtain ⟨_, _, ea, hcp, hoi⟩ := Ow_I.1 ho2
            cases ea
            obtain ⟨⟨g, o, rfl⟩, hFe⟩ := hoi.blk (by omega)
            have hgF : g ∈ F2 := by rw [hFe]; simp [blk]
            have hg1 : g < w2.heap.size := Ow.lt _ _ _ ho2 g hgF
            have hg2 : w.heap.size < g := by have := hF2 g hgF; (try simp at this); omega
            have hu2 : w.heap.size < w2.heap.size := by omega
            have n1 : ¬ w.heap.size = g := by omega
            have n2 : ¬ g = w.heap.size := by omega
            have r0 : w2.cell? ⟨w.heap.size, 0, none⟩ = some (.int .i64 (nthO os pc.toNat).op) := by rw [bcell1 hb2 (by simp)]; simp [go_sem]
            have r1 : w2.cell? ⟨w.heap.size, 1, none⟩ = some (.int .i64 (nthO os pc.toNat).reg) := by rw [bcell1 hb2 (by simp)]; simp [go_sem]
            have r2 : w2.cell? ⟨w.heap.size, 2, none⟩ = some (.int .i64 (nthO os pc.toNat).to) := by rw [bcell1 hb2 (by simp)]; simp [go_sem]
            have r3 : w2.cell? ⟨w.heap.size, 3, none⟩ = some (.int .i64 (nthO os pc.toNat).els) := by rw [bcell1 hb2 (by simp)]; simp [go_sem]
            have i1 := fun w' => ix_of (P := Try.prog) tabI.under tabI.size (a := some ⟨g, o, none⟩) (n := regs.length) (fun _ => ⟨g, o, rfl⟩) c2 (nthO os pc.toNat).reg w' hrg.1 hrg.2
            simp only [Nat.mul_one, adr, blk, ofs] at i1
            have f0 : w2.cell? ⟨g, o + (nthO os pc.toNat).reg.toNat, none⟩ = some (.int .i64 (nth regs (nthO os pc.toNat).reg.toNat)) := hoi.cell (nthO os pc.toNat).reg.toNat (by omega)
            have z0 : w2.frozen? ⟨g, o + (nthO os pc.toNat).reg.toNat, none⟩ = false := hoi.free (nthO os pc.toNat).reg.toNat (by omega)
            have hbw : Below w.heap.size w w2 := HBO.out.trans (hb2.mono (by simp <;> omega))
            have hset : ∀ x, Ow (w2.setCell ⟨g, o + (nthO os pc.toNat).reg.toNat, none⟩ (.int .i64 x)) (dI (regs.set (nthO os pc.toNat).reg.toNat x)) (.slice (some ⟨g, o, none⟩) regs.length c2) F2 := fun x => Ow_I.2 ⟨_, c2, by simp, by simpa using hcp, hoi.set (by omega) x⟩
            have hbset : ∀ x, Below w.heap.size w (w2.setCell ⟨g, o + (nthO os pc.toNat).reg.toNat, none⟩ (.int .i64 x)) := fun x => hbw.setCell (show w.heap.size ≤ g by omega) _
            have hfr : ∀ x, x ∈ F2 → w.heap.size ≤ x := fun x hx => by have := hF2 x hx; (try simp at this); omega
            have HSET := Lib.hid hset
            have HBSET := Lib.hid hbset
            have HFR := Lib.hid hfr
            have HO2 := Lib.hid ho2
            have HN2 := Lib.hid hn2
            have HBW := Lib.hid hbw
            have HLT2 : Hid (∀ x, x ∈ F2 → x < w2.heap.size) := Lib.hid (Ow.lt _ _ _ ho2)
            clear hset hbset hfr ho2 hn2 hbw hb2 hl2 hF2 hoi hFe hgF hcp
            have hl : Lst 78 2 ((w2.setCell ⟨g, o + (nthO os pc.toNat).reg.toNat, none⟩ (.int .i64 (nth regs (nthO os pc.toNat).reg.toNat + 1))).alloc (.cells #[.int .i64 (nthO os pc.toNat).to, .slice (some ⟨g, o, none⟩) regs.length c2] 78)) w.heap.size (.slice (some ⟨(w2.setCell ⟨g, o + (nthO os pc.toNat).reg.toNat, none⟩ (.int .i64 (nth regs (nthO os pc.toNat).reg.toNat + 1))).heap.size, 0, none⟩) 1 1) 1 [.i (nthO os pc.toNat).to, dI (regs.set (nthO os pc.toNat).reg.toNat (nth regs (nthO os pc.toNat).reg.toNat + 1))] ((w2.setCell ⟨g, o + (nthO os pc.toNat).reg.toNat, none⟩ (.int .i64 (nth regs (nthO os pc.toNat).reg.toNat + 1))).heap.size :: F2) := Lst.cfg1 (HSET.out _) HN2.out HFR.out (HBSET.out (nth regs (nthO os pc.toNat).reg.toNat + 1)).size _
            have hsz : (w2.setCell ⟨g, o + (nthO os pc.toNat).reg.toNat, none⟩ (.int .i64 (nth regs (nthO os pc.toNat).reg.toNat + 1))).heap.size = w2.heap.size := (Exc.setCell w2 ⟨g, o + (nthO os pc.toNat).reg.toNat, none⟩ _).size
            have hsl : SlI Any (w2.setCell ⟨g, o + (nthO os pc.toNat).reg.toNat, none⟩ (.int .i64 (nth regs (nthO os pc.toNat).reg.toNat + 1))) (some ⟨g, o, none⟩) (regs.set (nthO os pc.toNat).reg.toNat (nth regs (nthO os pc.toNat).reg.toNat + 1)) := (HSET.out (nth regs (nthO os pc.toNat).reg.toNat + 1)).arg
            have HOW : Hid (∀ wx, Below (w2.setCell ⟨g, o + (nthO os pc.toNat).reg.toNat, none⟩ (.int .i64 (nth regs (nthO os pc.toNat).reg.toNat + 1))).heap.size (w2.setCell ⟨g, o + (nthO os pc.toNat).reg.toNat, none⟩ (.int .i64 (nth regs (nthO os pc.toNat).reg.toNat + 1))) wx → Calls Try.prog 148 #[.slice (some ⟨g, o, none⟩) regs.length c2] wx (RetD wx (dI (regs.set (nthO os pc.toNat).reg.toNat (nth regs (nthO os pc.toNat).reg.toNat + 1))))) := Lib.hid (fun wx h => by
              have := Calls.mono (l00OwnN_c Any (some ⟨g, o, none⟩) c2 (regs.set (nthO os pc.toNat).reg.toNat (nth regs (nthO os pc.toNat).reg.toNat + 1)) wx (hsl.below h) (by simp; omega)) (fun e w' h => show RetD wx (dI (regs.set (nthO os pc.toNat).reg.toNat (nth regs (nthO os pc.toNat).reg.toNat + 1))) e w' from h.d (by simp; unfold maxLen; omega))
              simpa using this)
            have hr3 : ((w2.setCell ⟨g, o + (nthO os pc.toNat).reg.toNat, none⟩ (.int .i64 (nth regs (nthO os pc.toNat).reg.toNat + 1))).alloc (.cells #[.int .i64 (nthO os pc.toNat).to, .slice (some ⟨g, o, none⟩) regs.length c2] 78)).cell? ⟨w.heap.size, 3, none⟩ = some (.int .i64 (nthO os pc.toNat).els) := by
              rw [bcell1 (below_alloc _ _) (by rw [hsz]; exact hu2), World.cell?_setCell_other _ _ _ _ (by intro e; simp at e <;> omega)]; exact r3
            have hba : Below w.heap.size w ((w2.setCell ⟨g, o + (nthO os pc.toNat).reg.toNat, none⟩ (.int .i64 (nth regs (nthO os pc.toNat).reg.toNat + 1))).alloc (.cells #[.int .i64 (nthO os pc.toNat).to, .slice (some ⟨g, o, none⟩) regs.length c2] 78)) := (HBSET.out (nth regs (nthO os pc.toNat).reg.toNat + 1)).alloc (HBSET.out (nth regs (nthO os pc.toNat).reg.toNat + 1)).size _
            rw [hsz] at hl
            have hlt := hl.lt
            have HL := Lib.hid hl
            have HLT := Lib.hid hlt
            have HBA := Lib.hid hba
            have HSZ := Lib.hid hsz
            clear hl hsl hlt hba hsz
            go_wp2
            go_region_law (first
              | (refine step_callD rfl 148 #[.tmp 84] _ rfl hrun #[.slice (some ⟨g, o, none⟩) regs.length c2] (by first | rfl | (simp [Act.eval]; done) | (simp [Act.eval]; rfl)) (dI (regs.set (nthO os pc.toNat).reg.toNat (nth regs (nthO os pc.toNat).reg.toNat + 1))) (HOW.out _ (below_alloc _ _).drew) ?_; intro v5 F5 w5 hb5 ho5 hn5 hf5; obtain ⟨a5, c5, rfl⟩ := (show ∃ a c, v5 = .slice a regs.length c from by obtain ⟨a, c, e⟩ := ho5.val; exact ⟨a, c, by simpa using e⟩); have r5 := (bcell1 (b := w.heap.size) (i := 3) hb5 (by simp; omega)).trans hr3)
              | (refine step_lst rfl (.tmp 81) (.tmp 87) 81 rfl tabConfigSM rfl (by omega) (by decide) w.heap.size _ 1 _ [.i (nthO os pc.toNat).els, dI (regs.set (nthO os pc.toNat).reg.toNat (nth regs (nthO os pc.toNat).reg.toNat + 1))] _ F5 [.int .i64 (nthO os pc.toNat).els, .slice a5 regs.length c5] rfl ((HL.out.below ((Below.refl _ _).drew.trans hb5)).below (below_alloc _ _)) w5.heap.size rfl ⟨⟨[], F5, ⟨rfl, rfl⟩, ⟨F5, [], ho5.below (below_alloc _ _), rfl, by simp⟩, by simp⟩, rfl, hn5, fun x hx => by have h1 := hf5 x hx; have h2 := HBA.out.size; exact Nat.le_trans h2 h1, fun x hx hg => by have h1 : ((w2.setCell ⟨g, o + (nthO os pc.toNat).reg.toNat, none⟩ (.int .i64 (nth regs (nthO os pc.toNat).reg.toNat + 1))).alloc (.cells #[.int .i64 (nthO os pc.toNat).to, .slice (some ⟨g, o, none⟩) regs.length c2] 78)).heap.size ≤ x := hf5 x hx; have h2 := (HLT.out x hg).2; omega, (fun j u hu => by match j, hu with | 0, hu => (simp at hu; subst hu; simp) | 1, hu => (simp at hu; subst hu; simp)), by simp [Value.oneCell']⟩ (by omega) (by have h1 := HBA.out.size; have h2 : ((w2.setCell ⟨g, o + (nthO os pc.toNat).reg.toNat, none⟩ (.int .i64 (nth regs (nthO os pc.toNat).reg.toNat + 1))).alloc (.cells #[.int .i64 (nthO os pc.toNat).to, .slice (some ⟨g, o, none⟩) regs.length c2] 78)).heap.size ≤ w5.heap.size := hb5.size; simp only [World.size_alloc] at h1 h2 ⊢; omega) ?_; intro v7 w7 G7 hN))
            all_goals
              have hb5' : Below w.heap.size w w5 := HBA.out.trans (((Below.refl _ _).drew.trans hb5).mono HBA.out.size)
              have hb7 : Below w.heap.size w w7 := (hb5'.alloc hb5'.size _).trans (hN.chg.below (by have := hb5'.size; simp; omega) (fun x hx => (HLT.out x (ob_sub HL.out x hx)).1))
              obtain ⟨_, a7, c7, rfl⟩ := hN.lst.val
              have HR := Lib.hid (RetDB.ofLst (cs := [⟨(nthO os pc.toNat).to, regs.set (nthO os pc.toNat).reg.toNat (nth regs (nthO os pc.toNat).reg.toNat + 1)⟩, ⟨(nthO os pc.toNat).els, regs.set (nthO os pc.toNat).reg.toNat (nth regs (nthO os pc.toNat).reg.toNat + 1)⟩]) true hN.lst (by simp [Cfg.ds]) hb7)
              clear hN hb7 hb5' hb5 ho5 hn5 hf5
              go_wp2
              go_ret2
              first | exact HR.out | (have := HR.out; simpa using this)
end Go.Proofs.Ytdcpdipakglnnaa
