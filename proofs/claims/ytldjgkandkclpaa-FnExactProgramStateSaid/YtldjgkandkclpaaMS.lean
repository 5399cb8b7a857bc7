/- States of programs: the program's state. -/
import Derived.Test.YtldjgkandkclpaaMI
import Derived.Laws.CopyOwn
namespace Go.Proofs.Ytldjgkandkclpaa
open Go.RowKit

/-- 'copy' into a list of one's own. -/
theorem copy_run {P : Program} {w : World} (T ty : TypeId) {E bytes : Nat} {z : Value} (tab : Tab P T E z 1 bytes) {B g n c : Nat} {vs : List Value} (hbl : Bld E w B (.slice (some ⟨g, 0, none⟩) n c) vs) (hvn : vs.length = n)
    (ad : Addr) (m sc : Nat) (cs : List Value) (hcs : cs.length = m) (hm : m ≤ n) (hsrc : ∀ j u, cs[j]? = some u → w.cell? (ad.add j) = some u) (h1 : ∀ u ∈ cs, u.oneCell' = true) :
    ∃ w', (Builtin.copy_ #[T, T] ty #[.slice (some ⟨g, 0, none⟩) n c, .slice (some ad) m sc]).run P w = .ok (goInt m) w' ∧ Bld E w' B (.slice (some ⟨g, 0, none⟩) n c) (cs ++ vs.drop m) ∧ Below B w w' := by
  subst hvn
  obtain ⟨h0, h2⟩ := hbl
  rcases h2 with ⟨h3, _⟩ | ⟨g', cap, cur, h3, hB, hg, hn, hcap, hsz, htake⟩
  · cases h3
  · cases h3
    have hmin : Nat.min m vs.length = m := Nat.min_eq_left hm
    have hdl : (cs ++ vs.drop m).length = vs.length := by simp [hcs]; omega
    have hrun := run_copy_row (P := P) w T T ty E g 0 vs.length c ad m sc cur E cs tab.under tab.size hg (by rw [hcs]; exact hmin.symm) hsrc (by omega) h1
    rw [hcs] at hrun
    refine ⟨_, hrun, ?_, below_setRow (Below.refl _ _) hB _⟩
    unfold Bld
    rw [hdl]
    refine ⟨by simp; omega, .inr ⟨g, c, _, rfl, hB, setRow_heap w g cur _ E (0, 0) hg, hn, hcap, by simp; omega, ?_⟩⟩
    simp only [List.take_zero, List.nil_append, Nat.zero_add]
    rw [Nat.mul_one, List.take_append]
    have e1 : cs.take vs.length = cs := List.take_of_length_le (by omega)
    rw [e1, hcs]
    have e2 : (cur.toList.drop m).take (vs.length - m) = (cur.toList.take vs.length).drop m := by rw [List.drop_take]
    rw [e2]
    rw [Nat.mul_one] at htake
    rw [htake]
/-- The bag of a config. -/
def stateBag (K R : Nat) (pc : Int) (regs : List Int) : List Int := (regs ++ List.replicate (K - regs.length) 0).set (R + pc.toNat) 1
abbrev Sta := List Bool × List (List Int) × List Int
def zSta : Sta := ([], [], [])
def progStateS (R : Int) (os : List Ord) (mode pc : Int) (regs : List Int) : Sta × Int :=
  if modeCodeS R os mode (confOk R os.length pc regs) = 0 then (([true], [stateBag (kindsN R.toNat os mode) R.toNat pc regs], List.replicate (kindsN R.toNat os mode) 0), 0) else (zSta, modeCodeS R os mode (confOk R os.length pc regs))
theorem confOk_ok {R : Nat} {n : Nat} {pc : Int} {regs : List Int} (h : confOk R n pc regs = true) : 0 ≤ pc ∧ pc ≤ n ∧ regs.length = R := by
  simp only [confOk, Bool.and_eq_true, inRg, decide_eq_true_eq, regsOk, beq_iff_eq] at h
  exact ⟨h.1.1, h.1.2, by omega⟩
/-- A state of one cell, in memory of its own. -/
theorem RetA.sta {B : Nat} {w5 : World} {b1 b2 g b3 K : Nat} {bag : List Int} {zs : List Int} (hb : Bld 2 w5 B (.slice (some ⟨g, 0, none⟩) K K) (bag.map (.int .i64))) (hz : Bld 2 w5 B (.slice (some ⟨b3, 0, none⟩) K K) (zs.map (.int .i64))) (hl : bag.length = K) (hlz : zs.length = K) (hK : 0 < K) (hK2 : K ≤ 17)
    (h1 : w5.cell? ⟨b1, 0, none⟩ = some (.bool true)) (f1 : w5.frozen? ⟨b1, 0, none⟩ = false) (h2 : w5.cell? ⟨b2, 0, none⟩ = some (.slice (some ⟨g, 0, none⟩) K K)) (f2 : w5.frozen? ⟨b2, 0, none⟩ = false) (hB1 : B ≤ b1) (hB2 : B ≤ b2) (n1 : g < b1) (n2 : b1 < b2) (n3 : b2 < b3) :
    ∃ F, OwA w5 [dB [true], dII [bag], dI zs] [.slice (some ⟨b1, 0, none⟩) 1 1, .slice (some ⟨b2, 0, none⟩) 1 1, .slice (some ⟨b3, 0, none⟩) K K] F ∧ F.Nodup ∧ ∀ x, x ∈ F → B ≤ x := by
  subst hl
  have o1 : Ow w5 (dB [true]) (.slice (some ⟨b1, 0, none⟩) 1 1) [b1] := ⟨_, 1, 1, rfl, rfl, by simp [maxLen], .inr ⟨b1, 0, [], rfl, ⟨by simp, Nat.le_refl _⟩, rfl, ⟨.bool true, [], [], by simpa using h1, by simpa using f1, ⟨rfl, rfl⟩, rfl, rfl⟩⟩⟩
  obtain ⟨a, c, Fg, e, og, ng, lg⟩ := Ow.ofBld hb (by unfold maxLen; omega)
  cases e
  obtain ⟨⟨_, _, e⟩, hFg⟩ := (Ow.own og).blk hK
  cases e
  simp only [blk] at hFg
  subst hFg
  obtain ⟨a3, c3, F3, e3, oz, nz, lz⟩ := Ow.ofBld hz (by unfold maxLen; omega)
  rw [hlz] at oz e3
  cases e3
  have hz0 : 0 < zs.length := by omega
  obtain ⟨_, oz'⟩ : ∃ cc, Ow w5 (dI zs) (.slice (some ⟨b3, 0, none⟩) zs.length cc) F3 := ⟨_, by rw [hlz]; exact oz⟩
  obtain ⟨⟨_, _, e⟩, hF3⟩ := (Ow.own oz').blk hz0
  cases e
  simp only [blk] at hF3
  subst hF3
  have o2 : Ow w5 (dII [bag]) (.slice (some ⟨b2, 0, none⟩) 1 1) (b2 :: [g]) := ⟨_, 1, 1, rfl, rfl, by simp [maxLen], .inr ⟨b2, 0, [g], rfl, ⟨by simp, Nat.le_refl _⟩, rfl, ⟨_, [g], [], by simpa using h2, by simpa using f2, og, rfl, rfl⟩⟩⟩
  refine ⟨[b1] ++ ((b2 :: [g]) ++ ([b3] ++ [])), ⟨_, _, o1, ⟨_, _, o2, ⟨_, _, oz, rfl, rfl⟩, rfl⟩, rfl⟩, ?_, fun x hx => ?_⟩
  · simp; omega
  · have := lg g (by simp)
    have := lz b3 (by simp)
    simp at hx; omega
set_option maxHeartbeats 1000000 in
set_option maxRecDepth 100000 in
theorem state_c (R : Nat) (ao : Option Addr) (co : Nat) (os : List Ord) (mode pc : Int) (a : Option Addr) (c : Nat) (regs : List Int) (w : World) (ho : SlO Any w ao os) (hc : os.length ≤ co) (hx : SlI Any w a regs) (hpg : PgOk R os) (hcf : confOk R os.length pc regs = true) :
    Calls Try.prog 118 #[.agg #[.int .i64 R, .slice ao os.length co], .int .i64 mode, .agg #[.int .i64 pc, .slice a regs.length c]] w (RetA w [dB [true], dII [stateBag (kindsN R os mode) R pc regs], dI (List.replicate (kindsN R os mode) 0)]) := by
  obtain ⟨hp0, hp1, hrl⟩ := confOk_ok hcf
  obtain ⟨n, rfl⟩ : ∃ n : Nat, pc = n := ⟨pc.toNat, by omega⟩
  obtain ⟨ad, rfl⟩ := hx.addr (by have := hpg.r1; omega)
  obtain ⟨hk1, hk2⟩ := kindsN_le hpg mode
  have h1 := hpg.r1
  have h3 := hpg.r3
  have h6 := hpg.n6
  have hb0 : Below w.heap.size w (((w.alloc (.cells #[.int .i64 R, .slice ao os.length co] 54)).alloc (.cells #[.int .i64 n, .slice (some ad) regs.length c] 86)).alloc (.cells #[.slice none 0 0, .slice none 0 0, .slice none 0 0] 56)) := (((Below.refl _ _).alloc (Nat.le_refl _) _).alloc (by simp) _).alloc (by simp; omega) _
  have HK := Lib.hid (kinds_c R ao co os mode _ (ho.below hb0) hc hpg)
  have HX := Lib.hid hx
  have HB0 := Lib.hid hb0
  have HL := Lib.hid (fun w => label_c R (.slice ao os.length co) n w (by omega) (by omega))
  obtain ⟨K, hK⟩ : ∃ K, K = kindsN R os mode := ⟨_, rfl⟩
  rw [← hK] at HK hk1 hk2 ⊢
  have HRL := Lib.hid hrl
  have hrl2 : regs.length ≤ 3 := by omega
  have hrl1 : 1 ≤ regs.length := by omega
  have hrlK : regs.length ≤ K := by omega
  have hidx : (0 : Int) ≤ (R : Int) + n ∧ (R : Int) + n < K := by omega
  have hidn : R + n < K := by omega
  clear hb0 ho hx hpg hcf hK hp0 hp1 hrl
  go_enter Try.func118, Try.ntmps118
  go_wp2_with fail
  refine HK.out.mono ?_
  rintro e w1 ⟨rfl, hb1⟩
  have bx0 : w1.cell? ⟨w.heap.size, 0, none⟩ = some (.int .i64 R) := by rw [bcell1 hb1 (by simp <;> omega)]; simp [go_sem]
  have bx1 : w1.cell? ⟨w.heap.size, 1, none⟩ = some (.slice ao os.length co) := by rw [bcell1 hb1 (by simp <;> omega)]; simp [go_sem]
  have cx0 : w1.cell? ⟨w.heap.size + 1, 0, none⟩ = some (.int .i64 n) := by rw [bcell1 hb1 (by simp <;> omega)]; simp [go_sem]
  have cx1 : w1.cell? ⟨w.heap.size + 1, 1, none⟩ = some (.slice (some ad) regs.length c) := by rw [bcell1 hb1 (by simp <;> omega)]; simp [go_sem]
  have rr0 : w1.cell? ⟨w.heap.size + 2, 0, none⟩ = some (.slice none 0 0) := by rw [bcell1 hb1 (by simp <;> omega)]; simp [go_sem]
  have rr1 : w1.cell? ⟨w.heap.size + 2, 1, none⟩ = some (.slice none 0 0) := by rw [bcell1 hb1 (by simp <;> omega)]; simp [go_sem]
  have rr2 : w1.cell? ⟨w.heap.size + 2, 2, none⟩ = some (.slice none 0 0) := by rw [bcell1 hb1 (by simp <;> omega)]; simp [go_sem]
  have rz0 : w1.frozen? ⟨w.heap.size + 2, 0, none⟩ = false := by rw [hb1.frozen (p := ⟨w.heap.size + 2, 0, none⟩) (by simp <;> omega)]; simp [go_sem]
  have rz1 : w1.frozen? ⟨w.heap.size + 2, 1, none⟩ = false := by rw [hb1.frozen (p := ⟨w.heap.size + 2, 1, none⟩) (by simp <;> omega)]; simp [go_sem]
  have rz2 : w1.frozen? ⟨w.heap.size + 2, 2, none⟩ = false := by rw [hb1.frozen (p := ⟨w.heap.size + 2, 2, none⟩) (by simp <;> omega)]; simp [go_sem]
  have hz1 : w.heap.size + 3 ≤ w1.heap.size := by have := hb1.size; simp at this; omega
  have HB1 := Lib.hid (HB0.out.trans (hb1.mono (by simp; omega)))
  clear hb1
  go_wp2_with (at_make; refine make_one rfl _ _ 22 rfl tabI rfl (by decide) K _ _ rfl rfl rfl rfl (by omega) w1.heap.size (Nat.le_refl _) ?_)
  intro w2 hbl2 hb2 hz2
  have HB2 := Lib.hid (bnext HB1.out hb2 (Nat.le_refl _))
  replace bx0 := (bcell1 hb2 (by omega)).trans bx0
  replace bx1 := (bcell1 hb2 (by omega)).trans bx1
  replace cx0 := (bcell1 hb2 (by omega)).trans cx0
  replace cx1 := (bcell1 hb2 (by omega)).trans cx1
  have HSB := Lib.hid hb2
  have hsrc : ∀ j u, (regs.map (Value.int .i64))[j]? = some u → w2.cell? (ad.add j) = some u := by
    have hx2 := HX.out.below HB2.out
    obtain ⟨_, gr, orr, e⟩ := hx2.ptr (by omega)
    cases e
    intro j u hu
    have hj : j < regs.length := by have := (List.getElem?_eq_some_iff.1 hu).1; simpa using this
    have := hx2.cell j hj
    rw [map_get_int hj] at hu
    cases hu
    rw [Addr.add_lit]
    simpa [adr, blk, ofs] using this
  have HBL2 := Lib.hid hbl2
  have HSRC := Lib.hid hsrc
  clear hb2 hbl2 hsrc
  obtain ⟨w3, hrun, hbl3, hb3⟩ := copy_run (P := Try.prog) 22 3 tabI HBL2.out (by simp) ad regs.length c (regs.map (.int .i64)) (by simp) hrlK HSRC.out (by intro u hu; obtain ⟨y, _, rfl⟩ := List.mem_map.1 hu; rfl)
  have hb3' : Below w2.heap.size w2 w3 ∨ True := .inr trivial
  have hz3 : w2.heap.size ≤ w3.heap.size := hb3.size
  have HBL3 : Hid (Bld 2 w3 w1.heap.size (.slice (some ⟨w1.heap.size, 0, none⟩) K K) ((regs ++ List.replicate (K - regs.length) 0).map (.int .i64))) := Lib.hid (by
    rw [List.map_append, List.map_replicate]
    rw [List.drop_replicate] at hbl3
    exact hbl3)
  replace bx0 := (bcell1 (B := w1.heap.size) hb3 (by omega)).trans bx0
  replace bx1 := (bcell1 (B := w1.heap.size) hb3 (by omega)).trans bx1
  replace cx0 := (bcell1 (B := w1.heap.size) hb3 (by omega)).trans cx0
  have HSB3 : Hid (Below w1.heap.size w1 w3) := Lib.hid (HSB.out.trans hb3)
  clear hb3 hbl3 HBL2 HSRC hb3'
  go_wp2_with fail
  refine (HL.out _).mono ?_
  rintro e w4 ⟨rfl, hb4⟩
  have hz4 : w3.heap.size ≤ w4.heap.size := hb4.size
  have HSB4 : Hid (Below w1.heap.size w1 w4) := Lib.hid (HSB3.out.trans (hb4.mono (by omega)))
  have HBL4 := Lib.hid (HBL3.out.below hb4)
  have gI := HBL4.out.cell (i := R + n) (v := .int .i64 (nth (regs ++ List.replicate (K - regs.length) 0) (R + n))) (map_get_int (by simp; omega))
  have gF := HBL4.out.free (R + n)
  clear hb4
  have i2 := ix_of (P := Try.prog) tabI.under tabI.size (a := some ⟨w1.heap.size, 0, none⟩) (n := K) (fun _ => ⟨w1.heap.size, 0, rfl⟩) K
  simp only [Nat.mul_one, adr, blk, ofs, Nat.zero_add] at i2
  have hi1 : ((R : Int) + n).toNat = R + n := by omega
  obtain ⟨hd0, hd1⟩ := hidx
  go_wp2_with (at_make; refine make_one rfl _ _ 22 rfl tabI rfl (by decide) K _ _ rfl rfl rfl rfl (by omega) w1.heap.size (by simp; omega) ?_)
  intro w5 hbl5 hb5 hz5
  have hz5' : w4.heap.size + 2 < w5.heap.size := by simpa using hz5
  have HBL5 : Hid (Bld 2 w5 w1.heap.size (.slice (some ⟨w4.heap.size + 2, 0, none⟩) K K) ((List.replicate K (0 : Int)).map (.int .i64))) := Lib.hid (by rw [List.map_replicate]; exact hbl5)
  have HSS : Hid (Below w1.heap.size w1 w5) := Lib.hid (((((HSB4.out.setCell (Nat.le_refl _) _).alloc (by simp; omega) _).alloc (by simp; omega) _)).trans (hb5.mono (by (try simp); omega)))
  have HBB : Hid (Bld 2 w5 w1.heap.size (.slice (some ⟨w1.heap.size, 0, none⟩) K K) ((stateBag K R n regs).map (.int .i64))) := Lib.hid (by
    have h9 := HBL4.out.set (R + n) (.int .i64 1)
    rw [map_set_int] at h9
    have h8 := ((h9.below (below_alloc _ (.cells #[.bool true] 4))).below (below_alloc _ (.cells #[.slice (some ⟨w1.heap.size, 0, none⟩) K K] 22))).below (by simpa using hb5)
    rw [stateBag, Int.toNat_natCast]
    exact h8)
  have y1 : w5.cell? ⟨w4.heap.size, 0, none⟩ = some (.bool true) := by rw [bcell1 hb5 (by first | omega | (simp; done) | (simp; omega))]; simp [go_sem]
  have y2 : w5.frozen? ⟨w4.heap.size, 0, none⟩ = false := by rw [hb5.frozen (p := ⟨w4.heap.size, 0, none⟩) (by first | omega | (simp; done) | (simp; omega))]; simp [go_sem]
  have y3 : w5.cell? ⟨w4.heap.size + 1, 0, none⟩ = some (.slice (some ⟨w1.heap.size, 0, none⟩) K K) := by rw [bcell1 hb5 (by first | omega | (simp; done) | (simp; omega))]; simp [go_sem]
  have y4 : w5.frozen? ⟨w4.heap.size + 1, 0, none⟩ = false := by rw [hb5.frozen (p := ⟨w4.heap.size + 1, 0, none⟩) (by first | omega | (simp; done) | (simp; omega))]; simp [go_sem]
  have HSTA := Lib.hid (RetA.sta (bag := stateBag K R n regs) (zs := List.replicate K 0) HBB.out HBL5.out (by rw [stateBag, List.length_set, List.length_append, List.length_replicate]; omega) (List.length_replicate) (by omega) (by omega) y1 y2 y3 y4 (by omega) (by omega) (by omega) (by omega) (by omega))
  have rs0 : w5.cell? ⟨w.heap.size + 2, 0, none⟩ = some (.slice none 0 0) := (bcell1 HSS.out (by omega)).trans rr0
  have rs1 : w5.cell? ⟨w.heap.size + 2, 1, none⟩ = some (.slice none 0 0) := (bcell1 HSS.out (by omega)).trans rr1
  have rs2 : w5.cell? ⟨w.heap.size + 2, 2, none⟩ = some (.slice none 0 0) := (bcell1 HSS.out (by omega)).trans rr2
  have ry0 : w5.frozen? ⟨w.heap.size + 2, 0, none⟩ = false := (HSS.out.frozen (p := ⟨w.heap.size + 2, 0, none⟩) (by show w.heap.size + 2 < _; omega)).trans rz0
  have ry1 : w5.frozen? ⟨w.heap.size + 2, 1, none⟩ = false := (HSS.out.frozen (p := ⟨w.heap.size + 2, 1, none⟩) (by show w.heap.size + 2 < _; omega)).trans rz1
  have ry2 : w5.frozen? ⟨w.heap.size + 2, 2, none⟩ = false := (HSS.out.frozen (p := ⟨w.heap.size + 2, 2, none⟩) (by show w.heap.size + 2 < _; omega)).trans rz2
  have sA := set3 w5 (w.heap.size + 2) (.slice (some ⟨w4.heap.size, 0, none⟩) 1 1) (.slice (some ⟨w4.heap.size + 1, 0, none⟩) 1 1) (.slice (some ⟨w4.heap.size + 2, 0, none⟩) K K) rs0 rs1 rs2
  clear hb5 hbl5 hz5 rr0 rr1 rr2 rz0 rz1 rz2 y1 y2 y3 y4 gI gF
  go_wp2
  refine bodyPost_ret (v := .agg #[.slice (some ⟨w4.heap.size, 0, none⟩) 1 1, .slice (some ⟨w4.heap.size + 1, 0, none⟩) 1 1, .slice (some ⟨w4.heap.size + 2, 0, none⟩) K K]) (by simp [results, Try.results118, go_sem, sA]) rfl ?_
  obtain ⟨F, o1, o2, o3⟩ := HSTA.out
  have hF : w.heap.size + 2 ∉ F := fun e => by have := o3 _ e; omega
  refine ⟨_, F, rfl, ?_, ((o1.put1 hF _).put1 hF _).put1 hF _, o2, fun x hx => by have := o3 x hx; omega⟩
  exact (((HB1.out.trans (HSS.out.mono (by omega))).setCell (by simp; omega) _).setCell (by simp; omega) _).setCell (by simp; omega) _
end Go.Proofs.Ytldjgkandkclpaa
