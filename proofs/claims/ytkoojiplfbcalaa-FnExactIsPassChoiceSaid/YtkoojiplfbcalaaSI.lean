/- CanPass and PassFits: the reference's functions. -/
import Derived.Test.YtkoojiplfbcalaaIP
namespace Go.Proofs.Ytkoojiplfbcalaa
open Go.RowKit

def passCodeS (x0 : Int) (x1 : List Int) (x2 : List Bool) (x3 : List PR) (y0 : List (List Int)) (y1 : List Int) (cs : List Int) : Int := if stCode x0 x1 x2 x3 y0 y1 = 0 then (if bag6 x3.length cs = true then 0 else 2) else stCode x0 x1 x2 x3 y0 y1
theorem bag6_ok {m : Nat} {cs : List Int} (h : bag6 m cs = true) : cs.length = m ∧ ∀ j, 0 ≤ nth cs j ∧ nth cs j ≤ 1000 := by
  simp only [bag6, Bool.and_eq_true, beq_iff_eq] at h
  refine ⟨by omega, fun j => ?_⟩
  by_cases hj : j < cs.length
  · have := allB_at h.1 hj
    simpa [cntOk, inRg] using this
  · have : nth cs j = 0 := by simp [nth, List.getD_eq_getElem?_getD, List.getElem?_eq_none (by omega : cs.length ≤ j)]
    omega
def passFitsS (x0 : Int) (x1 : List Int) (x2 : List Bool) (x3 : List PR) (y0 : List (List Int)) (y1 : List Int) (cs : List Int) : Bool × Int := if passCodeS x0 x1 x2 x3 y0 y1 cs = 0 then (fitsB x1 x2 x3 (bagsS y0 y1) cs, 0) else (false, passCodeS x0 x1 x2 x3 y0 y1 cs)
def canPassS (x0 : Int) (x1 : List Int) (x2 : List Bool) (x3 : List PR) (y0 : List (List Int)) (y1 : List Int) (k : Int) : Bool × Int := if stCode x0 x1 x2 x3 y0 y1 = 0 then (if inRg k 0 ((x3.length : Int) - 1) = true then (fitsB x1 x2 x3 (bagsS y0 y1) ((List.replicate x3.length 0).set k.toNat 1), 0) else (false, 2)) else (false, stCode x0 x1 x2 x3 y0 y1)
theorem passCode_ok {x0 : Int} {x1 : List Int} {x2 : List Bool} {x3 : List PR} {y0 : List (List Int)} {y1 cs : List Int} (h : passCodeS x0 x1 x2 x3 y0 y1 cs = 0) : stCode x0 x1 x2 x3 y0 y1 = 0 ∧ bag6 x3.length cs = true := by
  unfold passCodeS at h
  split at h
  · split at h
    · exact ⟨by assumption, by assumption⟩
    · exact absurd h (by decide)
  · exact absurd h (by assumption)
theorem one_ok {m q : Nat} (j : Nat) : 0 ≤ nth ((List.replicate m (0 : Int)).set q 1) j ∧ nth ((List.replicate m (0 : Int)).set q 1) j ≤ 1001 := by
  by_cases hq : q < m
  · rw [nth_set (by simpa using hq)]
    split
    · omega
    · have := zeros_ok m j; omega
  · rw [List.set_eq_of_length_le (by simp; omega)]
    have := zeros_ok m j; omega
theorem leftF_stop {K : Nat} {x1 : List Int} {x2 : List Bool} {x3 : List PR} {cs flat : List Int} {i : Nat} (h : (leftF K x1 x2 x3 cs flat i).2 = false) : ∀ d, leftF K x1 x2 x3 cs flat (i + d) = leftF K x1 x2 x3 cs flat i
  | 0 => rfl
  | d + 1 => by
    have ih := leftF_stop h d
    rw [← Nat.add_assoc, leftF, ih, h]
    simp
theorem leftF_len {K : Nat} {x1 : List Int} {x2 : List Bool} {x3 : List PR} {cs flat : List Int} : ∀ i, (leftF K x1 x2 x3 cs flat i).1.length = flat.length
  | 0 => rfl
  | i + 1 => by
    have ih := leftF_len (K := K) (x1 := x1) (x2 := x2) (x3 := x3) (cs := cs) (flat := flat) i
    rw [leftF]
    split
    · rw [takeF_len]; exact ih
    · exact ih
set_option maxHeartbeats 1000000 in
theorem l06Counts_c (x3 : List PR) (a3 : Option Addr) (c3 : Nat) (p : Nat) (bc : Option Addr) (cc : Nat) (cs : List Int) (w : World) (kc : SlI Any w bc cs) (hp3 : w.cell? ⟨p, 3, none⟩ = some (.slice a3 x3.length c3)) (_h8 : x3.length ≤ maxLen) :
    Calls Try.prog 62 #[.pointer (some ⟨p, 0, none⟩), .slice bc cs.length cc] w (RetP w (.bool (bag6 x3.length cs))) := by
  have HB := Lib.hid (l06Bag_c x3.length Any bc cc cs w kc)
  go_enter Try.func62, Try.ntmps62
  go_wp2_with fail
  refine HB.out.mono ?_
  rintro e w1 ⟨rfl, rfl⟩
  go_wp2
  go_ret
  exact ⟨rfl, rfl⟩
/-- Taking by a rule of the list. -/
theorem take_at (K : Nat) (x1 : List Int) (x2 : List Bool) (x3 : List PR) (a1 a2 a3 : Option Addr) (c1 c2 c3 : Nat) (k : Nat) (n : Int) (xs : List Int) (g cg : Nat) (p : Nat) (w wx : World) (h1 : SlI Any w a1 x1) (h2 : SlB Any w a2 x2) (h3 : Rd Any w (dPR x3) (.slice a3 x3.length c3)) (hp0 : w.cell? ⟨p, 0, none⟩ = some (.int .i64 K)) (hp1 : w.cell? ⟨p, 1, none⟩ = some (.slice a1 x1.length c1)) (hp2 : w.cell? ⟨p, 2, none⟩ = some (.slice a2 x2.length c2)) (hp3 : w.cell? ⟨p, 3, none⟩ = some (.slice a3 x3.length c3)) (hps : PsOk K x1 x2 x3) (hk : k < x3.length)
    (hb : Below w.heap.size w wx) (hbl : Bld 2 wx w.heap.size (.slice (some ⟨g, 0, none⟩) xs.length cg) (xs.map (.int .i64))) (hlen : xs.length = (x1.length + 1) * K) :
    Calls Try.prog 133 #[.pointer (some ⟨p, 0, none⟩), .slice (some ⟨g, 0, none⟩) xs.length cg, .pointer (some ⟨blk a3, ofs a3 + k * 3, none⟩), .int .i64 n] wx (fun e w' => TakePost w.heap.size g xs.length cg (takeF (cellN (nthPR x3 k) * K) (upN x1 (nthPR x3 k) * K) x2 (nthPR x3 k) n xs K) e w' ∧ Below w.heap.size wx w') := by
  have zp := World.block_lt_of_cell? w _ hp0
  obtain ⟨_, _, ex, hxs⟩ := Rd_PR h3
  cases ex
  have r0 := hxs.c0 k hk
  obtain ⟨u1, e1, r1, k1⟩ := hxs.c1 k hk
  obtain ⟨u2, e2, r2, k2⟩ := hxs.c2 k hk
  have hu := hps.upN hk
  have hrb : blk a3 < w.heap.size := World.block_lt_of_cell? w _ r0
  have hz := hb.size
  exact l06Take_c K x1 x2 (nthPR x3 k) n xs a1 a2 u1 u2 c1 c2 e1 e2 p (blk a3) (ofs a3 + k * 3) g cg w.heap.size (.slice a3 x3.length c3) wx
    ((h1.under (Nat.le_refl _)).low hb) ((h2.under (Nat.le_refl _)).low hb) ((k1.under (Nat.le_refl _)).low hb) ((k2.under (Nat.le_refl _)).low hb)
    ((bcell1 hb zp).trans hp0) ((bcell1 hb zp).trans hp1) ((bcell1 hb zp).trans hp2) ((bcell1 hb zp).trans hp3) ((bcell1 hb hrb).trans r0) ((bcell1 hb hrb).trans r1) ((bcell1 hb hrb).trans r2) zp hrb hbl hz hps.k1 hps.k8 hps.p4 hlen hps.free (hps.out k hk).2 (hps.inn k hk).2
    (hps.cell k hk) hu.2.2.2.1 hu.2.1 (fun h => (hps.par _ (by unfold cellN at hu; omega) (by unfold cellN at hu; omega)).1) hps.par0
set_option maxHeartbeats 2000000 in
set_option maxRecDepth 100000 in
theorem l06Left_c (K : Nat) (x1 : List Int) (x2 : List Bool) (x3 : List PR) (y0 : List (List Int)) (y1 : List Int) (a1 a2 a3 b0 b1 : Option Addr) (c1 c2 c3 d0 d1 : Nat) (w : World) (h1 : SlI Any w a1 x1) (h2 : SlB Any w a2 x2) (h3 : Rd Any w (dPR x3) (.slice a3 x3.length c3)) (k0 : SlII Any w b0 y0) (k1 : SlI Any w b1 y1) (cs : List Int) (bc : Option Addr) (cc : Nat) (kc : SlI Any w bc cs) (p q : Nat) (hp0 : w.cell? ⟨p, 0, none⟩ = some (.int .i64 K)) (hp1 : w.cell? ⟨p, 1, none⟩ = some (.slice a1 x1.length c1)) (hp2 : w.cell? ⟨p, 2, none⟩ = some (.slice a2 x2.length c2)) (hp3 : w.cell? ⟨p, 3, none⟩ = some (.slice a3 x3.length c3)) (hq0 : w.cell? ⟨q, 0, none⟩ = some (.slice b0 y0.length d0)) (hq1 : w.cell? ⟨q, 1, none⟩ = some (.slice b1 y1.length d1)) (hps : PsOk K x1 x2 x3) (hst : StOk K x1.length y0 y1) (hcl : cs.length = x3.length) :
    Calls Try.prog 64 #[.pointer (some ⟨p, 0, none⟩), .pointer (some ⟨q, 0, none⟩), .slice bc cs.length cc] w (fun e w' => ∃ g cg, e = .returned (.tuple #[.slice (some ⟨g, 0, none⟩) (bagsS y0 y1).flatten.length cg, .bool (leftF K x1 x2 x3 cs (bagsS y0 y1).flatten x3.length).2]) ∧ Below w.heap.size w w' ∧ Bld 2 w' w.heap.size (.slice (some ⟨g, 0, none⟩) (bagsS y0 y1).flatten.length cg) ((leftF K x1 x2 x3 cs (bagsS y0 y1).flatten x3.length).1.map (.int .i64))) := by
  have HF := Lib.hid (l06Flat_c K y0 y1 b0 b1 d0 d1 ⟨p, 0, none⟩ ⟨q, 0, none⟩ q w k0 k1 rfl hq0 hq1 (Lib.hid fun i hi => (hst.bag i (by have := hst.len; omega)).2) hst.around.2 hps.k1 hps.k8 (by have := hst.len; have := hps.p4; omega))
  have hfl := (flat_start hst).1
  have zp := World.block_lt_of_cell? w _ hp0
  have HT := Lib.hid (fun k n xs g cg wx hk hb hbl hlen => take_at K x1 x2 x3 a1 a2 a3 c1 c2 c3 k n xs g cg p w wx h1 h2 h3 hp0 hp1 hp2 hp3 hps hk hb hbl hlen)
  have H3 := Lib.hid (fun wx (hb : Below w.heap.size w wx) => (bcell1 hb zp).trans hp3)
  have hm := small_mul (k := x1.length + 1) (K := K) (n := 5) (by have := hps.p4; omega) hps.k8
  have hk1 := hps.k1
  have hpos : 0 < (bagsS y0 y1).flatten.length := by rw [hfl]; exact Nat.mul_pos (by omega) hk1
  have h3' := h3
  obtain ⟨_, _, e3, k3⟩ := Rd_PR h3'
  cases e3
  have i4 := ix_of (P := Try.prog) tabPassRuleSM.under tabPassRuleSM.size k3.ptr c3
  have lc := kc.len
  unfold maxLen at lc
  have ic := kc.ix tabI.under tabI.size cc
  have KC := Lib.hid kc
  have HCL := Lib.hid hcl
  have h8 := hps.r8
  have hrunT := callFunc_run Try.func133 (by kernel_rfl) rfl
  obtain ⟨L, hL⟩ : ∃ L, L = (bagsS y0 y1).flatten := ⟨_, rfl⟩
  rw [← hL] at HF hfl hpos ⊢
  have HFL : Hid (L.length = (x1.length + 1) * K ∧ (x1.length + 1) * K ≤ 40) := Lib.hid ⟨hfl, hm⟩
  have hL40 : L.length ≤ 40 := by omega
  clear h1 h2 h3 k0 k1 kc hp0 hp1 hp2 hp3 hq0 hq1 hps hst hcl hL h3' k3 hfl hm hk1
  go_enter Try.func64, Try.ntmps64
  go_wp2_with fail
  refine HF.out.mono ?_
  rintro e w1 ⟨v, rfl, hb1, hl1⟩
  obtain ⟨g, cg, rfl⟩ : ∃ g c, v = .slice (some ⟨g, 0, none⟩) L.length c := by
    have := hl1.ptr (by simp; omega)
    simpa using this
  have HB1 := Lib.hid hb1
  have HL1 := Lib.hid hl1
  clear hb1 hl1
  go_wp2
  go_loopw [9, 10] (fun ok i wr => ∃ k : Nat, k ≤ cs.length ∧ i = .int .i64 k ∧ ok = .bool (leftF K x1 x2 x3 cs L k).2 ∧ Below w.heap.size w wr ∧ Bld 2 wr w.heap.size (.slice (some ⟨g, 0, none⟩) L.length cg) ((leftF K x1 x2 x3 cs L k).1.map (.int .i64))) (fun ok i _ => cs.length - (intOf i).toNat)
  case atStart => exact ⟨0, Nat.zero_le _, rfl, rfl, HB1.out, HL1.out⟩
  case round =>
    obtain ⟨k, hk, rfl, rfl, hb, hbl⟩ := hrel
    have HB := Lib.hid hb
    have HBL := Lib.hid hbl
    have f3 := H3.out _ hb
    clear hb hbl
    have HLN : Hid ((leftF K x1 x2 x3 cs L k).1.length = L.length) := Lib.hid (leftF_len k)
    by_cases hlt : k < cs.length
    · cases hok : (leftF K x1 x2 x3 cs L k).2
      · have HS : Hid (leftF K x1 x2 x3 cs L x3.length = leftF K x1 x2 x3 cs L k) := Lib.hid (by
          have := leftF_stop hok (x3.length - k)
          rwa [show k + (x3.length - k) = x3.length by have := HCL.out; omega] at this)
        have HOK := Lib.hid hok
        clear hok
        go_wp2
        go_ret2
        exact ⟨g, cg, by rw [HS.out, HOK.out]; rfl, HB.out, by rw [HS.out]; exact HBL.out⟩
      · have HE : Hid (leftF K x1 x2 x3 cs L (k + 1) = takeF (cellN (nthPR x3 k) * K) (upN x1 (nthPR x3 k) * K) x2 (nthPR x3 k) (nth cs k) (leftF K x1 x2 x3 cs L k).1 K) := Lib.hid (by rw [leftF, if_pos hok])
        have gc := (KC.out.below HB.out).cell k hlt
        have hlt3 : (k : Int) < x3.length := by have := HCL.out; omega
        have HTX : Hid (∀ wx, Below wr.heap.size wr wx → Calls Try.prog 133 #[.pointer (some ⟨p, 0, none⟩), .slice (some ⟨g, 0, none⟩) L.length cg, .pointer (some ⟨blk a3, ofs a3 + k * 3, none⟩), .int .i64 (nth cs k)] wx (fun e w' => TakePost w.heap.size g L.length cg (leftF K x1 x2 x3 cs L (k + 1)) e w' ∧ Below w.heap.size wx w')) := Lib.hid (fun wx h => by
          have hh := HT.out k (nth cs k) (leftF K x1 x2 x3 cs L k).1 g cg wx (by have := HCL.out; omega) (HB.out.trans (h.mono HB.out.size)) (by rw [HLN.out]; exact HBL.out.below h) (by rw [HLN.out]; exact HFL.out.1)
          rw [HLN.out, ← HE.out] at hh
          exact hh)
        clear hok HT H3 HF
        go_wp2
        go_region_law (refine step_callG rfl 133 #[.tmp 23, .tmp 24, .tmp 30, .tmp 34] _ rfl hrunT #[.pointer (some ⟨p, 0, none⟩), .slice (some ⟨g, 0, none⟩) L.length cg, .pointer (some ⟨blk a3, ofs a3 + k * 3, none⟩), .int .i64 (nth cs k)] (by first | rfl | (simp [Act.eval]; done) | (simp [Act.eval]; rfl) | (simp [Act.eval]; repeat' constructor)) (HTX.out _ (by repeat (first | exact Below.refl _ _ | refine Below.drew ?_ | refine Below.alloc ?_ (by simp) _))) ?_; rintro e w9 ⟨⟨rfl, hbl9⟩, hb9⟩; refine ⟨_, rfl, ?_⟩; have hx9 : Below w.heap.size wr w9 := (Below.mono ((by repeat (first | exact Below.refl _ _ | refine Below.drew ?_ | refine Below.alloc ?_ (by simp) _)) : Below wr.heap.size wr _) HB.out.size).trans hb9)
        all_goals
          go_wp2
          go_roundw
          case rel => exact ⟨k + 1, by omega, by go_num, rfl, HB.out.trans hx9, hbl9⟩
          case measure => simp [intOf]; omega
    · have e : k = x3.length := by have := HCL.out; omega
      have HS : Hid (leftF K x1 x2 x3 cs L k = leftF K x1 x2 x3 cs L x3.length) := Lib.hid (by rw [e])
      clear e
      go_wp2
      go_ret2
      exact ⟨g, cg, by rw [HS.out]; rfl, HB.out, by rw [← HS.out]; exact HBL.out⟩
set_option maxHeartbeats 2000000 in
theorem specPassFits_c (x0 : Int) (x1 : List Int) (x2 : List Bool) (x3 : List PR) (y0 : List (List Int)) (y1 : List Int) (a1 a2 a3 b0 b1 : Option Addr) (c1 c2 c3 d0 d1 : Nat) (w : World) (h1 : SlI Any w a1 x1) (h2 : SlB Any w a2 x2) (h3 : Rd Any w (dPR x3) (.slice a3 x3.length c3)) (k0 : SlII Any w b0 y0) (k1 : SlI Any w b1 y1) (cs : List Int) (bc : Option Addr) (cc : Nat) (kc : SlI Any w bc cs) :
    Calls Try.prog 24 #[.agg #[.int .i64 x0, .slice a1 x1.length c1, .slice a2 x2.length c2, .slice a3 x3.length c3], .agg #[.slice b0 y0.length d0, .slice b1 y1.length d1], .slice bc cs.length cc] w (RetV w (.tuple #[.bool (passFitsS x0 x1 x2 x3 y0 y1 cs).1, .int .i64 (passFitsS x0 x1 x2 x3 y0 y1 cs).2])) := by
  have hb0 : Below w.heap.size w ((w.alloc (.cells #[.int .i64 x0, .slice a1 x1.length c1, .slice a2 x2.length c2, .slice a3 x3.length c3] 36)).alloc (.cells #[.slice b0 y0.length d0, .slice b1 y1.length d1] 38)) := ((Below.refl _ _).alloc (Nat.le_refl _) _).alloc (by simp) _
  have HC := Lib.hid (l06Code_c x0 x1 x2 x3 y0 y1 a1 a2 a3 b0 b1 c1 c2 c3 d0 d1 ((w.alloc (.cells #[.int .i64 x0, .slice a1 x1.length c1, .slice a2 x2.length c2, .slice a3 x3.length c3] 36)).alloc (.cells #[.slice b0 y0.length d0, .slice b1 y1.length d1] 38)) (h1.below hb0) (h2.below hb0) (h3.below hb0) (k0.below hb0) (k1.below hb0) w.heap.size (w.heap.size + 1) (by simp [go_sem]) (by simp [go_sem]) (by simp [go_sem]) (by simp [go_sem]) (by simp [go_sem]) (by simp [go_sem]))
  have HB0 := Lib.hid hb0
  have h3' := h3
  obtain ⟨_, _, e3, k3⟩ := Rd_PR h3'
  cases e3
  have l3 := k3.len
  clear hb0 h3' k3
  by_cases hcode : stCode x0 x1 x2 x3 y0 y1 = 0
  · obtain ⟨K, hxK, hps, hst⟩ := stockAll_ok (stCode_ok hcode)
    have HCO := Lib.hid (fun wx (h : Below w.heap.size w wx) hp3 => l06Counts_c x3 a3 c3 w.heap.size bc cc cs wx (kc.below h) hp3 l3)
    rw [hcode] at HC
    cases hb6 : bag6 x3.length cs
    · have ev : passFitsS x0 x1 x2 x3 y0 y1 cs = (false, 2) := by simp [passFitsS, passCodeS, hcode, hb6]
      rw [hb6] at HCO
      rw [ev]
      clear ev hcode hb6 hps hst h1 h2 h3 k0 k1 kc hxK
      go_enter Try.func24, Try.ntmps24
      go_wp2_with fail
      refine HC.out.mono ?_
      rintro e w1 ⟨rfl, hb1⟩
      have f0 : w1.cell? ⟨w.heap.size, 0, none⟩ = some (.int .i64 x0) := by rw [bcell1 hb1 (by simp <;> omega)]; simp [go_sem]
      have f1 : w1.cell? ⟨w.heap.size, 1, none⟩ = some (.slice a1 x1.length c1) := by rw [bcell1 hb1 (by simp <;> omega)]; simp [go_sem]
      have f2 : w1.cell? ⟨w.heap.size, 2, none⟩ = some (.slice a2 x2.length c2) := by rw [bcell1 hb1 (by simp <;> omega)]; simp [go_sem]
      have f3 : w1.cell? ⟨w.heap.size, 3, none⟩ = some (.slice a3 x3.length c3) := by rw [bcell1 hb1 (by simp <;> omega)]; simp [go_sem]
      have e0 : w1.cell? ⟨w.heap.size + 1, 0, none⟩ = some (.slice b0 y0.length d0) := by rw [bcell1 hb1 (by simp <;> omega)]; simp [go_sem]
      have e1 : w1.cell? ⟨w.heap.size + 1, 1, none⟩ = some (.slice b1 y1.length d1) := by rw [bcell1 hb1 (by simp <;> omega)]; simp [go_sem]
      have HB1 := Lib.hid (HB0.out.trans (hb1.mono (by simp <;> omega)))
      clear hb1
      go_wp2_with fail
      refine (HCO.out w1 HB1.out f3).mono ?_
      rintro e w2 ⟨rfl, rfl⟩
      go_wp2
      go_ret2
      exact ⟨rfl, HB1.out⟩
    · have hcs := bag6_ok hb6
      have ev : passFitsS x0 x1 x2 x3 y0 y1 cs = (fitsB x1 x2 x3 (bagsS y0 y1) cs, 0) := by simp [passFitsS, passCodeS, hcode, hb6]
      have HLF := Lib.hid (left_fits (cs := cs) hps hst (fun j => by have := hcs.2 j; omega) hcs.1)
      have HXK := Lib.hid hxK
      have HLE := Lib.hid (fun wx (h : Below w.heap.size w wx) p q g0 g1 g2 g3 g4 g5 => l06Left_c K x1 x2 x3 y0 y1 a1 a2 a3 b0 b1 c1 c2 c3 d0 d1 wx (h1.below h) (h2.below h) (h3.below h) (k0.below h) (k1.below h) cs bc cc (kc.below h) p q g0 g1 g2 g3 g4 g5 hps hst hcs.1)
      rw [hb6] at HCO
      rw [ev]
      clear ev hcode hb6 hps hst hcs h1 h2 h3 k0 k1 kc hxK
      go_enter Try.func24, Try.ntmps24
      go_wp2_with fail
      refine HC.out.mono ?_
      rintro e w1 ⟨rfl, hb1⟩
      have f0 : w1.cell? ⟨w.heap.size, 0, none⟩ = some (.int .i64 x0) := by rw [bcell1 hb1 (by simp <;> omega)]; simp [go_sem]
      have f1 : w1.cell? ⟨w.heap.size, 1, none⟩ = some (.slice a1 x1.length c1) := by rw [bcell1 hb1 (by simp <;> omega)]; simp [go_sem]
      have f2 : w1.cell? ⟨w.heap.size, 2, none⟩ = some (.slice a2 x2.length c2) := by rw [bcell1 hb1 (by simp <;> omega)]; simp [go_sem]
      have f3 : w1.cell? ⟨w.heap.size, 3, none⟩ = some (.slice a3 x3.length c3) := by rw [bcell1 hb1 (by simp <;> omega)]; simp [go_sem]
      have e0 : w1.cell? ⟨w.heap.size + 1, 0, none⟩ = some (.slice b0 y0.length d0) := by rw [bcell1 hb1 (by simp <;> omega)]; simp [go_sem]
      have e1 : w1.cell? ⟨w.heap.size + 1, 1, none⟩ = some (.slice b1 y1.length d1) := by rw [bcell1 hb1 (by simp <;> omega)]; simp [go_sem]
      have HB1 := Lib.hid (HB0.out.trans (hb1.mono (by simp <;> omega)))
      clear hb1
      go_wp2_with fail
      refine (HCO.out w1 HB1.out f3).mono ?_
      rintro e w2 ⟨rfl, rfl⟩
      go_wp2_with fail
      refine (HLE.out w1 HB1.out w.heap.size (w.heap.size + 1) (by rw [f0, HXK.out]) f1 f2 f3 e0 e1).mono ?_
      rintro e w3 ⟨g, cg, rfl, hb3, hbl3⟩
      have HB3 := Lib.hid (bnext HB1.out hb3 (Nat.le_refl _))
      clear hb3 hbl3
      go_wp2
      go_ret2
      exact ⟨by rw [HLF.out]; rfl, HB3.out⟩
  · have ev : passFitsS x0 x1 x2 x3 y0 y1 cs = (false, stCode x0 x1 x2 x3 y0 y1) := by simp [passFitsS, passCodeS, hcode]
    have hc1' : (stCode x0 x1 x2 x3 y0 y1 != 0) = true := by simpa using hcode
    rw [ev]
    clear ev hcode h1 h2 h3 k0 k1 kc
    go_enter Try.func24, Try.ntmps24
    go_wp2_with fail
    refine HC.out.mono ?_
    rintro e w1 ⟨rfl, hb1⟩
    have HB1 := Lib.hid (HB0.out.trans (hb1.mono (by simp <;> omega)))
    clear hb1
    go_wp2
    go_ret2
    exact ⟨rfl, HB1.out⟩
