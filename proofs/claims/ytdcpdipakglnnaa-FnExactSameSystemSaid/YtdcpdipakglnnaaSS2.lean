/- Systems compared: the program's function and the reference's. Written by mkss2.py. -/
import Derived.Test.YtdcpdipakglnnaaSS1
namespace Go.Proofs.Ytdcpdipakglnnaa
open Go.RowKit

theorem wd_up {w : World} {x : Wd w} (y : Wd (wat x)) : ∃ z : Wd w, wat y = wat z := ⟨⟨wat y, bnext (wat_below x) (wat_below y) (Nat.le_refl _)⟩, rfl⟩
def wd_mk {w : World} {x : Wd w} (y : Wd (wat x)) : Wd w := ⟨wat y, bnext (wat_below x) (wat_below y) (Nat.le_refl _)⟩
set_option maxHeartbeats 4000000 in
theorem equalFuncRul_c (xs ys : List Rul) (u v : Value) (w : World) (hx : Rd Any w (dRul xs) u) (hy : Rd Any w (dRul ys) v) :
    Calls Try.prog 106 #[u, v, .func (.func 107) #[] #[]] w (RetV w (.bool (eqRul xs ys))) := by
  obtain ⟨a, c, rfl, hxs⟩ := Rd_Rul hx
  obtain ⟨b, d, rfl, hys⟩ := Rd_Rul hy
  have l1 := hxs.len
  have l2 := hys.len
  unfold maxLen at l1 l2
  cases hl : ((xs.length : Int) != ys.length)
  · have hq : xs.length = ys.length := by simp at hl; omega
    have HQ := Lib.hid hq
    clear hq
    have i1 := ix_of (P := Try.prog) tabRuleSM.under tabRuleSM.size hxs.ptr c
    have i2 := ix_of (P := Try.prog) tabRuleSM.under tabRuleSM.size hys.ptr d
    clear hxs hys
    go_enter Try.func106, Try.ntmps106
    go_wp2
    go_loopw [7, 8, 9, 17] (fun _ _ _ i wr => ∃ k : Nat, k ≤ xs.length ∧ i = .int .i64 k ∧ Below w.heap.size w wr ∧ (∀ j, j < k → ruleB (nthRul xs j) (nthRul ys j) = true)) (fun _ _ _ i _ => xs.length - (intOf i).toNat)
    case atStart => exact ⟨0, Nat.zero_le _, rfl, Below.refl _ _, by omega⟩
    case round =>
        obtain ⟨k, hk, rfl, hb, hj⟩ := hrel
        have HJ := Lib.hid hj
        have HB := Lib.hid hb
        clear hj hb
        by_cases hlt : k < xs.length
        · have hlt2 : k < ys.length := by have := HQ.out; omega
          have k2 : (k : Int) < ys.length := by omega
          obtain ⟨_, _, ex, hxs⟩ := Rd_Rul (hx.below HB.out)
          obtain ⟨_, _, ey, hys⟩ := Rd_Rul (hy.below HB.out)
          cases ex
          cases ey
          have xg0 := hxs.c0 k hlt
          have xg1 := hxs.c1 k hlt
          obtain ⟨x2, xc2, xg2, xh2⟩ := hxs.c2 k hlt
          obtain ⟨x3, xc3, xg3, xh3⟩ := hxs.c3 k hlt
          obtain ⟨x4, xc4, xg4, xh4⟩ := hxs.c4 k hlt
          obtain ⟨x5, xc5, xg5, xh5⟩ := hxs.c5 k hlt
          obtain ⟨x6, xc6, xg6, xh6⟩ := hxs.c6 k hlt
          obtain ⟨x7, xc7, xg7, xh7⟩ := hxs.c7 k hlt
          have xg8 := hxs.c8 k hlt
          have yg0 := hys.c0 k hlt2
          have yg1 := hys.c1 k hlt2
          obtain ⟨y2, yc2, yg2, yh2⟩ := hys.c2 k hlt2
          obtain ⟨y3, yc3, yg3, yh3⟩ := hys.c3 k hlt2
          obtain ⟨y4, yc4, yg4, yh4⟩ := hys.c4 k hlt2
          obtain ⟨y5, yc5, yg5, yh5⟩ := hys.c5 k hlt2
          obtain ⟨y6, yc6, yg6, yh6⟩ := hys.c6 k hlt2
          obtain ⟨y7, yc7, yg7, yh7⟩ := hys.c7 k hlt2
          have yg8 := hys.c8 k hlt2
          have HC := Lib.hid (fun (wx : World) (hb : Below wr.heap.size wr wx) => sameRule_c (nthRul xs k) (nthRul ys k) _ _ rfl rfl x2 y2 x3 y3 x4 y4 x5 y5 x6 y6 xc2 yc2 xc3 yc3 xc4 yc4 xc5 yc5 xc6 yc6 _ _ wx (xh2.below hb) (yh2.below hb) (xh3.below hb) (yh3.below hb) (xh4.below hb) (yh4.below hb) (xh5.below hb) (yh5.below hb) (xh6.below hb) (yh6.below hb) (xh7.below hb) (yh7.below hb))
          have hz := HB.out.size
          have YF0 := fun o => ((below_alloc wr o).cell (World.block_lt_of_cell? wr _ yg0)).trans yg0
          have YF1 := fun o => ((below_alloc wr o).cell (World.block_lt_of_cell? wr _ yg1)).trans yg1
          have YF2 := fun o => ((below_alloc wr o).cell (World.block_lt_of_cell? wr _ yg2)).trans yg2
          have YF3 := fun o => ((below_alloc wr o).cell (World.block_lt_of_cell? wr _ yg3)).trans yg3
          have YF4 := fun o => ((below_alloc wr o).cell (World.block_lt_of_cell? wr _ yg4)).trans yg4
          have YF5 := fun o => ((below_alloc wr o).cell (World.block_lt_of_cell? wr _ yg5)).trans yg5
          have YF6 := fun o => ((below_alloc wr o).cell (World.block_lt_of_cell? wr _ yg6)).trans yg6
          have YF7 := fun o => ((below_alloc wr o).cell (World.block_lt_of_cell? wr _ yg7)).trans yg7
          have YF8 := fun o => ((below_alloc wr o).cell (World.block_lt_of_cell? wr _ yg8)).trans yg8
          clear hxs hys xh2 yh2 xh3 yh3 xh4 yh4 xh5 yh5 xh6 yh6 xh7 yh7 yg0 yg1 yg2 yg3 yg4 yg5 yg6 yg7 yg8
          cases hp : ruleB (nthRul xs k) (nthRul ys k)
          · have HP := Lib.hid hp
            rw [hp] at HC
            clear hp
            go_wp2_with fail
            refine (HC.out _ (by repeat (first | exact Below.refl _ _ | refine Below.alloc ?_ (by simp <;> omega) _))).mono ?_
            rintro e w' ⟨rfl, hb'⟩
            have hbb := HB.out.trans (((show Below wr.heap.size wr _ by repeat (first | exact Below.refl _ _ | refine Below.alloc ?_ (by simp <;> omega) _)).trans (hb'.mono (by simp <;> omega))).mono hz)
            clear hb' xg0 xg1 xg2 xg3 xg4 xg5 xg6 xg7 xg8 YF0 YF1 YF2 YF3 YF4 YF5 YF6 YF7 YF8
            go_wp2
            go_ret
            exact ⟨ret_bool (eqRul_false hlt HP.out).symm, hbb⟩
          · have HP := Lib.hid hp
            rw [hp] at HC
            clear hp
            go_wp2_with fail
            refine (HC.out _ (by repeat (first | exact Below.refl _ _ | refine Below.alloc ?_ (by simp <;> omega) _))).mono ?_
            rintro e w' ⟨rfl, hb'⟩
            have hbb := HB.out.trans (((show Below wr.heap.size wr _ by repeat (first | exact Below.refl _ _ | refine Below.alloc ?_ (by simp <;> omega) _)).trans (hb'.mono (by simp <;> omega))).mono hz)
            clear hb' xg0 xg1 xg2 xg3 xg4 xg5 xg6 xg7 xg8 YF0 YF1 YF2 YF3 YF4 YF5 YF6 YF7 YF8
            go_wp2
            go_roundw
            case rel => exact ⟨k + 1, by omega, by go_num, hbb, upto HJ.out HP.out⟩
            case measure => simp [intOf]; omega
        · go_wp2
          go_ret
          have e : k = xs.length := by omega
          exact ⟨ret_bool (eqRul_true HQ.out (e ▸ HJ.out)).symm, HB.out⟩
  · have hq : ¬ xs.length = ys.length := by simp at hl; omega
    have HQ := Lib.hid hq
    clear hq
    go_enter Try.func106, Try.ntmps106
    go_wp2
    go_ret
    exact ⟨ret_bool (eqRul_len HQ.out).symm, Below.refl _ _⟩
set_option maxHeartbeats 2000000 in
theorem implSameSystem_d (x0 : Int) (x1 : List Int) (x2 : List Rul) (y0 : Int) (y1 : List Int) (y2 : List Rul) {u1 u2 v1 v2 : Value} (w : World) (hx1 : Rd Any w (dI x1) u1) (hx2 : Rd Any w (dRul x2) u2) (hy1 : Rd Any w (dI y1) v1) (hy2 : Rd Any w (dRul y2) v2) :
    Calls Try.prog 35 #[.agg #[.int .i64 x0, u1, u2], .agg #[.int .i64 y0, v1, v2]] w (RetV w (.bool (sameSys x0 x1 x2 y0 y1 y2))) := by
  obtain ⟨a1, c1, rfl, kx1⟩ := Rd_I.1 hx1
  obtain ⟨b1, d1, rfl, ky1⟩ := Rd_I.1 hy1
  have gx2 := hx2
  have gy2 := hy2
  obtain ⟨a2, c2, rfl, _⟩ := Rd_Rul hx2
  obtain ⟨b2, d2, rfl, _⟩ := Rd_Rul hy2
  have hb : Below w.heap.size w ((w.alloc (.cells #[.int .i64 x0, .slice a1 x1.length c1, .slice a2 x2.length c2] 54)).alloc (.cells #[.int .i64 y0, .slice b1 y1.length d1, .slice b2 y2.length d2] 54)) := ((Below.refl _ _).alloc (Nat.le_refl _) _).alloc (by simp) _
  have HC := Lib.hid (fun n => slicesEqualI_c Any Any a1 b1 c1 d1 x1 y1 _ (kx1.below (hb.trans (below_drewN _ _ n))) (ky1.below (hb.trans (below_drewN _ _ n))))
  have HE := Lib.hid (fun n => equalFuncRul_c x2 y2 _ _ (((w.alloc (.cells #[.int .i64 x0, .slice a1 x1.length c1, .slice a2 x2.length c2] 54)).alloc (.cells #[.int .i64 y0, .slice b1 y1.length d1, .slice b2 y2.length d2] 54)).drewN n) (gx2.below (hb.trans (below_drewN _ _ n))) (gy2.below (hb.trans (below_drewN _ _ n))))
  have HB := Lib.hid hb
  clear hb hx1 hy1 hx2 hy2 kx1 ky1 gx2 gy2
  cases h : (x0 == y0)
  · have HR : Hid (sameSys x0 x1 x2 y0 y1 y2 = false) := Lib.hid (by simp only [sameSys, h, Bool.false_and])
    go_enter Try.func35, Try.ntmps35
    go_wp2
    go_ret
    exact ⟨ret_bool HR.out.symm, HB.out⟩
  · have H0 := Lib.hid h
    go_enter Try.func35, Try.ntmps35
    go_wp2_with fail
    refine (HC.out 0).mono ?_
    rintro e w' ⟨rfl, n, rfl⟩
    cases k1 : eqI x1 y1
    · have HR : Hid (sameSys x0 x1 x2 y0 y1 y2 = false) := Lib.hid (by simp only [sameSys, k1, Bool.false_and, Bool.and_false])
      go_wp2
      go_ret
      exact ⟨ret_bool HR.out.symm, HB.out.trans ((below_drewN _ _ 0).trans (below_drewN _ _ _))⟩
    · have HR : Hid (sameSys x0 x1 x2 y0 y1 y2 = eqRul x2 y2) := Lib.hid (by simp only [sameSys, k1, H0.out, Bool.true_and])
      go_wp2_with fail
      refine (HE.out _).mono ?_
      rintro e w1 ⟨rfl, hb1⟩
      have HB1 := Lib.hid (bnext (HB.out.trans (below_drewN _ _ _)) hb1 (by simp <;> omega))
      clear hb1
      go_wp2
      go_ret
      exact ⟨ret_bool HR.out.symm, HB1.out⟩
set_option maxHeartbeats 8000000 in
set_option maxRecDepth 100000 in
theorem l02SameRule_c (x y : Rul) (pg po qg qo : Nat) (a2 b2 a3 b3 a4 b4 a5 b5 a6 b6 a7 b7 : Option Addr) (c2 d2 c3 d3 c4 d4 c5 d5 c6 d6 c7 d7 : Nat) (w : World) (h2 : SlI Any w a2 x.need) (g2 : SlI Any w b2 y.need) (h3 : SlI Any w a3 x.have_) (g3 : SlI Any w b3 y.have_) (h4 : SlI Any w a4 x.lack) (g4 : SlI Any w b4 y.lack) (h5 : SlI Any w a5 x.here) (g5 : SlI Any w b5 y.here) (h6 : SlI Any w a6 x.out) (g6 : SlI Any w b6 y.out) (hu : Rd Any w (dInn x.into) (.slice a7 x.into.length c7)) (hv : Rd Any w (dInn y.into) (.slice b7 y.into.length d7)) (r0 : w.cell? ⟨pg, po, none⟩ = some (.int .i64 x.cell)) (r1 : w.cell? ⟨pg, po + 1, none⟩ = some (.int .i64 x.rank)) (r2 : w.cell? ⟨pg, po + 2, none⟩ = some (.slice a2 x.need.length c2)) (r3 : w.cell? ⟨pg, po + 3, none⟩ = some (.slice a3 x.have_.length c3)) (r4 : w.cell? ⟨pg, po + 4, none⟩ = some (.slice a4 x.lack.length c4)) (r5 : w.cell? ⟨pg, po + 5, none⟩ = some (.slice a5 x.here.length c5)) (r6 : w.cell? ⟨pg, po + 6, none⟩ = some (.slice a6 x.out.length c6)) (r7 : w.cell? ⟨pg, po + 7, none⟩ = some (.slice a7 x.into.length c7)) (r8 : w.cell? ⟨pg, po + 8, none⟩ = some (.bool x.melts)) (s0 : w.cell? ⟨qg, qo, none⟩ = some (.int .i64 y.cell)) (s1 : w.cell? ⟨qg, qo + 1, none⟩ = some (.int .i64 y.rank)) (s2 : w.cell? ⟨qg, qo + 2, none⟩ = some (.slice b2 y.need.length d2)) (s3 : w.cell? ⟨qg, qo + 3, none⟩ = some (.slice b3 y.have_.length d3)) (s4 : w.cell? ⟨qg, qo + 4, none⟩ = some (.slice b4 y.lack.length d4)) (s5 : w.cell? ⟨qg, qo + 5, none⟩ = some (.slice b5 y.here.length d5)) (s6 : w.cell? ⟨qg, qo + 6, none⟩ = some (.slice b6 y.out.length d6)) (s7 : w.cell? ⟨qg, qo + 7, none⟩ = some (.slice b7 y.into.length d7)) (s8 : w.cell? ⟨qg, qo + 8, none⟩ = some (.bool y.melts)) :
    Calls Try.prog 103 #[.pointer (some ⟨pg, po, none⟩), .pointer (some ⟨qg, qo, none⟩)] w (RetV w (.bool (ruleB x y))) := by
  have hu' := hu
  have hv' := hv
  obtain ⟨_, _, eu, ku⟩ := Rd_Inn hu
  cases eu
  obtain ⟨_, _, ev, kv⟩ := Rd_Inn hv
  cases ev
  have l1 := ku.len
  have l2 := kv.len
  unfold maxLen at l1 l2
  have i1 := ix_of (P := Try.prog) tabIntoSM.under tabIntoSM.size ku.ptr c7
  have i2 := ix_of (P := Try.prog) tabIntoSM.under tabIntoSM.size kv.ptr d7
  replace r0 := wat_cell r0
  replace s0 := wat_cell s0
  replace r1 := wat_cell r1
  replace s1 := wat_cell s1
  replace r2 := wat_cell r2
  replace s2 := wat_cell s2
  replace r3 := wat_cell r3
  replace s3 := wat_cell s3
  replace r4 := wat_cell r4
  replace s4 := wat_cell s4
  replace r5 := wat_cell r5
  replace s5 := wat_cell s5
  replace r6 := wat_cell r6
  replace s6 := wat_cell s6
  replace r7 := wat_cell r7
  replace s7 := wat_cell s7
  replace r8 := wat_cell r8
  replace s8 := wat_cell s8
  have H2 := Lib.hid (fun x_ : Wd w => callsQ (l00Same_c Any Any a2 b2 c2 d2 x.need y.need (wat x_) (h2.below (wat_below x_)) (g2.below (wat_below x_))))
  have H3 := Lib.hid (fun x_ : Wd w => callsQ (l00Same_c Any Any a3 b3 c3 d3 x.have_ y.have_ (wat x_) (h3.below (wat_below x_)) (g3.below (wat_below x_))))
  have H4 := Lib.hid (fun x_ : Wd w => callsQ (l00Same_c Any Any a4 b4 c4 d4 x.lack y.lack (wat x_) (h4.below (wat_below x_)) (g4.below (wat_below x_))))
  have H5 := Lib.hid (fun x_ : Wd w => callsQ (l00Same_c Any Any a5 b5 c5 d5 x.here y.here (wat x_) (h5.below (wat_below x_)) (g5.below (wat_below x_))))
  have H6 := Lib.hid (fun x_ : Wd w => callsQ (l00Same_c Any Any a6 b6 c6 d6 x.out y.out (wat x_) (h6.below (wat_below x_)) (g6.below (wat_below x_))))
  have HU := Lib.hid hu'
  have HV := Lib.hid hv'
  clear hu hv hu' hv' ku kv h2 g2 h3 g3 h4 g4 h5 g5 h6 g6
  cases bb0 : (x.cell != y.cell)
  rotate_left
  · have HR : Hid (ruleB x y = false) := Lib.hid (by
        have : (x.cell == y.cell) = false := by simpa using bb0
        simp only [ruleB, this, Bool.false_and])
    go_enter Try.func103, Try.ntmps103
    go_wp2
    refine wp_quiet_wd (by kernel_rfl) (by kernel_rfl) ?_
    repeat (go_big_quiet_step (fail))
    refine wpQuiet_nil ?_
    rintro _ ⟨wq, rfl⟩
    go_wp2
    go_ret
    exact ⟨ret_bool HR.out.symm, wat_below wq⟩
  cases bb1 : (x.rank != y.rank)
  rotate_left
  · have HR : Hid (ruleB x y = false) := Lib.hid (by
        have : (x.rank == y.rank) = false := by simpa using bb1
        simp only [ruleB, this, Bool.false_and, Bool.and_false])
    go_enter Try.func103, Try.ntmps103
    go_wp2
    refine wp_quiet_wd (by kernel_rfl) (by kernel_rfl) ?_
    repeat (go_big_quiet_step (fail))
    refine wpQuiet_nil ?_
    rintro _ ⟨wq, rfl⟩
    go_wp2
    go_ret
    exact ⟨ret_bool HR.out.symm, wat_below wq⟩
  by_cases b2 : y.melts = x.melts
  rotate_left
  · have HR : Hid (ruleB x y = false) := Lib.hid (by
      have : (x.melts == y.melts) = false := by simpa using fun h => b2 h.symm
      simp only [ruleB, this, Bool.false_and, Bool.and_false])
    obtain ⟨mx, hmx⟩ : ∃ b, b = x.melts := ⟨_, rfl⟩
    obtain ⟨my, hmy⟩ : ∃ b, b = y.melts := ⟨_, rfl⟩
    rw [← hmx] at r8 b2
    rw [← hmy] at s8 b2
    clear hmx hmy
    cases mx <;> cases my
    · exact absurd rfl b2
    · clear b2
      go_enter Try.func103, Try.ntmps103
      go_wp2
      refine wp_quiet_wd (by kernel_rfl) (by kernel_rfl) ?_
      repeat (go_big_quiet_step (fail))
      refine wpQuiet_nil ?_
      rintro _ ⟨wq, rfl⟩
      go_wp2
      go_ret
      exact ⟨ret_bool HR.out.symm, wat_below wq⟩
    · clear b2
      go_enter Try.func103, Try.ntmps103
      go_wp2
      refine wp_quiet_wd (by kernel_rfl) (by kernel_rfl) ?_
      repeat (go_big_quiet_step (fail))
      refine wpQuiet_nil ?_
      rintro _ ⟨wq, rfl⟩
      go_wp2
      go_ret
      exact ⟨ret_bool HR.out.symm, wat_below wq⟩
    · exact absurd rfl b2
  have C2 : Hid ((x.melts == y.melts) = true) := Lib.hid (by simp [b2])
  rw [b2] at s8
  clear b2
  cases bb3 : ((x.into.length : Int) != y.into.length)
  rotate_left
  · have HR : Hid (ruleB x y = false) := Lib.hid (by
        have : eqInn x.into y.into = false := eqInn_len (by simp at bb3; omega)
        simp only [ruleB, this, Bool.and_false])
    go_enter Try.func103, Try.ntmps103
    go_wp2
    refine wp_quiet_wd (by kernel_rfl) (by kernel_rfl) ?_
    repeat (go_big_quiet_step (fail))
    refine wpQuiet_nil ?_
    rintro _ ⟨wq, rfl⟩
    go_wp2
    go_ret
    exact ⟨ret_bool HR.out.symm, wat_below wq⟩
  have HQ : Hid (x.into.length = y.into.length) := Lib.hid (by simp at bb3; omega)
  have C0 : Hid ((x.cell == y.cell) = true) := Lib.hid (by simpa using bb0)
  have C1 : Hid ((x.rank == y.rank) = true) := Lib.hid (by simpa using bb1)
  go_enter Try.func103, Try.ntmps103
  go_wp2
  refine wp_quiet_wd (by kernel_rfl) (by kernel_rfl) ?_
  repeat (go_big_quiet_step (fail))
  refine wpQuiet_nil ?_
  rintro _ ⟨wq, rfl⟩
  go_wp2
  go_loopw [5] (fun i wr => ∃ (k : Nat) (x_ : Wd w), k ≤ x.into.length ∧ i = .int .i64 k ∧ wr = wat x_ ∧ (∀ j, j < k → innB (nthInn x.into j) (nthInn y.into j) = true)) (fun i _ => x.into.length - (intOf i).toNat)
  case atStart => exact ⟨0, wq, Nat.zero_le _, rfl, rfl, by omega⟩
  case round =>
    obtain ⟨k, x_, hk, rfl, rfl, hj⟩ := hrel
    have HJ := Lib.hid hj
    have R7 := r7 x_
    have S7 := s7 x_
    clear hj
    by_cases hlt : k < x.into.length
    · have hlt2 : k < y.into.length := by have := HQ.out; omega
      have k2 : (k : Int) < y.into.length := by omega
      obtain ⟨_, _, eu, ku⟩ := Rd_Inn (HU.out.below (wat_below x_))
      cases eu
      obtain ⟨_, _, ev, kv⟩ := Rd_Inn (HV.out.below (wat_below x_))
      cases ev
      have e0 := wat_cell (ku.c0 k hlt)
      have f0 := wat_cell (kv.c0 k hlt2)
      obtain ⟨a', c', e1, h1⟩ := ku.c1 k hlt
      obtain ⟨b', d', f1, g1⟩ := kv.c1 k hlt2
      replace e1 := wat_cell e1
      replace f1 := wat_cell f1
      have Z7 := wat_cell R7
      have T7 := wat_cell S7
      have HC := Lib.hid (fun z : Wd (wat x_) => callsQ (l00Same_c Any Any a' b' c' d' (nthInn x.into k).bag (nthInn y.into k).bag (wat z) (h1.below (wat_below z)) (g1.below (wat_below z))))
      clear ku kv h1 g1 r0 r1 r2 r3 r4 r5 r6 r7 r8 s0 s1 s2 s3 s4 s5 s6 s7 s8
      cases p0 : ((nthInn x.into k).cell != (nthInn y.into k).cell)
      rotate_left
      · have HP : Hid (innB (nthInn x.into k) (nthInn y.into k) = false) := Lib.hid (by
          have : ((nthInn x.into k).cell == (nthInn y.into k).cell) = false := by simpa using p0
          simp only [innB, this, Bool.false_and])
        have HR : Hid (ruleB x y = false) := Lib.hid (by rw [ruleB, eqInn_false hlt HP.out, Bool.and_false])
        go_wp2
        refine wp_quiet_wd (by kernel_rfl) (by kernel_rfl) ?_
        repeat (go_big_quiet_step (fail))
        refine wpQuiet_nil ?_
        rintro _ ⟨wz, rfl⟩
        go_wp2
        go_ret
        exact ⟨ret_bool HR.out.symm, bnext (wat_below x_) (wat_below wz) (Nat.le_refl _)⟩
      · have P0 : Hid (((nthInn x.into k).cell == (nthInn y.into k).cell) = true) := Lib.hid (by simpa using p0)
        cases p1 : eqI (nthInn x.into k).bag (nthInn y.into k).bag
        · have HP : Hid (innB (nthInn x.into k) (nthInn y.into k) = false) := Lib.hid (by simp only [innB, p1, Bool.and_false])
          rw [p1] at HC
          have HR : Hid (ruleB x y = false) := Lib.hid (by rw [ruleB, eqInn_false hlt HP.out, Bool.and_false])
          go_wp2
          refine wp_quiet_wd (by kernel_rfl) (by kernel_rfl) ?_
          repeat (go_big_quiet_step (with_reducible exact wdV (HC.out _)))
          refine wpQuiet_nil ?_
          rintro _ ⟨wz, rfl⟩
          go_wp2
          go_ret
          exact ⟨ret_bool HR.out.symm, bnext (wat_below x_) (wat_below wz) (Nat.le_refl _)⟩
        · have HP : Hid (innB (nthInn x.into k) (nthInn y.into k) = true) := Lib.hid (by simp only [innB, p1, P0.out, Bool.and_self])
          rw [p1] at HC
          go_wp2
          refine wp_quiet_wd (by kernel_rfl) (by kernel_rfl) ?_
          repeat (go_big_quiet_step (with_reducible exact wdV (HC.out _)))
          refine wpQuiet_nil ?_
          rintro _ ⟨wz, rfl⟩
          obtain ⟨z, hz⟩ := wd_up wz
          have HZ := Lib.hid hz
          clear hz
          go_wp2
          go_roundw
          case rel => exact ⟨k + 1, z, by omega, by go_num, HZ.out, upto HJ.out HP.out⟩
          case measure => simp [intOf]; omega
    · have e : k = x.into.length := by omega
      have HI := Lib.hid (eqInn_true HQ.out (e ▸ HJ.out))
      clear e
      have R0_ := wat_cell (r0 x_)
      have S0_ := wat_cell (s0 x_)
      have R1_ := wat_cell (r1 x_)
      have S1_ := wat_cell (s1 x_)
      have R2_ := wat_cell (r2 x_)
      have S2_ := wat_cell (s2 x_)
      have R3_ := wat_cell (r3 x_)
      have S3_ := wat_cell (s3 x_)
      have R4_ := wat_cell (r4 x_)
      have S4_ := wat_cell (s4 x_)
      have R5_ := wat_cell (r5 x_)
      have S5_ := wat_cell (s5 x_)
      have R6_ := wat_cell (r6 x_)
      have S6_ := wat_cell (s6 x_)
      have R7_ := wat_cell (r7 x_)
      have S7_ := wat_cell (s7 x_)
      have R8_ := wat_cell (r8 x_)
      have S8_ := wat_cell (s8 x_)
      have J2 := Lib.hid (fun z : Wd (wat x_) => (show Calls Try.prog 102 #[.slice a2 x.need.length c2, .slice b2 y.need.length d2] (wat z) (RetV (wat z) (.bool (eqI x.need y.need))) from H2.out (wd_mk z)))
      have J3 := Lib.hid (fun z : Wd (wat x_) => (show Calls Try.prog 102 #[.slice a3 x.have_.length c3, .slice b3 y.have_.length d3] (wat z) (RetV (wat z) (.bool (eqI x.have_ y.have_))) from H3.out (wd_mk z)))
      have J4 := Lib.hid (fun z : Wd (wat x_) => (show Calls Try.prog 102 #[.slice a4 x.lack.length c4, .slice b4 y.lack.length d4] (wat z) (RetV (wat z) (.bool (eqI x.lack y.lack))) from H4.out (wd_mk z)))
      have J5 := Lib.hid (fun z : Wd (wat x_) => (show Calls Try.prog 102 #[.slice a5 x.here.length c5, .slice b5 y.here.length d5] (wat z) (RetV (wat z) (.bool (eqI x.here y.here))) from H5.out (wd_mk z)))
      have J6 := Lib.hid (fun z : Wd (wat x_) => (show Calls Try.prog 102 #[.slice a6 x.out.length c6, .slice b6 y.out.length d6] (wat z) (RetV (wat z) (.bool (eqI x.out y.out))) from H6.out (wd_mk z)))
      clear r0 r1 r2 r3 r4 r5 r6 r7 r8 s0 s1 s2 s3 s4 s5 s6 s7 s8
      cases k0 : eqI x.need y.need
      · have HR : Hid (ruleB x y = false) := Lib.hid (by simp only [ruleB, k0, Bool.false_and, Bool.and_false])
        rw [k0] at J2
        go_wp2
        refine wp_quiet_wd (by kernel_rfl) (by kernel_rfl) ?_
        repeat (go_big_quiet_step ((first | with_reducible exact wdV (J2.out _) | with_reducible exact wdV (J3.out _) | with_reducible exact wdV (J4.out _) | with_reducible exact wdV (J5.out _) | with_reducible exact wdV (J6.out _))))
        refine wpQuiet_nil ?_
        rintro _ ⟨wz, rfl⟩
        go_wp2
        go_ret
        exact ⟨ret_bool HR.out.symm, bnext (wat_below x_) (wat_below wz) (Nat.le_refl _)⟩
      · have K0 := Lib.hid k0
        rw [k0] at J2
        clear k0
        cases k1 : eqI x.have_ y.have_
        · have HR : Hid (ruleB x y = false) := Lib.hid (by simp only [ruleB, k1, Bool.false_and, Bool.and_false])
          rw [k1] at J3
          go_wp2
          refine wp_quiet_wd (by kernel_rfl) (by kernel_rfl) ?_
          repeat (go_big_quiet_step ((first | with_reducible exact wdV (J2.out _) | with_reducible exact wdV (J3.out _) | with_reducible exact wdV (J4.out _) | with_reducible exact wdV (J5.out _) | with_reducible exact wdV (J6.out _))))
          refine wpQuiet_nil ?_
          rintro _ ⟨wz, rfl⟩
          go_wp2
          go_ret
          exact ⟨ret_bool HR.out.symm, bnext (wat_below x_) (wat_below wz) (Nat.le_refl _)⟩
        · have K1 := Lib.hid k1
          rw [k1] at J3
          clear k1
          cases k2 : eqI x.lack y.lack
          · have HR : Hid (ruleB x y = false) := Lib.hid (by simp only [ruleB, k2, Bool.false_and, Bool.and_false])
            rw [k2] at J4
            go_wp2
            refine wp_quiet_wd (by kernel_rfl) (by kernel_rfl) ?_
            repeat (go_big_quiet_step ((first | with_reducible exact wdV (J2.out _) | with_reducible exact wdV (J3.out _) | with_reducible exact wdV (J4.out _) | with_reducible exact wdV (J5.out _) | with_reducible exact wdV (J6.out _))))
            refine wpQuiet_nil ?_
            rintro _ ⟨wz, rfl⟩
            go_wp2
            go_ret
            exact ⟨ret_bool HR.out.symm, bnext (wat_below x_) (wat_below wz) (Nat.le_refl _)⟩
          · have K2 := Lib.hid k2
            rw [k2] at J4
            clear k2
            cases k3 : eqI x.here y.here
            · have HR : Hid (ruleB x y = false) := Lib.hid (by simp only [ruleB, k3, Bool.false_and, Bool.and_false])
              rw [k3] at J5
              go_wp2
              refine wp_quiet_wd (by kernel_rfl) (by kernel_rfl) ?_
              repeat (go_big_quiet_step ((first | with_reducible exact wdV (J2.out _) | with_reducible exact wdV (J3.out _) | with_reducible exact wdV (J4.out _) | with_reducible exact wdV (J5.out _) | with_reducible exact wdV (J6.out _))))
              refine wpQuiet_nil ?_
              rintro _ ⟨wz, rfl⟩
              go_wp2
              go_ret
              exact ⟨ret_bool HR.out.symm, bnext (wat_below x_) (wat_below wz) (Nat.le_refl _)⟩
            · have K3 := Lib.hid k3
              rw [k3] at J5
              clear k3
              cases k4 : eqI x.out y.out
              · have HR : Hid (ruleB x y = false) := Lib.hid (by simp only [ruleB, k4, Bool.false_and, Bool.and_false])
                rw [k4] at J6
                go_wp2
                refine wp_quiet_wd (by kernel_rfl) (by kernel_rfl) ?_
                repeat (go_big_quiet_step ((first | with_reducible exact wdV (J2.out _) | with_reducible exact wdV (J3.out _) | with_reducible exact wdV (J4.out _) | with_reducible exact wdV (J5.out _) | with_reducible exact wdV (J6.out _))))
                refine wpQuiet_nil ?_
                rintro _ ⟨wz, rfl⟩
                go_wp2
                go_ret
                exact ⟨ret_bool HR.out.symm, bnext (wat_below x_) (wat_below wz) (Nat.le_refl _)⟩
              · have K4 := Lib.hid k4
                rw [k4] at J6
                clear k4
                have HR : Hid (ruleB x y = true) := Lib.hid (by simp only [ruleB, C0.out, C1.out, C2.out, HI.out, K0.out, K1.out, K2.out, K3.out, K4.out, Bool.and_self])
                go_wp2
                refine wp_quiet_wd (by kernel_rfl) (by kernel_rfl) ?_
                repeat (go_big_quiet_step ((first | with_reducible exact wdV (J2.out _) | with_reducible exact wdV (J3.out _) | with_reducible exact wdV (J4.out _) | with_reducible exact wdV (J5.out _) | with_reducible exact wdV (J6.out _))))
                refine wpQuiet_nil ?_
                rintro _ ⟨wz, rfl⟩
                go_wp2
                go_ret
                exact ⟨ret_bool HR.out.symm, bnext (wat_below x_) (wat_below wz) (Nat.le_refl _)⟩
set_option maxHeartbeats 4000000 in
theorem specSameSystem_d (x0 : Int) (x1 : List Int) (x2 : List Rul) (y0 : Int) (y1 : List Int) (y2 : List Rul) {u1 u2 v1 v2 : Value} (w : World) (hx1 : Rd Any w (dI x1) u1) (hx2 : Rd Any w (dRul x2) u2) (hy1 : Rd Any w (dI y1) v1) (hy2 : Rd Any w (dRul y2) v2) :
    Calls Try.prog 33 #[.agg #[.int .i64 x0, u1, u2], .agg #[.int .i64 y0, v1, v2]] w (RetV w (.bool (sameSys x0 x1 x2 y0 y1 y2))) := by
  obtain ⟨a1, c1, rfl, kx1⟩ := Rd_I.1 hx1
  obtain ⟨b1, d1, rfl, ky1⟩ := Rd_I.1 hy1
  have gx2 := hx2
  have gy2 := hy2
  obtain ⟨a2, c2, rfl, kx2⟩ := Rd_Rul hx2
  obtain ⟨b2, d2, rfl, ky2⟩ := Rd_Rul hy2
  have m1 := kx2.len
  have m2 := ky2.len
  unfold maxLen at m1 m2
  have i1 := ix_of (P := Try.prog) tabRuleSM.under tabRuleSM.size kx2.ptr c2
  have i2 := ix_of (P := Try.prog) tabRuleSM.under tabRuleSM.size ky2.ptr d2
  have hb : Below w.heap.size w ((w.alloc (.cells #[.int .i64 x0, .slice a1 x1.length c1, .slice a2 x2.length c2] 54)).alloc (.cells #[.int .i64 y0, .slice b1 y1.length d1, .slice b2 y2.length d2] 54)) := ((Below.refl _ _).alloc (Nat.le_refl _) _).alloc (by simp) _
  have HC := Lib.hid (fun n => l00Same_c Any Any a1 b1 c1 d1 x1 y1 _ (kx1.below (hb.trans (below_drewN _ _ n))) (ky1.below (hb.trans (below_drewN _ _ n))))
  have HX := Lib.hid gx2
  have HY := Lib.hid gy2
  have HB := Lib.hid hb
  clear hb hx1 hy1 hx2 hy2 kx1 ky1 gx2 gy2 kx2 ky2
  cases h : (x0 != y0)
  rotate_left
  · have HR : Hid (sameSys x0 x1 x2 y0 y1 y2 = false) := Lib.hid (by
      have : (x0 == y0) = false := by simpa using h
      simp only [sameSys, this, Bool.false_and])
    go_enter Try.func33, Try.ntmps33
    go_wp2
    go_ret
    exact ⟨ret_bool HR.out.symm, HB.out⟩
  · have H0 : Hid ((x0 == y0) = true) := Lib.hid (by simpa using h)
    go_enter Try.func33, Try.ntmps33
    go_wp2_with fail
    refine (HC.out 0).mono ?_
    rintro e w' ⟨rfl, n, rfl⟩
    cases k1 : eqI x1 y1
    · have HR : Hid (sameSys x0 x1 x2 y0 y1 y2 = false) := Lib.hid (by simp only [sameSys, k1, Bool.false_and, Bool.and_false])
      go_wp2
      go_ret
      exact ⟨ret_bool HR.out.symm, HB.out.trans ((below_drewN _ _ 0).trans (below_drewN _ _ _))⟩
    · have K1 := Lib.hid k1
      cases k2 : ((x2.length : Int) != y2.length)
      rotate_left
      · have HR : Hid (sameSys x0 x1 x2 y0 y1 y2 = false) := Lib.hid (by
          have : eqRul x2 y2 = false := eqRul_len (by simp at k2; omega)
          simp only [sameSys, this, Bool.and_false])
        go_wp2
        go_ret
        exact ⟨ret_bool HR.out.symm, HB.out.trans ((below_drewN _ _ 0).trans (below_drewN _ _ _))⟩
      · have HQ : Hid (x2.length = y2.length) := Lib.hid (by simp at k2; omega)
        clear k1
        have F0 := wat_cell (show ((w.alloc (.cells #[.int .i64 x0, .slice a1 x1.length c1, .slice a2 x2.length c2] 54)).alloc (.cells #[.int .i64 y0, .slice b1 y1.length d1, .slice b2 y2.length d2] 54)).cell? ⟨w.heap.size, 2, none⟩ = some (.slice a2 x2.length c2) by simp [go_sem])
        have F1 := wat_cell (show ((w.alloc (.cells #[.int .i64 x0, .slice a1 x1.length c1, .slice a2 x2.length c2] 54)).alloc (.cells #[.int .i64 y0, .slice b1 y1.length d1, .slice b2 y2.length d2] 54)).cell? ⟨w.heap.size + 1, 2, none⟩ = some (.slice b2 y2.length d2) by simp [go_sem])
        go_wp2
        go_loopw [5] (fun i wr => ∃ (k : Nat) (x_ : Wd ((w.alloc (.cells #[.int .i64 x0, .slice a1 x1.length c1, .slice a2 x2.length c2] 54)).alloc (.cells #[.int .i64 y0, .slice b1 y1.length d1, .slice b2 y2.length d2] 54))), k ≤ x2.length ∧ i = .int .i64 k ∧ wr = wat x_ ∧ (∀ j, j < k → ruleB (nthRul x2 j) (nthRul y2 j) = true)) (fun i _ => x2.length - (intOf i).toNat)
        case atStart => exact ⟨0, ⟨_, (by exact (below_drewN _ _ 0).trans (below_drewN _ _ _))⟩, Nat.zero_le _, rfl, rfl, by omega⟩
        case round =>
          obtain ⟨k, x_, hk, rfl, rfl, hj⟩ := hrel
          have HJ := Lib.hid hj
          have R7 := F0 x_
          have S7 := F1 x_
          have HBX : Hid (Below w.heap.size w (wat x_)) := Lib.hid (HB.out.trans ((wat_below x_).mono (by simp <;> omega)))
          clear hj
          by_cases hlt : k < x2.length
          · have hlt2 : k < y2.length := by have := HQ.out; omega
            have k3 : (k : Int) < y2.length := by omega
            obtain ⟨_, _, eu, ku⟩ := Rd_Rul (HX.out.below HBX.out)
            cases eu
            obtain ⟨_, _, ev, kv⟩ := Rd_Rul (HY.out.below HBX.out)
            cases ev
            have e0 := ku.c0 k hlt
            have e1 := ku.c1 k hlt
            obtain ⟨ea2, ec2, e2, eh2⟩ := ku.c2 k hlt
            obtain ⟨ea3, ec3, e3, eh3⟩ := ku.c3 k hlt
            obtain ⟨ea4, ec4, e4, eh4⟩ := ku.c4 k hlt
            obtain ⟨ea5, ec5, e5, eh5⟩ := ku.c5 k hlt
            obtain ⟨ea6, ec6, e6, eh6⟩ := ku.c6 k hlt
            obtain ⟨ea7, ec7, e7, eh7⟩ := ku.c7 k hlt
            have e8 := ku.c8 k hlt
            have f0 := kv.c0 k hlt2
            have f1 := kv.c1 k hlt2
            obtain ⟨fa2, fc2, f2, fh2⟩ := kv.c2 k hlt2
            obtain ⟨fa3, fc3, f3, fh3⟩ := kv.c3 k hlt2
            obtain ⟨fa4, fc4, f4, fh4⟩ := kv.c4 k hlt2
            obtain ⟨fa5, fc5, f5, fh5⟩ := kv.c5 k hlt2
            obtain ⟨fa6, fc6, f6, fh6⟩ := kv.c6 k hlt2
            obtain ⟨fa7, fc7, f7, fh7⟩ := kv.c7 k hlt2
            have f8 := kv.c8 k hlt2
            have Z7 := wat_cell R7
            have T7 := wat_cell S7
            obtain ⟨ga, oa, rfl⟩ := ku.ptr (by omega)
            obtain ⟨gb, ob, rfl⟩ := kv.ptr (by omega)
            have HC := Lib.hid (fun z : Wd (wat x_) => show Calls Try.prog 103 #[.pointer (some (adr (some ⟨ga, oa, none⟩) (k * 9))), .pointer (some (adr (some ⟨gb, ob, none⟩) (k * 9)))] (wat z) (RetV (wat z) (.bool (ruleB (nthRul x2 k) (nthRul y2 k)))) from l02SameRule_c (nthRul x2 k) (nthRul y2 k) ga (oa + k * 9) gb (ob + k * 9) ea2 fa2 ea3 fa3 ea4 fa4 ea5 fa5 ea6 fa6 ea7 fa7 ec2 fc2 ec3 fc3 ec4 fc4 ec5 fc5 ec6 fc6 ec7 fc7 (wat z) (eh2.below (wat_below z)) (fh2.below (wat_below z)) (eh3.below (wat_below z)) (fh3.below (wat_below z)) (eh4.below (wat_below z)) (fh4.below (wat_below z)) (eh5.below (wat_below z)) (fh5.below (wat_below z)) (eh6.below (wat_below z)) (fh6.below (wat_below z)) (eh7.below (wat_below z)) (fh7.below (wat_below z)) (wat_cell e0 z) (wat_cell e1 z) (wat_cell e2 z) (wat_cell e3 z) (wat_cell e4 z) (wat_cell e5 z) (wat_cell e6 z) (wat_cell e7 z) (wat_cell e8 z) (wat_cell f0 z) (wat_cell f1 z) (wat_cell f2 z) (wat_cell f3 z) (wat_cell f4 z) (wat_cell f5 z) (wat_cell f6 z) (wat_cell f7 z) (wat_cell f8 z))
            clear ku kv eh2 fh2 eh3 fh3 eh4 fh4 eh5 fh5 eh6 fh6 eh7 fh7
            clear e0 f0 e1 f1 e2 f2 e3 f3 e4 f4 e5 f5 e6 f6 e7 f7 e8 f8
            cases hp : ruleB (nthRul x2 k) (nthRul y2 k)
            · have HR : Hid (sameSys x0 x1 x2 y0 y1 y2 = false) := Lib.hid (by rw [sameSys, eqRul_false hlt hp, Bool.and_false])
              rw [hp] at HC
              clear hp
              go_wp2
              refine wp_quiet_wd (by kernel_rfl) (by kernel_rfl) ?_
              repeat (go_big_quiet_step (with_reducible exact wdV (HC.out _)))
              refine wpQuiet_nil ?_
              rintro _ ⟨wq, rfl⟩
              go_wp2
              go_ret
              exact ⟨ret_bool HR.out.symm, bnext HBX.out (wat_below wq) (Nat.le_refl _)⟩
            · have HP := Lib.hid hp
              rw [hp] at HC
              clear hp
              go_wp2
              refine wp_quiet_wd (by kernel_rfl) (by kernel_rfl) ?_
              repeat (go_big_quiet_step (with_reducible exact wdV (HC.out _)))
              refine wpQuiet_nil ?_
              rintro _ ⟨wq, rfl⟩
              obtain ⟨z, hz⟩ := wd_up wq
              have HZ := Lib.hid hz
              clear hz
              go_wp2
              go_roundw
              case rel => exact ⟨k + 1, z, by omega, by go_num, HZ.out, upto HJ.out HP.out⟩
              case measure => simp [intOf]; omega
          · have e : k = x2.length := by omega
            have HR : Hid (sameSys x0 x1 x2 y0 y1 y2 = true) := Lib.hid (by rw [sameSys, H0.out, K1.out, eqRul_true HQ.out (e ▸ HJ.out)]; rfl)
            go_wp2
            go_ret
            exact ⟨ret_bool HR.out.symm, HBX.out⟩
end Go.Proofs.Ytdcpdipakglnnaa
