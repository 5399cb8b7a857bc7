/- Systems compared: what it is, and the program's functions. Written by mkss.py. -/
import Derived.Test.YtdcpdipakglnnaaTR
import Derived.Test.YtdcpdipakglnnaaYR
import Derived.Test.YtdcpdipakglnnaaQV
import Derived.Test.YtdcpdipakglnnaaK
namespace Go.Proofs.Ytdcpdipakglnnaa
open Go.RowKit

def innB (a b : Inn) : Bool := (a.cell == b.cell) && eqI a.bag b.bag
def eqInn (xs ys : List Inn) : Bool := decide (xs.length = ys.length) && (List.range xs.length).all fun i => innB (nthInn xs i) (nthInn ys i)
theorem eqInn_len {xs ys : List Inn} (h : ¬ xs.length = ys.length) : eqInn xs ys = false := by simp [eqInn, h]
theorem eqInn_true {xs ys : List Inn} (h : xs.length = ys.length) (h2 : ∀ j, j < xs.length → innB (nthInn xs j) (nthInn ys j) = true) : eqInn xs ys = true := by
  rw [eqInn, h]
  simp only [decide_true, Bool.true_and]
  rw [List.all_eq_true]; intro j hj; exact h2 j (by rw [h]; simpa using hj)
theorem eqInn_false {xs ys : List Inn} {k : Nat} (hk : k < xs.length) (h : innB (nthInn xs k) (nthInn ys k) = false) : eqInn xs ys = false := by
  have : ((List.range xs.length).all fun i => innB (nthInn xs i) (nthInn ys i)) = false := by
    rw [List.all_eq_false]; exact ⟨k, by simpa using hk, by rw [h]; simp⟩
  rw [eqInn, this, Bool.and_false]
def ruleB (x y : Rul) : Bool := (x.cell == y.cell) && (x.rank == y.rank) && eqI x.need y.need && eqI x.have_ y.have_ && eqI x.lack y.lack && eqI x.here y.here && eqI x.out y.out && (x.melts == y.melts) && eqInn x.into y.into
def eqRul (xs ys : List Rul) : Bool := decide (xs.length = ys.length) && (List.range xs.length).all fun i => ruleB (nthRul xs i) (nthRul ys i)
theorem eqRul_len {xs ys : List Rul} (h : ¬ xs.length = ys.length) : eqRul xs ys = false := by simp [eqRul, h]
theorem eqRul_true {xs ys : List Rul} (h : xs.length = ys.length) (h2 : ∀ j, j < xs.length → ruleB (nthRul xs j) (nthRul ys j) = true) : eqRul xs ys = true := by
  rw [eqRul, h]
  simp only [decide_true, Bool.true_and]
  rw [List.all_eq_true]; intro j hj; exact h2 j (by rw [h]; simpa using hj)
theorem eqRul_false {xs ys : List Rul} {k : Nat} (hk : k < xs.length) (h : ruleB (nthRul xs k) (nthRul ys k) = false) : eqRul xs ys = false := by
  have : ((List.range xs.length).all fun i => ruleB (nthRul xs i) (nthRul ys i)) = false := by
    rw [List.all_eq_false]; exact ⟨k, by simpa using hk, by rw [h]; simp⟩
  rw [eqRul, this, Bool.and_false]
def sameSys (x0 : Int) (x1 : List Int) (x2 : List Rul) (y0 : Int) (y1 : List Int) (y2 : List Rul) : Bool := (x0 == y0) && eqI x1 y1 && eqRul x2 y2
set_option maxHeartbeats 1000000 in
theorem sameInn_c (x y : Inn) (a1 b1 : Option Addr) (c1 d1 : Nat) (w : World) (h1 : SlI Any w a1 x.bag) (g1 : SlI Any w b1 y.bag) :
    Calls Try.prog 162 #[.agg #[.int .i64 x.cell, .slice a1 x.bag.length c1], .agg #[.int .i64 y.cell, .slice b1 y.bag.length d1]] w (RetV w (.bool (innB x y))) := by
  have hb : Below w.heap.size w ((w.alloc (.cells #[.int .i64 x.cell, .slice a1 x.bag.length c1] 190)).alloc (.cells #[.int .i64 y.cell, .slice b1 y.bag.length d1] 190)) := ((Below.refl _ _).alloc (Nat.le_refl _) _).alloc (by simp) _
  have HC := Lib.hid (slicesEqualI_c Any Any a1 b1 c1 d1 x.bag y.bag _ (h1.below hb) (g1.below hb))
  have HB := Lib.hid hb
  clear hb
  cases h : (x.cell == y.cell)
  · have e : innB x y = false := by simp [innB, h]
    rw [e]; clear e
    go_enter Try.func162, Try.ntmps162
    go_wp2
    go_ret
    exact ⟨rfl, HB.out⟩
  · have e : innB x y = eqI x.bag y.bag := by simp [innB, h]
    rw [e]; clear e
    go_enter Try.func162, Try.ntmps162
    go_wp2_with fail
    refine HC.out.mono ?_
    rintro e w' ⟨rfl, n, rfl⟩
    go_wp2
    go_ret
    exact ⟨rfl, HB.out.trans (below_drewN _ _ _)⟩
set_option maxHeartbeats 4000000 in
theorem equalFuncInn_c (xs ys : List Inn) (u v : Value) (w : World) (hx : Rd Any w (dInn xs) u) (hy : Rd Any w (dInn ys) v) :
    Calls Try.prog 161 #[u, v, .func (.func 162) #[] #[]] w (RetV w (.bool (eqInn xs ys))) := by
  obtain ⟨a, c, rfl, hxs⟩ := Rd_Inn hx
  obtain ⟨b, d, rfl, hys⟩ := Rd_Inn hy
  have l1 := hxs.len
  have l2 := hys.len
  unfold maxLen at l1 l2
  cases hl : ((xs.length : Int) != ys.length)
  · have hq : xs.length = ys.length := by simp at hl; omega
    have HQ := Lib.hid hq
    clear hq
    have i1 := ix_of (P := Try.prog) tabIntoSM.under tabIntoSM.size hxs.ptr c
    have i2 := ix_of (P := Try.prog) tabIntoSM.under tabIntoSM.size hys.ptr d
    clear hxs hys
    go_enter Try.func161, Try.ntmps161
    go_wp2
    go_loopw [7, 8, 9, 17] (fun _ _ _ i wr => ∃ k : Nat, k ≤ xs.length ∧ i = .int .i64 k ∧ Below w.heap.size w wr ∧ (∀ j, j < k → innB (nthInn xs j) (nthInn ys j) = true)) (fun _ _ _ i _ => xs.length - (intOf i).toNat)
    case atStart => exact ⟨0, Nat.zero_le _, rfl, Below.refl _ _, by omega⟩
    case round =>
        obtain ⟨k, hk, rfl, hb, hj⟩ := hrel
        have HJ := Lib.hid hj
        have HB := Lib.hid hb
        clear hj hb
        by_cases hlt : k < xs.length
        · have hlt2 : k < ys.length := by have := HQ.out; omega
          have k2 : (k : Int) < ys.length := by omega
          obtain ⟨_, _, ex, hxs⟩ := Rd_Inn (hx.below HB.out)
          obtain ⟨_, _, ey, hys⟩ := Rd_Inn (hy.below HB.out)
          cases ex
          cases ey
          have xg0 := hxs.c0 k hlt
          obtain ⟨x1, xc1, xg1, xh1⟩ := hxs.c1 k hlt
          have yg0 := hys.c0 k hlt2
          obtain ⟨y1, yc1, yg1, yh1⟩ := hys.c1 k hlt2
          have HC := Lib.hid (fun (wx : World) (hb : Below wr.heap.size wr wx) => sameInn_c (nthInn xs k) (nthInn ys k) x1 y1 xc1 yc1 wx (xh1.below hb) (yh1.below hb))
          have hz := HB.out.size
          have YF0 := fun o => ((below_alloc wr o).cell (World.block_lt_of_cell? wr _ yg0)).trans yg0
          have YF1 := fun o => ((below_alloc wr o).cell (World.block_lt_of_cell? wr _ yg1)).trans yg1
          clear hxs hys xh1 yh1 yg0 yg1
          cases hp : innB (nthInn xs k) (nthInn ys k)
          · have HP := Lib.hid hp
            rw [hp] at HC
            clear hp
            go_wp2_with fail
            refine (HC.out _ (by repeat (first | exact Below.refl _ _ | refine Below.alloc ?_ (by simp <;> omega) _))).mono ?_
            rintro e w' ⟨rfl, hb'⟩
            have hbb := HB.out.trans (((show Below wr.heap.size wr _ by repeat (first | exact Below.refl _ _ | refine Below.alloc ?_ (by simp <;> omega) _)).trans (hb'.mono (by simp <;> omega))).mono hz)
            clear hb' xg0 xg1 YF0 YF1
            go_wp2
            go_ret
            exact ⟨ret_bool (eqInn_false hlt HP.out).symm, hbb⟩
          · have HP := Lib.hid hp
            rw [hp] at HC
            clear hp
            go_wp2_with fail
            refine (HC.out _ (by repeat (first | exact Below.refl _ _ | refine Below.alloc ?_ (by simp <;> omega) _))).mono ?_
            rintro e w' ⟨rfl, hb'⟩
            have hbb := HB.out.trans (((show Below wr.heap.size wr _ by repeat (first | exact Below.refl _ _ | refine Below.alloc ?_ (by simp <;> omega) _)).trans (hb'.mono (by simp <;> omega))).mono hz)
            clear hb' xg0 xg1 YF0 YF1
            go_wp2
            go_roundw
            case rel => exact ⟨k + 1, by omega, by go_num, hbb, upto HJ.out HP.out⟩
            case measure => simp [intOf]; omega
        · go_wp2
          go_ret
          have e : k = xs.length := by omega
          exact ⟨ret_bool (eqInn_true HQ.out (e ▸ HJ.out)).symm, HB.out⟩
  · have hq : ¬ xs.length = ys.length := by simp at hl; omega
    have HQ := Lib.hid hq
    clear hq
    go_enter Try.func161, Try.ntmps161
    go_wp2
    go_ret
    exact ⟨ret_bool (eqInn_len HQ.out).symm, Below.refl _ _⟩
set_option maxHeartbeats 4000000 in
theorem sameRule_c (x y : Rul) (mx my : Bool) (hmx : mx = x.melts) (hmy : my = y.melts) (an bn ah bh al bl ae be aq bq : Option Addr) (cn dn ch dh cl dl ce de cq dq : Nat) (ux uy : Value) (w : World) (hn : SlI Any w an x.need) (gn : SlI Any w bn y.need) (hh : SlI Any w ah x.have_) (gh : SlI Any w bh y.have_) (hl : SlI Any w al x.lack) (gl : SlI Any w bl y.lack) (he : SlI Any w ae x.here) (ge : SlI Any w be y.here) (hq : SlI Any w aq x.out) (gq : SlI Any w bq y.out) (hu : Rd Any w (dInn x.into) ux) (hv : Rd Any w (dInn y.into) uy) :
    Calls Try.prog 107 #[.agg #[.int .i64 x.cell, .int .i64 x.rank, .slice an x.need.length cn, .slice ah x.have_.length ch, .slice al x.lack.length cl, .slice ae x.here.length ce, .slice aq x.out.length cq, ux, .bool mx], .agg #[.int .i64 y.cell, .int .i64 y.rank, .slice bn y.need.length dn, .slice bh y.have_.length dh, .slice bl y.lack.length dl, .slice be y.here.length de, .slice bq y.out.length dq, uy, .bool my]] w (RetV w (.bool (ruleB x y))) := by
  have hb : Below w.heap.size w ((w.alloc (.cells #[.int .i64 x.cell, .int .i64 x.rank, .slice an x.need.length cn, .slice ah x.have_.length ch, .slice al x.lack.length cl, .slice ae x.here.length ce, .slice aq x.out.length cq, ux, .bool mx] 136)).alloc (.cells #[.int .i64 y.cell, .int .i64 y.rank, .slice bn y.need.length dn, .slice bh y.have_.length dh, .slice bl y.lack.length dl, .slice be y.here.length de, .slice bq y.out.length dq, uy, .bool my] 136)) := ((Below.refl _ _).alloc (Nat.le_refl _) _).alloc (by simp) _
  have Hn := Lib.hid (fun n => slicesEqualI_c Any Any an bn cn dn x.need y.need _ (hn.below (hb.trans (below_drewN _ ((w.alloc (.cells #[.int .i64 x.cell, .int .i64 x.rank, .slice an x.need.length cn, .slice ah x.have_.length ch, .slice al x.lack.length cl, .slice ae x.here.length ce, .slice aq x.out.length cq, ux, .bool mx] 136)).alloc (.cells #[.int .i64 y.cell, .int .i64 y.rank, .slice bn y.need.length dn, .slice bh y.have_.length dh, .slice bl y.lack.length dl, .slice be y.here.length de, .slice bq y.out.length dq, uy, .bool my] 136)) n))) (gn.below (hb.trans (below_drewN _ ((w.alloc (.cells #[.int .i64 x.cell, .int .i64 x.rank, .slice an x.need.length cn, .slice ah x.have_.length ch, .slice al x.lack.length cl, .slice ae x.here.length ce, .slice aq x.out.length cq, ux, .bool mx] 136)).alloc (.cells #[.int .i64 y.cell, .int .i64 y.rank, .slice bn y.need.length dn, .slice bh y.have_.length dh, .slice bl y.lack.length dl, .slice be y.here.length de, .slice bq y.out.length dq, uy, .bool my] 136)) n))))
  have Hh := Lib.hid (fun n => slicesEqualI_c Any Any ah bh ch dh x.have_ y.have_ _ (hh.below (hb.trans (below_drewN _ ((w.alloc (.cells #[.int .i64 x.cell, .int .i64 x.rank, .slice an x.need.length cn, .slice ah x.have_.length ch, .slice al x.lack.length cl, .slice ae x.here.length ce, .slice aq x.out.length cq, ux, .bool mx] 136)).alloc (.cells #[.int .i64 y.cell, .int .i64 y.rank, .slice bn y.need.length dn, .slice bh y.have_.length dh, .slice bl y.lack.length dl, .slice be y.here.length de, .slice bq y.out.length dq, uy, .bool my] 136)) n))) (gh.below (hb.trans (below_drewN _ ((w.alloc (.cells #[.int .i64 x.cell, .int .i64 x.rank, .slice an x.need.length cn, .slice ah x.have_.length ch, .slice al x.lack.length cl, .slice ae x.here.length ce, .slice aq x.out.length cq, ux, .bool mx] 136)).alloc (.cells #[.int .i64 y.cell, .int .i64 y.rank, .slice bn y.need.length dn, .slice bh y.have_.length dh, .slice bl y.lack.length dl, .slice be y.here.length de, .slice bq y.out.length dq, uy, .bool my] 136)) n))))
  have Hl := Lib.hid (fun n => slicesEqualI_c Any Any al bl cl dl x.lack y.lack _ (hl.below (hb.trans (below_drewN _ ((w.alloc (.cells #[.int .i64 x.cell, .int .i64 x.rank, .slice an x.need.length cn, .slice ah x.have_.length ch, .slice al x.lack.length cl, .slice ae x.here.length ce, .slice aq x.out.length cq, ux, .bool mx] 136)).alloc (.cells #[.int .i64 y.cell, .int .i64 y.rank, .slice bn y.need.length dn, .slice bh y.have_.length dh, .slice bl y.lack.length dl, .slice be y.here.length de, .slice bq y.out.length dq, uy, .bool my] 136)) n))) (gl.below (hb.trans (below_drewN _ ((w.alloc (.cells #[.int .i64 x.cell, .int .i64 x.rank, .slice an x.need.length cn, .slice ah x.have_.length ch, .slice al x.lack.length cl, .slice ae x.here.length ce, .slice aq x.out.length cq, ux, .bool mx] 136)).alloc (.cells #[.int .i64 y.cell, .int .i64 y.rank, .slice bn y.need.length dn, .slice bh y.have_.length dh, .slice bl y.lack.length dl, .slice be y.here.length de, .slice bq y.out.length dq, uy, .bool my] 136)) n))))
  have He := Lib.hid (fun n => slicesEqualI_c Any Any ae be ce de x.here y.here _ (he.below (hb.trans (below_drewN _ ((w.alloc (.cells #[.int .i64 x.cell, .int .i64 x.rank, .slice an x.need.length cn, .slice ah x.have_.length ch, .slice al x.lack.length cl, .slice ae x.here.length ce, .slice aq x.out.length cq, ux, .bool mx] 136)).alloc (.cells #[.int .i64 y.cell, .int .i64 y.rank, .slice bn y.need.length dn, .slice bh y.have_.length dh, .slice bl y.lack.length dl, .slice be y.here.length de, .slice bq y.out.length dq, uy, .bool my] 136)) n))) (ge.below (hb.trans (below_drewN _ ((w.alloc (.cells #[.int .i64 x.cell, .int .i64 x.rank, .slice an x.need.length cn, .slice ah x.have_.length ch, .slice al x.lack.length cl, .slice ae x.here.length ce, .slice aq x.out.length cq, ux, .bool mx] 136)).alloc (.cells #[.int .i64 y.cell, .int .i64 y.rank, .slice bn y.need.length dn, .slice bh y.have_.length dh, .slice bl y.lack.length dl, .slice be y.here.length de, .slice bq y.out.length dq, uy, .bool my] 136)) n))))
  have Hq := Lib.hid (fun n => slicesEqualI_c Any Any aq bq cq dq x.out y.out _ (hq.below (hb.trans (below_drewN _ ((w.alloc (.cells #[.int .i64 x.cell, .int .i64 x.rank, .slice an x.need.length cn, .slice ah x.have_.length ch, .slice al x.lack.length cl, .slice ae x.here.length ce, .slice aq x.out.length cq, ux, .bool mx] 136)).alloc (.cells #[.int .i64 y.cell, .int .i64 y.rank, .slice bn y.need.length dn, .slice bh y.have_.length dh, .slice bl y.lack.length dl, .slice be y.here.length de, .slice bq y.out.length dq, uy, .bool my] 136)) n))) (gq.below (hb.trans (below_drewN _ ((w.alloc (.cells #[.int .i64 x.cell, .int .i64 x.rank, .slice an x.need.length cn, .slice ah x.have_.length ch, .slice al x.lack.length cl, .slice ae x.here.length ce, .slice aq x.out.length cq, ux, .bool mx] 136)).alloc (.cells #[.int .i64 y.cell, .int .i64 y.rank, .slice bn y.need.length dn, .slice bh y.have_.length dh, .slice bl y.lack.length dl, .slice be y.here.length de, .slice bq y.out.length dq, uy, .bool my] 136)) n))))
  have HI := Lib.hid (fun n => equalFuncInn_c x.into y.into ux uy (((w.alloc (.cells #[.int .i64 x.cell, .int .i64 x.rank, .slice an x.need.length cn, .slice ah x.have_.length ch, .slice al x.lack.length cl, .slice ae x.here.length ce, .slice aq x.out.length cq, ux, .bool mx] 136)).alloc (.cells #[.int .i64 y.cell, .int .i64 y.rank, .slice bn y.need.length dn, .slice bh y.have_.length dh, .slice bl y.lack.length dl, .slice be y.here.length de, .slice bq y.out.length dq, uy, .bool my] 136)).drewN n) (hu.below (hb.trans (below_drewN _ _ n))) (hv.below (hb.trans (below_drewN _ _ n))))
  obtain ⟨_, _, ex, _⟩ := Rd_Inn hu
  subst ex
  obtain ⟨_, _, ey, _⟩ := Rd_Inn hv
  subst ey
  have HMX := Lib.hid hmx
  have HMY := Lib.hid hmy
  clear hmx hmy
  have HB := Lib.hid hb
  clear hb hu hv hn gn hh gh hl gl he ge hq gq
  cases k0 : (x.cell == y.cell)
  · have e : ruleB x y = false := by simp only [ruleB, k0, Bool.false_and]
    rw [e]
    clear e
    go_enter Try.func107, Try.ntmps107
    go_wp2
    go_ret
    exact ⟨rfl, HB.out⟩
  · cases k1 : (x.rank == y.rank)
    · have e : ruleB x y = false := by simp only [ruleB, k1, Bool.false_and, Bool.and_false]
      rw [e]
      clear e
      go_enter Try.func107, Try.ntmps107
      go_wp2
      go_ret
      exact ⟨rfl, HB.out⟩
    · cases k2 : eqI x.need y.need
      · have e : ruleB x y = false := by simp only [ruleB, k2, Bool.false_and, Bool.and_false]
        rw [e]
        rw [k2] at Hn
        clear e
        go_enter Try.func107, Try.ntmps107
        go_wp2_with fail
        refine (Hn.out 0).mono ?_
        rintro e w' ⟨rfl, n0, rfl⟩
        go_wp2
        go_ret
        exact ⟨rfl, HB.out.trans (below_drewN _ _ _)⟩
      · rw [k2] at Hn
        cases k3 : eqI x.have_ y.have_
        · have e : ruleB x y = false := by simp only [ruleB, k3, Bool.false_and, Bool.and_false]
          rw [e]
          rw [k3] at Hh
          clear e
          go_enter Try.func107, Try.ntmps107
          go_wp2_with fail
          refine (Hn.out 0).mono ?_
          rintro e w' ⟨rfl, n0, rfl⟩
          go_wp2_with fail
          refine (Hh.out _).mono ?_
          rintro e w' ⟨rfl, n1, rfl⟩
          go_wp2
          go_ret
          exact ⟨rfl, HB.out.trans (below_drewN _ _ _)⟩
        · rw [k3] at Hh
          cases k4 : eqI x.lack y.lack
          · have e : ruleB x y = false := by simp only [ruleB, k4, Bool.false_and, Bool.and_false]
            rw [e]
            rw [k4] at Hl
            clear e
            go_enter Try.func107, Try.ntmps107
            go_wp2_with fail
            refine (Hn.out 0).mono ?_
            rintro e w' ⟨rfl, n0, rfl⟩
            go_wp2_with fail
            refine (Hh.out _).mono ?_
            rintro e w' ⟨rfl, n1, rfl⟩
            go_wp2_with fail
            refine (Hl.out _).mono ?_
            rintro e w' ⟨rfl, n2, rfl⟩
            go_wp2
            go_ret
            exact ⟨rfl, HB.out.trans (below_drewN _ _ _)⟩
          · rw [k4] at Hl
            cases k5 : eqI x.here y.here
            · have e : ruleB x y = false := by simp only [ruleB, k5, Bool.false_and, Bool.and_false]
              rw [e]
              rw [k5] at He
              clear e
              go_enter Try.func107, Try.ntmps107
              go_wp2_with fail
              refine (Hn.out 0).mono ?_
              rintro e w' ⟨rfl, n0, rfl⟩
              go_wp2_with fail
              refine (Hh.out _).mono ?_
              rintro e w' ⟨rfl, n1, rfl⟩
              go_wp2_with fail
              refine (Hl.out _).mono ?_
              rintro e w' ⟨rfl, n2, rfl⟩
              go_wp2_with fail
              refine (He.out _).mono ?_
              rintro e w' ⟨rfl, n3, rfl⟩
              go_wp2
              go_ret
              exact ⟨rfl, HB.out.trans (below_drewN _ _ _)⟩
            · rw [k5] at He
              cases k6 : eqI x.out y.out
              · have e : ruleB x y = false := by simp only [ruleB, k6, Bool.false_and, Bool.and_false]
                rw [e]
                rw [k6] at Hq
                clear e
                go_enter Try.func107, Try.ntmps107
                go_wp2_with fail
                refine (Hn.out 0).mono ?_
                rintro e w' ⟨rfl, n0, rfl⟩
                go_wp2_with fail
                refine (Hh.out _).mono ?_
                rintro e w' ⟨rfl, n1, rfl⟩
                go_wp2_with fail
                refine (Hl.out _).mono ?_
                rintro e w' ⟨rfl, n2, rfl⟩
                go_wp2_with fail
                refine (He.out _).mono ?_
                rintro e w' ⟨rfl, n3, rfl⟩
                go_wp2_with fail
                refine (Hq.out _).mono ?_
                rintro e w' ⟨rfl, n4, rfl⟩
                go_wp2
                go_ret
                exact ⟨rfl, HB.out.trans (below_drewN _ _ _)⟩
              · rw [k6] at Hq
                cases mx <;> cases my
                · have e : ruleB x y = eqInn x.into y.into := by
                    simp only [ruleB, k0, k1, k2, k3, k4, k5, k6, ← HMX.out, ← HMY.out, Bool.true_and, beq_self_eq_true]
                  rw [e]
                  clear e
                  go_enter Try.func107, Try.ntmps107
                  go_wp2_with fail
                  refine (Hn.out 0).mono ?_
                  rintro e w' ⟨rfl, n0, rfl⟩
                  go_wp2_with fail
                  refine (Hh.out _).mono ?_
                  rintro e w' ⟨rfl, n1, rfl⟩
                  go_wp2_with fail
                  refine (Hl.out _).mono ?_
                  rintro e w' ⟨rfl, n2, rfl⟩
                  go_wp2_with fail
                  refine (He.out _).mono ?_
                  rintro e w' ⟨rfl, n3, rfl⟩
                  go_wp2_with fail
                  refine (Hq.out _).mono ?_
                  rintro e w' ⟨rfl, n4, rfl⟩
                  go_wp2_with fail
                  refine (HI.out _).mono ?_
                  rintro e w9 ⟨rfl, hb9⟩
                  have HB9 := Lib.hid (HB.out.trans (((below_drewN _ _ _).trans hb9).mono (by simp <;> omega)))
                  clear hb9
                  go_wp2
                  go_ret
                  exact ⟨rfl, HB9.out⟩
                · have e : ruleB x y = false := by
                    simp only [ruleB, k0, k1, k2, k3, k4, k5, k6, ← HMX.out, ← HMY.out, Bool.true_and]
                    rfl
                  rw [e]
                  clear e
                  go_enter Try.func107, Try.ntmps107
                  go_wp2_with fail
                  refine (Hn.out 0).mono ?_
                  rintro e w' ⟨rfl, n0, rfl⟩
                  go_wp2_with fail
                  refine (Hh.out _).mono ?_
                  rintro e w' ⟨rfl, n1, rfl⟩
                  go_wp2_with fail
                  refine (Hl.out _).mono ?_
                  rintro e w' ⟨rfl, n2, rfl⟩
                  go_wp2_with fail
                  refine (He.out _).mono ?_
                  rintro e w' ⟨rfl, n3, rfl⟩
                  go_wp2_with fail
                  refine (Hq.out _).mono ?_
                  rintro e w' ⟨rfl, n4, rfl⟩
                  go_wp2
                  go_ret
                  exact ⟨rfl, HB.out.trans (below_drewN _ _ _)⟩
                · have e : ruleB x y = false := by
                    simp only [ruleB, k0, k1, k2, k3, k4, k5, k6, ← HMX.out, ← HMY.out, Bool.true_and]
                    rfl
                  rw [e]
                  clear e
                  go_enter Try.func107, Try.ntmps107
                  go_wp2_with fail
                  refine (Hn.out 0).mono ?_
                  rintro e w' ⟨rfl, n0, rfl⟩
                  go_wp2_with fail
                  refine (Hh.out _).mono ?_
                  rintro e w' ⟨rfl, n1, rfl⟩
                  go_wp2_with fail
                  refine (Hl.out _).mono ?_
                  rintro e w' ⟨rfl, n2, rfl⟩
                  go_wp2_with fail
                  refine (He.out _).mono ?_
                  rintro e w' ⟨rfl, n3, rfl⟩
                  go_wp2_with fail
                  refine (Hq.out _).mono ?_
                  rintro e w' ⟨rfl, n4, rfl⟩
                  go_wp2
                  go_ret
                  exact ⟨rfl, HB.out.trans (below_drewN _ _ _)⟩
                · have e : ruleB x y = eqInn x.into y.into := by
                    simp only [ruleB, k0, k1, k2, k3, k4, k5, k6, ← HMX.out, ← HMY.out, Bool.true_and, beq_self_eq_true]
                  rw [e]
                  clear e
                  go_enter Try.func107, Try.ntmps107
                  go_wp2_with fail
                  refine (Hn.out 0).mono ?_
                  rintro e w' ⟨rfl, n0, rfl⟩
                  go_wp2_with fail
                  refine (Hh.out _).mono ?_
                  rintro e w' ⟨rfl, n1, rfl⟩
                  go_wp2_with fail
                  refine (Hl.out _).mono ?_
                  rintro e w' ⟨rfl, n2, rfl⟩
                  go_wp2_with fail
                  refine (He.out _).mono ?_
                  rintro e w' ⟨rfl, n3, rfl⟩
                  go_wp2_with fail
                  refine (Hq.out _).mono ?_
                  rintro e w' ⟨rfl, n4, rfl⟩
                  go_wp2_with fail
                  refine (HI.out _).mono ?_
                  rintro e w9 ⟨rfl, hb9⟩
                  have HB9 := Lib.hid (HB.out.trans (((below_drewN _ _ _).trans hb9).mono (by simp <;> omega)))
                  clear hb9
                  go_wp2
                  go_ret
                  exact ⟨rfl, HB9.out⟩
end Go.Proofs.Ytdcpdipakglnnaa
