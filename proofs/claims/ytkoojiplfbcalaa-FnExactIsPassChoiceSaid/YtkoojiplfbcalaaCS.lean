/- IsPassChoice: the reference's function. Written by mkcr.py. -/
import Derived.Test.YtkoojiplfbcalaaSI
import Derived.Test.YtkoojiplfbcalaaCB
import Derived.Test.YtkoojiplfbcalaaRM
namespace Go.Proofs.Ytkoojiplfbcalaa
open Go.RowKit

theorem busy_hit {x3 : List PR} {cs : List Int} {c : Int} {i : Nat} (h1 : (nthPR x3 i).cell = c) (h2 : 0 < nth cs i) : ∀ n, i < n → busyTo x3 cs 2 c n = true
  | n + 1, hn => by
    rw [busyTo]
    by_cases e : i = n
    · subst e; simp [h1, h2]
    · rw [busy_hit h1 h2 n (by omega)]; rfl
theorem busy_off {x3 : List PR} {cs : List Int} {c mode : Int} (h : (mode == 2) = false) : ∀ n, busyTo x3 cs mode c n = false
  | 0 => rfl
  | n + 1 => by rw [busyTo, busy_off h n, h]; simp
theorem room_ref {K : Nat} {x1 : List Int} {x2 : List Bool} {x3 : List PR} {y0 : List (List Int)} {y1 : List Int} {cs : List Int} (h : PsOk K x1 x2 x3) (hs : StOk K x1.length y0 y1) (hc : ∀ j, 0 ≤ nth cs j ∧ nth cs j ≤ 1000) (hl : cs.length = x3.length) {q : Nat} (hq : q < x3.length)
    (hf : fitsB x1 x2 x3 (bagsS y0 y1) cs = true) :
    (decide (nth cs q < 1000) && (takeF (cellN (nthPR x3 q) * K) (upN x1 (nthPR x3 q) * K) x2 (nthPR x3 q) 1 (leftF K x1 x2 x3 cs (bagsS y0 y1).flatten x3.length).1 K).2) = roomS x1 x2 x3 (bagsS y0 y1) cs q := by
  have hc1 : cntBd cs := fun j => by have := hc j; omega
  have := hc q
  by_cases e : nth cs q < 1000
  · rw [decide_eq_true e, Bool.true_and]
    exact room_fits h hs hc hl hq hf ((leftF_at h hs hc1 _ (Nat.le_refl _)).2 (by rw [left_fits h hs hc1 hl]; exact hf))
  · rw [decide_eq_false e, Bool.false_and]
    exact (over_fits h hs hc hl hq (by omega)).symm
/-- What IsPassChoice returns. -/
def choiceS (x0 : Int) (x1 : List Int) (x2 : List Bool) (x3 : List PR) (y0 : List (List Int)) (y1 : List Int) (cs : List Int) (mode : Int) : Bool × Int :=
  if passCodeS x0 x1 x2 x3 y0 y1 cs = 0 then (if inRg mode 1 3 = true then (fitsB x1 x2 x3 (bagsS y0 y1) cs && chosenS x1 x2 x3 (bagsS y0 y1) cs mode, 0) else (false, 2)) else (false, passCodeS x0 x1 x2 x3 y0 y1 cs)
theorem l06Mode_c (m : Int) (w : World) : Calls Try.prog 63 #[.int .i64 m] w (RetP w (.bool (inRg m 1 3))) := by
  go_enter Try.func63, Try.ntmps63
  go_wp2_with fail
  refine (l00In_c _ _ _ _).mono ?_
  rintro e w' ⟨rfl, rfl⟩
  go_wp2
  go_ret
  exact ⟨rfl, rfl⟩
/-- A guarded call that hands back one value, at a step of a region that draws its order. -/
theorem step_callW {P : Program} {ops : Array Oper} {o : Oper} {ac : Act} {w : World} {K : Act → World → Prop} {Q : Exit → Act → World → Prop} {X : Prop} (hw : Region.wanted o (yielded ops ac.tmps) = true) (f : FuncId) (xs : Array Operand) (ts : Array TypeId)
    (ho : o.op = .call { callee := .value (.func f), args := xs, argTypes := ts }) (hrun : ∀ args w, (callFunc f args).run P w = .ok (.enter f args) w) (vs : Array Value) (hv : xs.map ac.eval = vs) {R : Ending → World → Prop}
    (h : Calls P f vs w R) (hK : ∀ e w', R e w' → ∃ v, e = .returned v ∧ K (ac.put o.dst v) w') : if Region.wanted o (yielded ops ac.tmps) = true then Oper.wp P o ac w K Q else X := by
  rw [if_pos hw]
  unfold Oper.wp execOp
  simp only [ho, resolve, Act.eval, Deferred.ofValue, Sem.run_bind, Sem.run_pure, Result.andThen_ok, invoke, Array.append_empty]
  rw [show xs.map (Act.eval ac) = vs from hv]
  simp only [Array.empty_append, hrun, Oper.upon_enter]
  refine h.mono fun e w' hR => ?_
  obtain ⟨v, he, hk⟩ := hK e w' hR
  subst he
  exact hk
set_option maxHeartbeats 2000000 in
set_option maxRecDepth 100000 in
theorem l06Busy_c (x3 : List PR) (a3 : Option Addr) (c3 p : Nat) (bc : Option Addr) (cc : Nat) (cs : List Int) (k : Nat) (w : World) (h3 : Rd Any w (dPR x3) (.slice a3 x3.length c3)) (kc : SlI Any w bc cs) (hp3 : w.cell? ⟨p, 3, none⟩ = some (.slice a3 x3.length c3)) (hk : k < x3.length) (hcl : cs.length = x3.length) :
    Calls Try.prog 135 #[.pointer (some ⟨p, 0, none⟩), .slice bc cs.length cc, .int .i64 k] w (RetV w (.bool (busyTo x3 cs 2 (nthPR x3 k).cell cs.length))) := by
  obtain ⟨_, _, ex, hxs⟩ := Rd_PR h3
  cases ex
  have i4 := ix_of (P := Try.prog) tabPassRuleSM.under tabPassRuleSM.size hxs.ptr c3
  have ic := kc.ix tabI.under tabI.size cc
  have l3 := kc.len
  unfold maxLen at l3
  have zp := World.block_lt_of_cell? w _ hp3
  have hk0 := hxs.c0 k hk
  obtain ⟨c, hc⟩ : ∃ c, c = (nthPR x3 k).cell := ⟨_, rfl⟩
  rw [← hc] at hk0 ⊢
  have HX := Lib.hid hxs
  have HK := Lib.hid kc
  have HCLN := Lib.hid hcl
  have hkx : (k : Int) < x3.length := by omega
  have HK0 := Lib.hid hk0
  have HP3 := Lib.hid hp3
  clear hc hxs kc h3 hcl hk0 hp3
  go_enter Try.func135, Try.ntmps135
  go_wp2
  go_loopw [7] (fun i wr => ∃ j : Nat, j ≤ cs.length ∧ i = .int .i64 j ∧ Hid (Below w.heap.size w wr) ∧ Hid (busyTo x3 cs 2 c j = false)) (fun i _ => cs.length - (intOf i).toNat)
  case atStart => exact ⟨0, Nat.zero_le _, rfl, Lib.hid (Below.refl _ _), Lib.hid rfl⟩
  case round =>
    obtain ⟨j, hj, rfl, HB, HJ⟩ := hrel
    by_cases hlt : j < cs.length
    · have hj3 : j < x3.length := by rw [← HCLN.out]; exact hlt
      have gp := (bcell1 HB.out zp).trans HP3.out
      have gc := (HK.out.below HB.out).cell j hlt
      have gr := (HB.out.cell (World.block_lt_of_cell? w _ (HX.out.c0 j hj3))).trans (HX.out.c0 j hj3)
      have gk := (HB.out.cell (World.block_lt_of_cell? w _ HK0.out)).trans HK0.out
      obtain ⟨n, hn⟩ : ∃ n, n = nth cs j := ⟨_, rfl⟩
      obtain ⟨d, hd⟩ : ∃ d, d = (nthPR x3 j).cell := ⟨_, rfl⟩
      rw [← hn] at gc
      rw [← hd] at gr
      have HBT : Hid (busyTo x3 cs 2 c (j + 1) = (busyTo x3 cs 2 c j || ((d == c) && decide (0 < n)))) := Lib.hid (by rw [busyTo, ← hd, ← hn]; simp)
      have HHIT : Hid (d = c → 0 < n → busyTo x3 cs 2 c cs.length = true) := Lib.hid (fun e1 e2 => busy_hit (i := j) (by rw [← hd]; exact e1) (by rw [← hn]; exact e2) _ hlt)
      clear hn hd
      have HD : ∀ m, Hid (Below w.heap.size w (wr.drewN m)) := fun m => Lib.hid (HB.out.trans (below_drewN _ _ _))
      cases hd : decide (0 < n)
      · have HJ2 : Hid (busyTo x3 cs 2 c (j + 1) = false) := Lib.hid (by rw [HBT.out, HJ.out, hd]; simp)
        clear HBT HHIT
        go_wp2
        go_quiet (fail)
        go_wp2
        first
          | (go_roundw
             case rel => exact ⟨j + 1, by omega, by go_num, HD _, HJ2⟩
             case measure => simp [intOf]; omega)
          | (refine ⟨⟨j + 1, by omega, by go_num, HD _, HJ2⟩, ?_⟩
             simp [intOf]; omega)
      · cases he : d == c
        · have HJ2 : Hid (busyTo x3 cs 2 c (j + 1) = false) := Lib.hid (by rw [HBT.out, HJ.out, he]; simp)
          clear HBT HHIT
          go_wp2
          go_quiet (fail)
          go_wp2
          first
            | (go_roundw
               case rel => exact ⟨j + 1, by omega, by go_num, HD _, HJ2⟩
               case measure => simp [intOf]; omega)
            | (refine ⟨⟨j + 1, by omega, by go_num, HD _, HJ2⟩, ?_⟩
               simp [intOf]; omega)
        · have HT : Hid (busyTo x3 cs 2 c cs.length = true) := Lib.hid (HHIT.out (by simpa using he) (by simpa using hd))
          clear HBT HHIT
          go_wp2
          go_quiet (fail)
          go_wp2
          go_ret
          exact ⟨ret_bool HT.out.symm, (HD _).out⟩
    · obtain rfl : j = cs.length := by omega
      go_wp2
      go_ret
      exact ⟨ret_bool HJ.out.symm, HB.out⟩
set_option maxHeartbeats 4000000 in
set_option maxRecDepth 100000 in
theorem l06Room_c (K : Nat) (x1 : List Int) (x2 : List Bool) (x3 : List PR) (a1 a2 a3 : Option Addr) (c1 c2 c3 : Nat) (k : Nat) (xs : List Int) (g0 cg0 : Nat) (p : Nat) (bc : Option Addr) (cc : Nat) (cs : List Int) (w : World) (h1 : SlI Any w a1 x1) (h2 : SlB Any w a2 x2) (h3 : Rd Any w (dPR x3) (.slice a3 x3.length c3)) (hp0 : w.cell? ⟨p, 0, none⟩ = some (.int .i64 K)) (hp1 : w.cell? ⟨p, 1, none⟩ = some (.slice a1 x1.length c1)) (hp2 : w.cell? ⟨p, 2, none⟩ = some (.slice a2 x2.length c2)) (hp3 : w.cell? ⟨p, 3, none⟩ = some (.slice a3 x3.length c3)) (hps : PsOk K x1 x2 x3) (hk : k < x3.length) (kc : SlI Any w bc cs) (hcl : cs.length = x3.length) (hl : SlI Any w (some ⟨g0, 0, none⟩) xs) (hlen : xs.length = (x1.length + 1) * K) :
    Calls Try.prog 136 #[.pointer (some ⟨p, 0, none⟩), .slice (some ⟨g0, 0, none⟩) xs.length cg0, .slice bc cs.length cc, .int .i64 k] w (RetV w (.bool (decide (nth cs k < 1000) && (takeF (cellN (nthPR x3 k) * K) (upN x1 (nthPR x3 k) * K) x2 (nthPR x3 k) 1 xs K).2))) := by
  have ic := kc.ix tabI.under tabI.size cc
  have l3 := kc.len
  have hm := small_mul (k := x1.length + 1) (K := K) (n := 5) (by have := hps.p4; omega) hps.k8
  have hpos : 0 < xs.length := by rw [hlen]; exact Nat.mul_pos (by omega) hps.k1
  have zp := World.block_lt_of_cell? w _ hp3
  obtain ⟨_, _, ex, hxs⟩ := Rd_PR h3
  cases ex
  have i4 := ix_of (P := Try.prog) tabPassRuleSM.under tabPassRuleSM.size hxs.ptr c3
  have gc := kc.cell k (by omega)
  have zc := World.block_lt_of_cell? w _ gc
  have hkx : (k : Int) < x3.length := by omega
  have hkc : (k : Int) < cs.length := by omega
  have HFX : Hid (∀ wx, Below w.heap.size w wx → Calls Try.prog 100 #[.slice (some ⟨g0, 0, none⟩) xs.length cg0] wx (RetB 2 wx xs)) := Lib.hid (fun wx h => l00OwnB_c Any (some ⟨g0, 0, none⟩) cg0 xs wx (hl.below h) ⟨_, rfl⟩ (by omega))
  have HTX : Hid (∀ g cg wx, Below w.heap.size w wx → Bld 2 wx w.heap.size (.slice (some ⟨g, 0, none⟩) xs.length cg) (xs.map (.int .i64)) → Calls Try.prog 133 #[.pointer (some ⟨p, 0, none⟩), .slice (some ⟨g, 0, none⟩) xs.length cg, .pointer (some ⟨blk a3, ofs a3 + k * 3, none⟩), .int .i64 1] wx (fun e w' => TakePost w.heap.size g xs.length cg (takeF (cellN (nthPR x3 k) * K) (upN x1 (nthPR x3 k) * K) x2 (nthPR x3 k) 1 xs K) e w' ∧ Below w.heap.size wx w')) := Lib.hid (fun g cg wx h hbl => take_at K x1 x2 x3 a1 a2 a3 c1 c2 c3 k 1 xs g cg p w wx h1 h2 h3 hp0 hp1 hp2 hp3 hps hk h hbl hlen)
  have hrunT := callFunc_run Try.func133 (by kernel_rfl) rfl
  have hrunF := callFunc_run Try.func100 (by kernel_rfl) rfl
  obtain ⟨n, hn⟩ : ∃ n, n = nth cs k := ⟨_, rfl⟩
  rw [← hn] at gc ⊢
  have HFL := Lib.hid hpos
  have F3 := Lib.hid hp3
  clear hn hxs h1 h2 h3 hp0 hp1 hp2 hps kc hcl hl hlen hm hpos
  cases hd : decide (n < 1000)
  · rw [Bool.false_and]
    go_enter Try.func136, Try.ntmps136
    go_wp2
    go_quiet (fail)
    go_wp2
    go_ret
    exact ⟨rfl, below_drewN _ _ _⟩
  · rw [Bool.true_and]
    go_enter Try.func136, Try.ntmps136
    go_wp2
    have hS0 : w.drew.cell? (adr bc k) = some (.int .i64 n) ∧ w.drew.cell? ⟨p, 3, none⟩ = some (.slice a3 x3.length c3) := ⟨gc, F3.out⟩
    refine wp_region_C (n := 18) (l := #[false, false, false, false, false, false, false, false, false, false, false, false, false, false, false, false, false, false]) (fun wx => wx.cell? (adr bc k) = some (.int .i64 n) ∧ wx.cell? ⟨p, 3, none⟩ = some (.slice a3 x3.length c3)) [] (by kernel_rfl) rfl rfl ?_
    refine wpC_take (i := 0) (v := ?v0_1) (l' := #[true, false, false, false, false, false, false, false, false, false, false, false, false, false, false, false, false, false]) [2, 3, 4, 5, 6, 7, 8, 9, 10, 11, 12, 13, 14, 15, 16, 17] rfl (by kernel_rfl) (by kernel_rfl) (by kernel_rfl) (by kernel_rfl) (by kernel_rfl) rfl (fun _ _ _ h => h) (by rfl) (fun wx hS => ?q0_1) (by assumption) ?_
    case q0_1 => (go_simp; try with_reducible rfl)
    try simp only [List.getElem_toArray, List.getElem_cons_zero, Act.put, List.setIfInBounds_toArray, List.set_cons_zero, List.set_cons_succ]
    refine wpC_take (i := 1) (v := ?v1_2) (l' := #[true, true, false, false, false, false, false, false, false, false, false, false, false, false, false, false, false, false]) [2, 3, 4, 5, 6, 7, 8, 9, 10, 11, 12, 13, 14, 15, 16, 17] rfl (by kernel_rfl) (by kernel_rfl) (by kernel_rfl) (by kernel_rfl) (by kernel_rfl) rfl (fun _ _ _ h => h) (by rfl) (fun wx hS => ?q1_2) (by assumption) ?_
    case q1_2 => (go_simp; try with_reducible rfl)
    try simp only [List.getElem_toArray, List.getElem_cons_succ, List.getElem_cons_zero, Act.put, List.setIfInBounds_toArray, List.set_cons_zero, List.set_cons_succ]
    refine wpC_take (i := 2) (v := ?v2_3) (l' := #[true, true, true, false, false, false, false, false, false, false, false, false, false, false, false, false, false, false]) [3, 4, 5, 6, 7, 8, 9, 10, 11, 12, 13, 14, 15, 16, 17] rfl (by kernel_rfl) (by kernel_rfl) (by kernel_rfl) (by kernel_rfl) (by kernel_rfl) rfl (fun _ _ _ h => h) (by rfl) (fun wx hS => ?q2_3) (by assumption) ?_
    case q2_3 => (go_simp; try with_reducible rfl)
    try simp only [List.getElem_toArray, List.getElem_cons_succ, List.getElem_cons_zero, Act.put, List.setIfInBounds_toArray, List.set_cons_zero, List.set_cons_succ]
    refine wpC_take (i := 3) (v := ?v3_4) (l' := #[true, true, true, true, false, false, false, false, false, false, false, false, false, false, false, false, false, false]) [4, 5, 6, 7, 8, 9, 10, 11, 12, 13, 14, 15, 16, 17] rfl (by kernel_rfl) (by kernel_rfl) (by kernel_rfl) (by kernel_rfl) (by kernel_rfl) rfl (fun _ _ _ h => h) (by rfl) (fun wx hS => ?q3_4) (by assumption) ?_
    case q3_4 => ((try dsimp only at hS); obtain ⟨hS1, hS2⟩ := hS; go_simp; try with_reducible rfl)
    try simp only [List.getElem_toArray, List.getElem_cons_succ, List.getElem_cons_zero, Act.put, List.setIfInBounds_toArray, List.set_cons_zero, List.set_cons_succ]
    refine wpC_take (i := 4) (v := ?v4_5) (l' := #[true, true, true, true, true, false, false, false, false, false, false, false, false, false, false, false, false, false]) [5, 6, 7, 8, 9, 10, 11, 12, 13, 14, 15, 16, 17] rfl (by kernel_rfl) (by kernel_rfl) (by kernel_rfl) (by kernel_rfl) (by kernel_rfl) rfl (fun _ _ _ h => h) (by rfl) (fun wx hS => ?q4_5) (by assumption) ?_
    case q4_5 => (go_simp; try with_reducible rfl)
    try simp only [List.getElem_toArray, List.getElem_cons_succ, List.getElem_cons_zero, Act.put, List.setIfInBounds_toArray, List.set_cons_zero, List.set_cons_succ]
    refine wpC_take (i := 5) (v := ?v5_6) (l' := #[true, true, true, true, true, true, false, false, false, false, false, false, false, false, false, false, false, false]) [6, 7, 8, 9, 10, 11, 12, 13, 14, 15, 16, 17] rfl (by kernel_rfl) (by kernel_rfl) (by kernel_rfl) (by kernel_rfl) (by kernel_rfl) rfl (fun _ _ _ h => h) (by rfl) (fun wx hS => ?q5_6) (by assumption) ?_
    case q5_6 => (go_simp; try with_reducible rfl)
    try simp only [List.getElem_toArray, List.getElem_cons_succ, List.getElem_cons_zero, Act.put, List.setIfInBounds_toArray, List.set_cons_zero, List.set_cons_succ]
    refine wpC_take (i := 6) (v := ?v6_7) (l' := #[true, true, true, true, true, true, true, false, false, false, false, false, false, false, false, false, false, false]) [15, 16, 17] rfl (by kernel_rfl) (by kernel_rfl) (by kernel_rfl) (by kernel_rfl) (by kernel_rfl) rfl (fun _ _ _ h => h) (by rfl) (fun wx hS => ?q6_7) (by assumption) ?_
    case q6_7 => (go_simp; try with_reducible rfl)
    try simp only [List.getElem_toArray, List.getElem_cons_succ, List.getElem_cons_zero, Act.put, List.setIfInBounds_toArray, List.set_cons_zero, List.set_cons_succ]
    refine wpC_take (i := 7) (v := ?v7_8) (l' := #[true, true, true, true, true, true, true, true, false, false, false, false, false, false, false, false, false, false]) [8, 15, 16, 17] rfl (by kernel_rfl) (by kernel_rfl) (by kernel_rfl) (by kernel_rfl) (by kernel_rfl) rfl (fun _ _ _ h => h) (by rfl) (fun wx hS => ?q7_8) (by assumption) ?_
    case q7_8 => (go_simp; try with_reducible rfl)
    try simp only [List.getElem_toArray, List.getElem_cons_succ, List.getElem_cons_zero, Act.put, List.setIfInBounds_toArray, List.set_cons_zero, List.set_cons_succ]
    refine wpC_take (i := 9) (v := ?v9_9) (l' := #[true, true, true, true, true, true, true, true, false, true, false, false, false, false, false, false, false, false]) [10, 11, 12, 14, 15, 16, 17] rfl (by kernel_rfl) (by kernel_rfl) (by kernel_rfl) (by kernel_rfl) (by kernel_rfl) rfl (fun _ _ _ h => h) (by rfl) (fun wx hS => ?q9_9) (by assumption) ?_
    case q9_9 => (go_simp; try with_reducible rfl)
    try simp only [List.getElem_toArray, List.getElem_cons_succ, List.getElem_cons_zero, Act.put, List.setIfInBounds_toArray, List.set_cons_zero, List.set_cons_succ]
    refine wpC_take (i := 10) (v := ?v10_10) (l' := #[true, true, true, true, true, true, true, true, false, true, true, false, false, false, false, false, false, false]) [11, 12, 14, 15, 16, 17] rfl (by kernel_rfl) (by kernel_rfl) (by kernel_rfl) (by kernel_rfl) (by kernel_rfl) rfl (fun _ _ _ h => h) (by rfl) (fun wx hS => ?q10_10) (by assumption) ?_
    case q10_10 => (go_simp; try with_reducible rfl)
    try simp only [List.getElem_toArray, List.getElem_cons_succ, List.getElem_cons_zero, Act.put, List.setIfInBounds_toArray, List.set_cons_zero, List.set_cons_succ]
    refine wpC_take (i := 11) (v := ?v11_11) (l' := #[true, true, true, true, true, true, true, true, false, true, true, true, false, false, false, false, false, false]) [12, 14, 15, 16, 17] rfl (by kernel_rfl) (by kernel_rfl) (by kernel_rfl) (by kernel_rfl) (by kernel_rfl) rfl (fun _ _ _ h => h) (by rfl) (fun wx hS => ?q11_11) (by assumption) ?_
    case q11_11 => (go_simp; try with_reducible rfl)
    try simp only [List.getElem_toArray, List.getElem_cons_succ, List.getElem_cons_zero, Act.put, List.setIfInBounds_toArray, List.set_cons_zero, List.set_cons_succ]
    refine wpC_take (i := 12) (v := ?v12_12) (l' := #[true, true, true, true, true, true, true, true, false, true, true, true, true, false, false, false, false, false]) [14, 15, 16, 17] rfl (by kernel_rfl) (by kernel_rfl) (by kernel_rfl) (by kernel_rfl) (by kernel_rfl) rfl (fun _ _ _ h => h) (by rfl) (fun wx hS => ?q12_12) (by assumption) ?_
    case q12_12 => ((try dsimp only at hS); obtain ⟨hS1, hS2⟩ := hS; go_simp; try with_reducible rfl)
    try simp only [List.getElem_toArray, List.getElem_cons_succ, List.getElem_cons_zero, Act.put, List.setIfInBounds_toArray, List.set_cons_zero, List.set_cons_succ]
    refine wpC_take (i := 13) (v := ?v13_13) (l' := #[true, true, true, true, true, true, true, true, false, true, true, true, true, true, false, false, false, false]) [14, 15, 16, 17] rfl (by kernel_rfl) (by kernel_rfl) (by kernel_rfl) (by kernel_rfl) (by kernel_rfl) rfl (fun _ _ _ h => h) (by rfl) (fun wx hS => ?q13_13) (by assumption) ?_
    case q13_13 => (go_simp; try with_reducible rfl)
    try simp only [List.getElem_toArray, List.getElem_cons_succ, List.getElem_cons_zero, Act.put, List.setIfInBounds_toArray, List.set_cons_zero, List.set_cons_succ]
    refine wpC_take (i := 14) (v := ?v14_14) (l' := #[true, true, true, true, true, true, true, true, false, true, true, true, true, true, true, false, false, false]) [15, 16, 17] rfl (by kernel_rfl) (by kernel_rfl) (by kernel_rfl) (by kernel_rfl) (by kernel_rfl) rfl (fun _ _ _ h => h) (by rfl) (fun wx hS => ?q14_14) (by assumption) ?_
    case q14_14 => (go_simp; try with_reducible rfl)
    try simp only [List.getElem_toArray, List.getElem_cons_succ, List.getElem_cons_zero, Act.put, List.setIfInBounds_toArray, List.set_cons_zero, List.set_cons_succ]
    refine wpC_one (i := 8) (l' := #[true, true, true, true, true, true, true, true, true, true, true, true, true, true, true, false, false, false]) (by kernel_rfl) rfl rfl (by rfl) (fun Kr hKr => ?_)
    refine step_callW (by rfl) 100 _ _ rfl hrunF #[.slice (some ⟨g0, 0, none⟩) xs.length cg0] (by first | rfl | (simp [Act.eval]; done) | (simp [Act.eval]; rfl) | (simp [Act.eval]; repeat' constructor)) (HFX.out _ (Below.drew (Below.refl _ _))) ?_
    rintro e w4 ⟨v4, rfl, hb4, hbl4⟩
    obtain ⟨g, cg, rfl⟩ : ∃ g c, v4 = .slice (some ⟨g, 0, none⟩) xs.length c := (by have := hbl4.ptr (by have := HFL.out; simp; omega); simpa using this)
    refine ⟨_, rfl, ?_⟩
    have hx4 : Below w.heap.size w w4 := (Below.drew (Below.refl _ _)).trans (hb4.mono (by simp))
    have hs4 : w4.cell? (adr bc k) = some (.int .i64 n) ∧ w4.cell? ⟨p, 3, none⟩ = some (.slice a3 x3.length c3) := ⟨(hx4.cell zc).trans gc, (bcell1 hx4 zp).trans F3.out⟩
    refine hKr _ _ (fun _ => hs4) ?_
    clear hKr Kr
    try simp only [List.getElem_toArray, List.getElem_cons_succ, List.getElem_cons_zero, Act.put, List.setIfInBounds_toArray, List.set_cons_zero, List.set_cons_succ]
    refine wpC_one (i := 15) (l' := #[true, true, true, true, true, true, true, true, true, true, true, true, true, true, true, true, false, false]) (by kernel_rfl) rfl rfl (by rfl) (fun Kr hKr => ?_)
    refine step_callW (by rfl) 133 _ _ rfl hrunT #[.pointer (some ⟨p, 0, none⟩), .slice (some ⟨g, 0, none⟩) xs.length cg, .pointer (some ⟨blk a3, ofs a3 + k * 3, none⟩), .int .i64 1] (by first | rfl | (simp [Act.eval]; done) | (simp [Act.eval]; rfl) | (simp [Act.eval]; repeat' constructor)) (HTX.out g cg _ hx4 (hbl4.lower (by simp))) ?_
    rintro e w9 ⟨⟨rfl, hbl9⟩, hb9⟩
    refine ⟨_, rfl, ?_⟩
    have hx9 : Below w.heap.size w w9 := hx4.trans hb9
    have hs9 : w9.cell? (adr bc k) = some (.int .i64 n) ∧ w9.cell? ⟨p, 3, none⟩ = some (.slice a3 x3.length c3) := ⟨(hx9.cell zc).trans gc, (bcell1 hx9 zp).trans F3.out⟩
    refine hKr _ _ (fun _ => hs9) ?_
    clear hKr Kr
    try simp only [List.getElem_toArray, List.getElem_cons_succ, List.getElem_cons_zero, Act.put, List.setIfInBounds_toArray, List.set_cons_zero, List.set_cons_succ]
    refine wpC_take (i := 16) (v := ?v16_15) (l' := #[true, true, true, true, true, true, true, true, true, true, true, true, true, true, true, true, true, false]) [17] rfl (by kernel_rfl) (by kernel_rfl) (by kernel_rfl) (by kernel_rfl) (by kernel_rfl) rfl (fun _ _ _ h => h) (by rfl) (fun wx hS => ?q16_15) (by assumption) ?_
    case q16_15 => (go_simp; try with_reducible rfl)
    try simp only [List.getElem_toArray, List.getElem_cons_succ, List.getElem_cons_zero, Act.put, List.setIfInBounds_toArray, List.set_cons_zero, List.set_cons_succ]
    refine wpC_take (i := 17) (v := ?v17_16) (l' := #[true, true, true, true, true, true, true, true, true, true, true, true, true, true, true, true, true, true]) [] rfl (by kernel_rfl) (by kernel_rfl) (by kernel_rfl) (by kernel_rfl) (by kernel_rfl) rfl (fun _ _ _ h => h) (by rfl) (fun wx hS => ?q17_16) (by assumption) ?_
    case q17_16 => (go_simp; try with_reducible rfl)
    try simp only [List.getElem_toArray, List.getElem_cons_succ, List.getElem_cons_zero, Act.put, List.setIfInBounds_toArray, List.set_cons_zero, List.set_cons_succ]
    refine wpC_done (by kernel_rfl) ?_ _
    have HB9 := Lib.hid hx9
    clear hx9 hx4 hbl9 hbl4 hb4 hb9
    go_wp2
    go_ret
    exact ⟨rfl, HB9.out⟩
set_option maxHeartbeats 4000000 in
set_option maxRecDepth 100000 in
theorem l06Chosen_c (K : Nat) (x1 : List Int) (x2 : List Bool) (x3 : List PR) (bags : List (List Int)) (a3 : Option Addr) (c3 : Nat) (n0 : Nat) (g0 cg0 : Nat) (p : Nat) (bc : Option Addr) (cc : Nat) (cs : List Int) (mode : Int) (w : World) (h3 : Rd Any w (dPR x3) (.slice a3 x3.length c3)) (hp3 : w.cell? ⟨p, 3, none⟩ = some (.slice a3 x3.length c3)) (kc : SlI Any w bc cs) (hcl : cs.length = x3.length)
    (hroom : ∀ wx, Below w.heap.size w wx → ∀ k, k < x3.length → Calls Try.prog 136 #[.pointer (some ⟨p, 0, none⟩), .slice (some ⟨g0, 0, none⟩) n0 cg0, .slice bc cs.length cc, .int .i64 k] wx (RetV wx (.bool (roomS x1 x2 x3 bags cs k)))) :
    Calls Try.prog 65 #[.pointer (some ⟨p, 0, none⟩), .slice (some ⟨g0, 0, none⟩) n0 cg0, .slice bc cs.length cc, .int .i64 mode] w (RetV w (.bool (chosenS x1 x2 x3 bags cs mode))) := by
  have zp := World.block_lt_of_cell? w _ hp3
  have l3 := kc.len
  unfold maxLen at l3
  have HS := l06Sum_c Any bc cc cs w kc
  have HR := Lib.hid hroom
  have HBZ := Lib.hid (fun wx (h : Below w.heap.size w wx) k hk => l06Busy_c x3 a3 c3 p bc cc cs k wx (h3.below h) (kc.below h) ((bcell1 h zp).trans hp3) hk hcl)
  have HCLN := Lib.hid hcl
  obtain ⟨s, hs⟩ : ∃ s, s = sumS cs := ⟨_, rfl⟩
  rw [← hs] at HS
  replace HS := Lib.hid HS
  have hch : chosenS x1 x2 x3 bags cs mode = if (s == 0 || mode == 3) = true then s == 1 else chosenTo x1 x2 x3 bags cs mode x3.length := by rw [hs]; rfl
  rw [hch]
  clear hch hs hroom h3 kc hcl hp3
  by_cases g2 : mode = 3
  · subst g2
    rw [if_pos (by simp)]
    go_enter Try.func65, Try.ntmps65
    go_wp2_with fail
    refine HS.out.mono ?_
    rintro e w9 ⟨rfl, rfl⟩
    go_wp2
    go_ret
    exact ⟨rfl, Below.refl _ _⟩
  by_cases g1 : s = 0
  · subst g1
    rw [if_pos (by simp)]
    have g2' : (mode == 3) = false := by simpa using g2
    clear g2
    go_enter Try.func65, Try.ntmps65
    go_wp2_with fail
    refine HS.out.mono ?_
    rintro e w9 ⟨rfl, rfl⟩
    go_wp2
    go_ret
    exact ⟨rfl, Below.refl _ _⟩
  rw [if_neg (by simp [g1, g2])]
  have g1' : (s == 0) = false := by simpa using g1
  have g2' : (mode == 3) = false := by simpa using g2
  clear g1 g2
  cases hmd : mode == 2
  · have HOFF : Hid (∀ c n, busyTo x3 cs mode c n = false) := Lib.hid (fun c n => busy_off hmd n)
    go_enter Try.func65, Try.ntmps65
    go_wp2_with fail
    refine HS.out.mono ?_
    rintro e w9 ⟨rfl, rfl⟩
    clear HS
    go_wp2
    go_loopw [10] (fun i wr => ∃ q : Nat, q ≤ cs.length ∧ i = .int .i64 q ∧ Hid (chosenTo x1 x2 x3 bags cs mode q = true) ∧ Hid (Below w.heap.size w wr)) (fun i _ => cs.length - (intOf i).toNat)
    case atStart => exact ⟨0, Nat.zero_le _, rfl, Lib.hid rfl, Lib.hid (Below.refl _ _)⟩
    case round =>
      obtain ⟨q, hq, rfl, HT, HB⟩ := hrel
      by_cases hlt : q < cs.length
      · have hq3 : q < x3.length := by rw [← HCLN.out]; exact hlt
        have HRQ := Lib.hid (fun wx h => HR.out wx h q hq3)
        have HBF : Hid (busyTo x3 cs mode (nthPR x3 q).cell cs.length = false) := Lib.hid (HOFF.out _ _)
        go_wp2_with fail
        refine (HRQ.out _ HB.out).mono ?_
        rintro e w7 ⟨rfl, hb7⟩
        have HB7 : Hid (Below w.heap.size w w7) := Lib.hid (bnext HB.out hb7 (Nat.le_refl _))
        clear hb7
        cases hr : roomS x1 x2 x3 bags cs q
        · have HT2 : Hid (chosenTo x1 x2 x3 bags cs mode (q + 1) = true) := Lib.hid (by rw [chosenTo, HT.out, hr]; simp)
          go_wp2
          first
            | (go_roundw
               case rel => exact ⟨q + 1, by omega, by go_num, HT2, HB7⟩
               case measure => simp [intOf]; omega)
            | (refine ⟨⟨q + 1, by omega, by go_num, HT2, HB7⟩, ?_⟩
               simp [intOf]; omega)
        · have HST : Hid (chosenTo x1 x2 x3 bags cs mode x3.length = false) := Lib.hid (chosen_stop HBF.out hr x3.length hq3)
          go_wp2
          go_ret
          exact ⟨ret_bool HST.out.symm, HB7.out⟩
      · obtain rfl : q = cs.length := by omega
        go_wp2
        go_ret
        exact ⟨ret_bool (by rw [← HCLN.out]; exact HT.out.symm), HB.out⟩
  · obtain rfl : mode = 2 := by simpa using hmd
    go_enter Try.func65, Try.ntmps65
    go_wp2_with fail
    refine HS.out.mono ?_
    rintro e w9 ⟨rfl, rfl⟩
    clear HS
    go_wp2
    go_loopw [10] (fun i wr => ∃ q : Nat, q ≤ cs.length ∧ i = .int .i64 q ∧ Hid (chosenTo x1 x2 x3 bags cs 2 q = true) ∧ Hid (Below w.heap.size w wr)) (fun i _ => cs.length - (intOf i).toNat)
    case atStart => exact ⟨0, Nat.zero_le _, rfl, Lib.hid rfl, Lib.hid (Below.refl _ _)⟩
    case round =>
      obtain ⟨q, hq, rfl, HT, HB⟩ := hrel
      by_cases hlt : q < cs.length
      · have hq3 : q < x3.length := by rw [← HCLN.out]; exact hlt
        have HRQ := Lib.hid (fun wx h => HR.out wx h q hq3)
        have HBQ := Lib.hid (HBZ.out wr HB.out q hq3)
        cases hb : busyTo x3 cs 2 (nthPR x3 q).cell cs.length
        · rw [hb] at HBQ
          have HBF : Hid (busyTo x3 cs 2 (nthPR x3 q).cell cs.length = false) := Lib.hid hb
          clear hb
          go_wp2_with fail
          refine HBQ.out.mono ?_
          rintro e w6 ⟨rfl, hb6⟩
          have HB6 : Hid (Below w.heap.size w w6) := Lib.hid (bnext HB.out hb6 (Nat.le_refl _))
          clear hb6
          go_wp2_with fail
          refine (HRQ.out _ HB6.out).mono ?_
          rintro e w7 ⟨rfl, hb7⟩
          have HB7 : Hid (Below w.heap.size w w7) := Lib.hid (bnext HB6.out hb7 (Nat.le_refl _))
          clear hb7
          cases hr : roomS x1 x2 x3 bags cs q
          · have HT2 : Hid (chosenTo x1 x2 x3 bags cs 2 (q + 1) = true) := Lib.hid (by rw [chosenTo, HT.out, hr]; simp)
            go_wp2
            first
              | (go_roundw
                 case rel => exact ⟨q + 1, by omega, by go_num, HT2, HB7⟩
                 case measure => simp [intOf]; omega)
              | (refine ⟨⟨q + 1, by omega, by go_num, HT2, HB7⟩, ?_⟩
                 simp [intOf]; omega)
          · have HST : Hid (chosenTo x1 x2 x3 bags cs 2 x3.length = false) := Lib.hid (chosen_stop HBF.out hr x3.length hq3)
            go_wp2
            go_ret
            exact ⟨ret_bool HST.out.symm, HB7.out⟩
        · rw [hb] at HBQ
          have HT2 : Hid (chosenTo x1 x2 x3 bags cs 2 (q + 1) = true) := Lib.hid (by rw [chosenTo, HT.out, hb]; simp)
          clear hb
          go_wp2_with fail
          refine HBQ.out.mono ?_
          rintro e w6 ⟨rfl, hb6⟩
          have HB6 : Hid (Below w.heap.size w w6) := Lib.hid (bnext HB.out hb6 (Nat.le_refl _))
          clear hb6
          go_wp2
          first
            | (go_roundw
               case rel => exact ⟨q + 1, by omega, by go_num, HT2, HB6⟩
               case measure => simp [intOf]; omega)
            | (refine ⟨⟨q + 1, by omega, by go_num, HT2, HB6⟩, ?_⟩
               simp [intOf]; omega)
      · obtain rfl : q = cs.length := by omega
        go_wp2
        go_ret
        exact ⟨ret_bool (by rw [← HCLN.out]; exact HT.out.symm), HB.out⟩
set_option maxHeartbeats 4000000 in
set_option maxRecDepth 100000 in
theorem specIsPassChoice_c (x0 : Int) (x1 : List Int) (x2 : List Bool) (x3 : List PR) (y0 : List (List Int)) (y1 : List Int) (a1 a2 a3 b0 b1 : Option Addr) (c1 c2 c3 d0 d1 : Nat) (w : World) (h1 : SlI Any w a1 x1) (h2 : SlB Any w a2 x2) (h3 : Rd Any w (dPR x3) (.slice a3 x3.length c3)) (k0 : SlII Any w b0 y0) (k1 : SlI Any w b1 y1) (cs : List Int) (bc : Option Addr) (cc : Nat) (kc : SlI Any w bc cs) (mode : Int) :
    Calls Try.prog 12 #[.agg #[.int .i64 x0, .slice a1 x1.length c1, .slice a2 x2.length c2, .slice a3 x3.length c3], .agg #[.slice b0 y0.length d0, .slice b1 y1.length d1], .slice bc cs.length cc, .int .i64 mode] w (RetV w (.tuple #[.bool (choiceS x0 x1 x2 x3 y0 y1 cs mode).1, .int .i64 (choiceS x0 x1 x2 x3 y0 y1 cs mode).2])) := by
  have hb0 : Below w.heap.size w ((w.alloc (.cells #[.int .i64 x0, .slice a1 x1.length c1, .slice a2 x2.length c2, .slice a3 x3.length c3] 36)).alloc (.cells #[.slice b0 y0.length d0, .slice b1 y1.length d1] 38)) := ((Below.refl _ _).alloc (Nat.le_refl _) _).alloc (by simp) _
  have HC := Lib.hid (l06Code_c x0 x1 x2 x3 y0 y1 a1 a2 a3 b0 b1 c1 c2 c3 d0 d1 ((w.alloc (.cells #[.int .i64 x0, .slice a1 x1.length c1, .slice a2 x2.length c2, .slice a3 x3.length c3] 36)).alloc (.cells #[.slice b0 y0.length d0, .slice b1 y1.length d1] 38)) (h1.below hb0) (h2.below hb0) (h3.below hb0) (k0.below hb0) (k1.below hb0) w.heap.size (w.heap.size + 1) (by simp [go_sem]) (by simp [go_sem]) (by simp [go_sem]) (by simp [go_sem]) (by simp [go_sem]) (by simp [go_sem]))
  have HB0 := Lib.hid hb0
  have h3' := h3
  obtain ⟨_, _, e3, k3⟩ := Rd_PR h3'
  cases e3
  have l3 := k3.len
  clear hb0 h3' k3
  by_cases hcode : stCode x0 x1 x2 x3 y0 y1 = 0
  · obtain ⟨K, hxK, hps, hst⟩ := stockAll_ok (stCode_ok hcode)
    have HCO := Lib.hid (fun wx (h : Below w.heap.size w wx) hp3 => l06Counts_c x3 a3 c3 w.heap.size bc cc cs wx (kc.below h) hp3 l3)
    have HM := Lib.hid (fun wx => l06Mode_c mode wx)
    rw [hcode] at HC
    cases hb6 : bag6 x3.length cs
    · have ev : choiceS x0 x1 x2 x3 y0 y1 cs mode = (false, 2) := by simp [choiceS, passCodeS, hcode, hb6]
      rw [hb6] at HCO
      rw [ev]
      clear ev hcode hb6 hps hst h1 h2 h3 k0 k1 kc hxK
      go_enter Try.func12, Try.ntmps12
      go_wp2_with fail
      refine HC.out.mono ?_
      rintro e w1 ⟨rfl, hb1⟩
      have f0 : w1.cell? ⟨w.heap.size, 0, none⟩ = some (.int .i64 x0) := by rw [bcell1 hb1 (by simp <;> omega)]; simp [go_sem]
      have f1 : w1.cell? ⟨w.heap.size, 1, none⟩ = some (.slice a1 x1.length c1) := by rw [bcell1 hb1 (by simp <;> omega)]; simp [go_sem]
      have f2 : w1.cell? ⟨w.heap.size, 2, none⟩ = some (.slice a2 x2.length c2) := by rw [bcell1 hb1 (by simp <;> omega)]; simp [go_sem]
      have f3 : w1.cell? ⟨w.heap.size, 3, none⟩ = some (.slice a3 x3.length c3) := by rw [bcell1 hb1 (by simp <;> omega)]; simp [go_sem]
      have e0 : w1.cell? ⟨w.heap.size + 1, 0, none⟩ = some (.slice b0 y0.length d0) := by rw [bcell1 hb1 (by simp <;> omega)]; simp [go_sem]
      have e1 : w1.cell? ⟨w.heap.size + 1, 1, none⟩ = some (.slice b1 y1.length d1) := by rw [bcell1 hb1 (by simp <;> omega)]; simp [go_sem]
      have HB1 := Lib.hid (HB0.out.trans (hb1.mono (by simp <;> omega)))
      clear hb1
      go_wp2_with fail
      refine (HCO.out w1 HB1.out f3).mono ?_
      rintro e w2 ⟨rfl, rfl⟩
      go_wp2
      go_ret2
      exact ⟨rfl, HB1.out⟩
    · have hcs := bag6_ok hb6
      have hpc : passCodeS x0 x1 x2 x3 y0 y1 cs = 0 := by simp [passCodeS, hcode, hb6]
      cases hm : inRg mode 1 3
      · have ev : choiceS x0 x1 x2 x3 y0 y1 cs mode = (false, 2) := by simp [choiceS, hpc, hm]
        rw [hb6] at HCO
        rw [hm] at HM
        rw [ev]
        clear ev hcode hb6 hps hst h1 h2 h3 k0 k1 kc hxK hm hpc hcs
        go_enter Try.func12, Try.ntmps12
        go_wp2_with fail
        refine HC.out.mono ?_
        rintro e w1 ⟨rfl, hb1⟩
        have f0 : w1.cell? ⟨w.heap.size, 0, none⟩ = some (.int .i64 x0) := by rw [bcell1 hb1 (by simp <;> omega)]; simp [go_sem]
        have f1 : w1.cell? ⟨w.heap.size, 1, none⟩ = some (.slice a1 x1.length c1) := by rw [bcell1 hb1 (by simp <;> omega)]; simp [go_sem]
        have f2 : w1.cell? ⟨w.heap.size, 2, none⟩ = some (.slice a2 x2.length c2) := by rw [bcell1 hb1 (by simp <;> omega)]; simp [go_sem]
        have f3 : w1.cell? ⟨w.heap.size, 3, none⟩ = some (.slice a3 x3.length c3) := by rw [bcell1 hb1 (by simp <;> omega)]; simp [go_sem]
        have e0 : w1.cell? ⟨w.heap.size + 1, 0, none⟩ = some (.slice b0 y0.length d0) := by rw [bcell1 hb1 (by simp <;> omega)]; simp [go_sem]
        have e1 : w1.cell? ⟨w.heap.size + 1, 1, none⟩ = some (.slice b1 y1.length d1) := by rw [bcell1 hb1 (by simp <;> omega)]; simp [go_sem]
        have HB1 := Lib.hid (HB0.out.trans (hb1.mono (by simp <;> omega)))
        clear hb1
        go_wp2_with fail
        refine (HCO.out w1 HB1.out f3).mono ?_
        rintro e w2 ⟨rfl, rfl⟩
        go_wp2_with fail
        refine (HM.out _).mono ?_
        rintro e w2 ⟨rfl, rfl⟩
        go_wp2
        go_ret2
        exact ⟨rfl, HB1.out⟩
      · have ev : choiceS x0 x1 x2 x3 y0 y1 cs mode = (fitsB x1 x2 x3 (bagsS y0 y1) cs && chosenS x1 x2 x3 (bagsS y0 y1) cs mode, 0) := by simp [choiceS, hpc, hm]
        have hcb : ∀ j, 0 ≤ nth cs j ∧ nth cs j ≤ 1000 := fun j => hcs.2 j
        have HLF := Lib.hid (left_fits (cs := cs) hps hst (fun j => by have := hcs.2 j; omega) hcs.1)
        have hl1 : (leftF K x1 x2 x3 cs (bagsS y0 y1).flatten x3.length).1.length = (x1.length + 1) * K := (leftF_len x3.length).trans (flat_start hst).1
        have hfl1 := (flat_start hst).1
        have hlm := small_mul (k := x1.length + 1) (K := K) (n := 5) (by have := hps.p4; omega) hps.k8
        obtain ⟨N, hN⟩ : ∃ N, N = (bagsS y0 y1).flatten.length := ⟨_, rfl⟩
        obtain ⟨L, hL⟩ : ∃ L, L = (leftF K x1 x2 x3 cs (bagsS y0 y1).flatten x3.length).1 := ⟨_, rfl⟩
        have HLE : Hid (∀ wx, Below w.heap.size w wx → wx.cell? ⟨w.heap.size, 0, none⟩ = some (.int .i64 x0) → wx.cell? ⟨w.heap.size, 1, none⟩ = some (.slice a1 x1.length c1) → wx.cell? ⟨w.heap.size, 2, none⟩ = some (.slice a2 x2.length c2) → wx.cell? ⟨w.heap.size, 3, none⟩ = some (.slice a3 x3.length c3) → wx.cell? ⟨w.heap.size + 1, 0, none⟩ = some (.slice b0 y0.length d0) → wx.cell? ⟨w.heap.size + 1, 1, none⟩ = some (.slice b1 y1.length d1) →
            Calls Try.prog 64 #[.pointer (some ⟨w.heap.size, 0, none⟩), .pointer (some ⟨w.heap.size + 1, 0, none⟩), .slice bc cs.length cc] wx (fun e w' => ∃ g cg, e = .returned (.tuple #[.slice (some ⟨g, 0, none⟩) N cg, .bool (fitsB x1 x2 x3 (bagsS y0 y1) cs)]) ∧ Below wx.heap.size wx w' ∧ SlI Any w' (some ⟨g, 0, none⟩) L)) :=
          Lib.hid (fun wx h g0 g1 g2 g3 g4 g5 => (l06Left_c K x1 x2 x3 y0 y1 a1 a2 a3 b0 b1 c1 c2 c3 d0 d1 wx (h1.below h) (h2.below h) (h3.below h) (k0.below h) (k1.below h) cs bc cc (kc.below h) _ _ (by rw [g0, hxK]) g1 g2 g3 g4 g5 hps hst hcs.1).mono (by
            rintro e w' ⟨g, cg, he, hb, hbl⟩
            refine ⟨g, cg, ?_, hb, ?_⟩
            · rw [he, hN, HLF.out]
            · rw [hL]
              exact SlI.any (SlI.ofBld (n := (bagsS y0 y1).flatten.length) (c := cg) hbl (by unfold maxLen; omega))))
        have HCH : Hid (fitsB x1 x2 x3 (bagsS y0 y1) cs = true → ∀ wx g cg, Below w.heap.size w wx → wx.cell? ⟨w.heap.size, 0, none⟩ = some (.int .i64 x0) → wx.cell? ⟨w.heap.size, 1, none⟩ = some (.slice a1 x1.length c1) → wx.cell? ⟨w.heap.size, 2, none⟩ = some (.slice a2 x2.length c2) → wx.cell? ⟨w.heap.size, 3, none⟩ = some (.slice a3 x3.length c3) → SlI Any wx (some ⟨g, 0, none⟩) L → Calls Try.prog 65 #[.pointer (some ⟨w.heap.size, 0, none⟩), .slice (some ⟨g, 0, none⟩) N cg, .slice bc cs.length cc, .int .i64 mode] wx (RetV wx (.bool (chosenS x1 x2 x3 (bagsS y0 y1) cs mode)))) :=
          Lib.hid (fun hf wx g cg h p0 p1 p2 p3 hs => l06Chosen_c K x1 x2 x3 (bagsS y0 y1) a3 c3 N g cg w.heap.size bc cc cs mode wx (h3.below h) p3 (kc.below h) hcs.1 (fun wy hy k hk => by
            have zq := World.block_lt_of_cell? wx _ p3
            have := l06Room_c K x1 x2 x3 a1 a2 a3 c1 c2 c3 k L g cg w.heap.size bc cc cs wy ((h1.below h).below hy) ((h2.below h).below hy) ((h3.below h).below hy) ((bcell1 hy zq).trans (by rw [p0, hxK])) ((bcell1 hy zq).trans p1) ((bcell1 hy zq).trans p2) ((bcell1 hy zq).trans p3) hps hk ((kc.below h).below hy) hcs.1 (hs.below hy) (by rw [hL]; exact hl1)
            rw [show L.length = N by rw [hL, hN, hl1, hfl1], hL, room_ref hps hst hcb hcs.1 hk hf] at this
            exact this))
        rw [hb6] at HCO
        rw [hm] at HM
        rw [ev]
        clear ev hcode hb6 hps hst hcs h1 h2 h3 k0 k1 kc hxK hm hpc hcb hl1 hlm hfl1 hN hL HLF
        cases hf : fitsB x1 x2 x3 (bagsS y0 y1) cs
        · rw [hf] at HLE
          go_enter Try.func12, Try.ntmps12
          go_wp2_with fail
          refine HC.out.mono ?_
          rintro e w1 ⟨rfl, hb1⟩
          have f0 : w1.cell? ⟨w.heap.size, 0, none⟩ = some (.int .i64 x0) := by rw [bcell1 hb1 (by simp <;> omega)]; simp [go_sem]
          have f1 : w1.cell? ⟨w.heap.size, 1, none⟩ = some (.slice a1 x1.length c1) := by rw [bcell1 hb1 (by simp <;> omega)]; simp [go_sem]
          have f2 : w1.cell? ⟨w.heap.size, 2, none⟩ = some (.slice a2 x2.length c2) := by rw [bcell1 hb1 (by simp <;> omega)]; simp [go_sem]
          have f3 : w1.cell? ⟨w.heap.size, 3, none⟩ = some (.slice a3 x3.length c3) := by rw [bcell1 hb1 (by simp <;> omega)]; simp [go_sem]
          have e0 : w1.cell? ⟨w.heap.size + 1, 0, none⟩ = some (.slice b0 y0.length d0) := by rw [bcell1 hb1 (by simp <;> omega)]; simp [go_sem]
          have e1 : w1.cell? ⟨w.heap.size + 1, 1, none⟩ = some (.slice b1 y1.length d1) := by rw [bcell1 hb1 (by simp <;> omega)]; simp [go_sem]
          have HB1 := Lib.hid (HB0.out.trans (hb1.mono (by simp <;> omega)))
          have zz : w.heap.size + 1 < w1.heap.size := World.block_lt_of_cell? w1 _ e0
          clear hb1
          go_wp2_with fail
          refine (HCO.out w1 HB1.out f3).mono ?_
          rintro e w2 ⟨rfl, rfl⟩
          go_wp2_with fail
          refine (HM.out _).mono ?_
          rintro e w2 ⟨rfl, rfl⟩
          go_wp2_with fail
          refine (HLE.out w1 HB1.out f0 f1 f2 f3 e0 e1).mono ?_
          rintro e w3 ⟨g, cg, rfl, hb3, hbl3⟩
          have HB3 := Lib.hid (bnext HB1.out hb3 (Nat.le_refl _))
          clear hb3 hbl3
          go_wp2
          go_ret2
          exact ⟨rfl, HB3.out⟩
        · rw [hf] at HLE
          go_enter Try.func12, Try.ntmps12
          go_wp2_with fail
          refine HC.out.mono ?_
          rintro e w1 ⟨rfl, hb1⟩
          have f0 : w1.cell? ⟨w.heap.size, 0, none⟩ = some (.int .i64 x0) := by rw [bcell1 hb1 (by simp <;> omega)]; simp [go_sem]
          have f1 : w1.cell? ⟨w.heap.size, 1, none⟩ = some (.slice a1 x1.length c1) := by rw [bcell1 hb1 (by simp <;> omega)]; simp [go_sem]
          have f2 : w1.cell? ⟨w.heap.size, 2, none⟩ = some (.slice a2 x2.length c2) := by rw [bcell1 hb1 (by simp <;> omega)]; simp [go_sem]
          have f3 : w1.cell? ⟨w.heap.size, 3, none⟩ = some (.slice a3 x3.length c3) := by rw [bcell1 hb1 (by simp <;> omega)]; simp [go_sem]
          have e0 : w1.cell? ⟨w.heap.size + 1, 0, none⟩ = some (.slice b0 y0.length d0) := by rw [bcell1 hb1 (by simp <;> omega)]; simp [go_sem]
          have e1 : w1.cell? ⟨w.heap.size + 1, 1, none⟩ = some (.slice b1 y1.length d1) := by rw [bcell1 hb1 (by simp <;> omega)]; simp [go_sem]
          have HB1 := Lib.hid (HB0.out.trans (hb1.mono (by simp <;> omega)))
          have zz : w.heap.size + 1 < w1.heap.size := World.block_lt_of_cell? w1 _ e0
          clear hb1
          go_wp2_with fail
          refine (HCO.out w1 HB1.out f3).mono ?_
          rintro e w2 ⟨rfl, rfl⟩
          go_wp2_with fail
          refine (HM.out _).mono ?_
          rintro e w2 ⟨rfl, rfl⟩
          go_wp2_with fail
          refine (HLE.out w1 HB1.out f0 f1 f2 f3 e0 e1).mono ?_
          rintro e w3 ⟨g, cg, rfl, hb3, hbl3⟩
          have HB3 := Lib.hid (bnext HB1.out hb3 (Nat.le_refl _))
          have HSL := Lib.hid hbl3
          replace f0 := (bcell1 hb3 (by omega)).trans f0
          replace f1 := (bcell1 hb3 (by omega)).trans f1
          replace f2 := (bcell1 hb3 (by omega)).trans f2
          replace f3 := (bcell1 hb3 (by omega)).trans f3
          clear hb3 hbl3
          go_wp2_with fail
          refine (HCH.out hf w3 g cg HB3.out f0 f1 f2 f3 HSL.out).mono ?_
          rintro e w4 ⟨rfl, hb4⟩
          have HB4 := Lib.hid (bnext HB3.out hb4 (Nat.le_refl _))
          clear hb4
          go_wp2
          go_ret2
          exact ⟨rfl, HB4.out⟩
  · have ev : choiceS x0 x1 x2 x3 y0 y1 cs mode = (false, stCode x0 x1 x2 x3 y0 y1) := by simp [choiceS, passCodeS, hcode]
    have hc1' : (stCode x0 x1 x2 x3 y0 y1 != 0) = true := by simpa using hcode
    rw [ev]
    clear ev hcode h1 h2 h3 k0 k1 kc
    go_enter Try.func12, Try.ntmps12
    go_wp2_with fail
    refine HC.out.mono ?_
    rintro e w1 ⟨rfl, hb1⟩
    have HB1 := Lib.hid (HB0.out.trans (hb1.mono (by simp <;> omega)))
    clear hb1
    go_wp2
    go_ret2
    exact ⟨rfl, HB1.out⟩
theorem specIsPassChoice_d (x0 : Int) (x1 : List Int) (x2 : List Bool) (x3 : List PR) (y0 : List (List Int)) (y1 : List Int) (cs : List Int) (mode : Int) {v1 v2 v3 u0 u1 uc : Value} (w : World) (h1 : Rd Any w (dI x1) v1) (h2 : Rd Any w (dB x2) v2) (h3 : Rd Any w (dPR x3) v3) (k0 : Rd Any w (dII y0) u0) (k1 : Rd Any w (dI y1) u1) (kc : Rd Any w (dI cs) uc) :
    Calls Try.prog 12 #[.agg #[.int .i64 x0, v1, v2, v3], .agg #[u0, u1], uc, .int .i64 mode] w (RetV w (.tuple #[.bool (choiceS x0 x1 x2 x3 y0 y1 cs mode).1, .int .i64 (choiceS x0 x1 x2 x3 y0 y1 cs mode).2])) := by
  obtain ⟨a1, c1, rfl, k1'⟩ := Rd_I.1 h1
  obtain ⟨a2, c2, rfl, k2'⟩ := Rd_B.1 h2
  have h3' := h3
  obtain ⟨a3, c3, rfl, _⟩ := Rd_PR h3'
  obtain ⟨b0, d0, rfl, j3⟩ := Rd_II.1 k0
  obtain ⟨b1, d1, rfl, j4⟩ := Rd_I.1 k1
  obtain ⟨bc, cc, rfl, j5⟩ := Rd_I.1 kc
  exact specIsPassChoice_c x0 x1 x2 x3 y0 y1 a1 a2 a3 b0 b1 c1 c2 c3 d0 d1 w k1' k2' h3' j3 j4 cs bc cc j5 mode
end Go.Proofs.Ytkoojiplfbcalaa
