/- What rules take and give: the reference's functions. -/
import Derived.Test.YtkjmehpehopncaaZ4
namespace Go.Proofs.Ytkjmehpehopncaa
open Go.RowKit

/-- A call of which something is known, at a step of a region that draws its order. -/
theorem step_callG {P : Program} {ops : Array Oper} {o : Oper} {ac : Act} {w : World} {K : Act → World → Prop} {Q : Exit → Act → World → Prop} {X : Prop} (hgd : o.guard = none) (f : FuncId) (xs : Array Operand) (ts : Array TypeId)
    (ho : o.op = .call { callee := .value (.func f), args := xs, argTypes := ts }) (hrun : ∀ args w, (callFunc f args).run P w = .ok (.enter f args) w) (vs : Array Value) (hv : xs.map ac.eval = vs) {Post : Ending → World → Prop}
    (h : Calls P f vs w Post) (hK : ∀ e w', Post e w' → ∃ v, e = .returned v ∧ K (ac.put o.dst v) w') : if Region.wanted o (yielded ops ac.tmps) = true then Oper.wp P o ac w K Q else X := by
  have hw : Region.wanted o (yielded ops ac.tmps) = true := by simp [Region.wanted, hgd]
  rw [if_pos hw]
  unfold Oper.wp execOp
  simp only [ho, resolve, Act.eval, Deferred.ofValue, Sem.run_bind, Sem.run_pure, Result.andThen_ok, invoke, Array.append_empty]
  rw [show xs.map (Act.eval ac) = vs from hv]
  simp only [Array.empty_append, hrun, Oper.upon_enter]
  refine h.mono fun e w' hp => ?_
  obtain ⟨v, rfl, hk⟩ := hK e w' hp
  exact hk
theorem SlI.under {S : Nat → Prop} {w : World} {a : Option Addr} {xs : List Int} {B : Nat} (h : SlI S w a xs) (hB : w.heap.size ≤ B) : SlI (· < B) w a xs :=
  ⟨h.len, fun h0 => ⟨by have := World.block_lt_of_cell? w _ (h.cell 0 h0); simp only [adr] at this; omega, (h.ptr h0).2⟩, h.cell⟩
theorem SlB.under {S : Nat → Prop} {w : World} {a : Option Addr} {xs : List Bool} {B : Nat} (h : SlB S w a xs) (hB : w.heap.size ≤ B) : SlB (· < B) w a xs :=
  ⟨h.len, fun h0 => ⟨by have := World.block_lt_of_cell? w _ (h.cell 0 h0); simp only [adr] at this; omega, (h.ptr h0).2⟩, h.cell⟩
theorem SlI.low {w w' : World} {a : Option Addr} {xs : List Int} {B : Nat} (h : SlI (· < B) w a xs) (hb : Below B w w') : SlI (· < B) w' a xs :=
  ⟨h.len, h.ptr, fun i hi => (hb.cell (p := adr a i) (h.ptr (by omega)).1).trans (h.cell i hi)⟩
theorem SlB.low {w w' : World} {a : Option Addr} {xs : List Bool} {B : Nat} (h : SlB (· < B) w a xs) (hb : Below B w w') : SlB (· < B) w' a xs :=
  ⟨h.len, h.ptr, fun i hi => (hb.cell (p := adr a i) (h.ptr (by omega)).1).trans (h.cell i hi)⟩
theorem Bld.at_nth {E : Nat} {w : World} {B g n c : Nat} {xs : List Int} (h : Bld E w B (.slice (some ⟨g, 0, none⟩) n c) (xs.map (.int .i64))) {i : Nat} (hi : i < xs.length) : w.cell? ⟨g, i, none⟩ = some (.int .i64 (nth xs i)) := by
  refine h.cell ?_
  rw [List.getElem?_map, List.getElem?_eq_getElem hi, ← nth_lt hi]; rfl
theorem Bld.set_nth {E : Nat} {w : World} {B g n c : Nat} {xs : List Int} (h : Bld E w B (.slice (some ⟨g, 0, none⟩) n c) (xs.map (.int .i64))) (i : Nat) (x : Int) : Bld E (w.setCell ⟨g, i, none⟩ (.int .i64 x)) B (.slice (some ⟨g, 0, none⟩) n c) ((xs.set i x).map (.int .i64)) := by
  have := h.set i (.int .i64 x)
  rwa [← List.map_set] at this
def TakePost (B g n cg : Nat) (r : List Int × Bool) (e : Ending) (w' : World) : Prop := e = .returned (.bool r.2) ∧ Bld 2 w' B (.slice (some ⟨g, 0, none⟩) n cg) (r.1.map (.int .i64))
set_option maxHeartbeats 2000000 in
theorem l06At_c (K : Nat) (x1 : List Int) (a1 : Option Addr) (c1 p : Nat) (c : Int) (U : Nat) (w : World) (h1 : SlI Any w a1 x1) (hp0 : w.cell? ⟨p, 0, none⟩ = some (.int .i64 K)) (hp1 : w.cell? ⟨p, 1, none⟩ = some (.slice a1 x1.length c1))
    (hK8 : K ≤ 8) (hn : x1.length ≤ 4) (hc : 0 ≤ c ∧ c < x1.length) (hU : upS x1 c = U) (hpar : 0 < c → 0 ≤ nth x1 c.toNat) (h0 : nth x1 0 = -1) (hU4 : U ≤ 4) :
    Calls Try.prog 58 #[.pointer (some ⟨p, 0, none⟩), .int .i64 c] w (RetQ w (.int .i64 ((U * K : Nat) : Int))) := by
  have i1 := fun w' => h1.ix tabI.under tabI.size c1 c w' hc.1 hc.2
  have g1 := h1.cell c.toNat (by omega)
  have hm := small_mul (k := U) (K := K) (n := 4) hU4 hK8
  have HM := Lib.hid hm
  by_cases e : c = 0
  · subst e
    have hU' : (x1.length : Int) = U := by simpa [upS] using hU
    have hw : IntKind.i64.wrap ((x1.length : Int) * (K : Int)) = ((U * K : Nat) : Int) := by
      rw [hU', wrap_64, Int.natCast_mul]
      have : ((U * K : Nat) : Int) ≤ 32 := by omega
      rw [Int.natCast_mul] at this
      have h2 : 0 ≤ (U : Int) * (K : Int) := Int.mul_nonneg (by omega) (by omega)
      unfold wrap64; omega
    rw [Int.toNat_zero, h0] at g1
    clear h1 hU hU' hm
    go_enter Try.func58, Try.ntmps58
    go_wp2
    go_quiet (fail)
    go_wp2
    go_ret
    exact ⟨by first | rfl | rw [hw], _, rfl⟩
  · have hU' : nth x1 c.toNat = U := by simpa [upS, e] using hU
    have hpos := hpar (by omega)
    have hneg : ¬ nth x1 c.toNat < 0 := by omega
    have hw : IntKind.i64.wrap (nth x1 c.toNat * (K : Int)) = ((U * K : Nat) : Int) := by
      rw [hU', wrap_64, Int.natCast_mul]
      have : ((U * K : Nat) : Int) ≤ 32 := by omega
      rw [Int.natCast_mul] at this
      have h2 : 0 ≤ (U : Int) * (K : Int) := Int.mul_nonneg (by omega) (by omega)
      unfold wrap64; omega
    clear h1 hU hU' hm hpos hpar
    go_enter Try.func58, Try.ntmps58
    go_wp2
    go_quiet (fail)
    go_wp2
    go_ret
    exact ⟨by first | rfl | rw [hw], _, rfl⟩
set_option maxHeartbeats 8000000 in
set_option maxRecDepth 100000 in
theorem l06Take_c (K : Nat) (x1 : List Int) (x2 : List Bool) (r : PR) (n : Int) (xs : List Int) (a1 a2 u1 u2 : Option Addr) (c1 c2 d1 d2 : Nat) (p rb ro g cg B : Nat) (v3 : Value) (w : World) (h1 : SlI (· < B) w a1 x1) (h2 : SlB (· < B) w a2 x2) (k1 : SlI (· < B) w u1 r.out) (k2 : SlI (· < B) w u2 r.inn)
    (hp0 : w.cell? ⟨p, 0, none⟩ = some (.int .i64 K)) (hp1 : w.cell? ⟨p, 1, none⟩ = some (.slice a1 x1.length c1)) (hp2 : w.cell? ⟨p, 2, none⟩ = some (.slice a2 x2.length c2)) (_hp3 : w.cell? ⟨p, 3, none⟩ = some v3)
    (hr0 : w.cell? ⟨rb, ro, none⟩ = some (.int .i64 r.cell)) (hr1 : w.cell? ⟨rb, ro + 1, none⟩ = some (.slice u1 r.out.length d1)) (hr2 : w.cell? ⟨rb, ro + 2, none⟩ = some (.slice u2 r.inn.length d2)) (hpB : p < B) (hrB : rb < B)
    (hbl : Bld 2 w B (.slice (some ⟨g, 0, none⟩) xs.length cg) (xs.map (.int .i64))) (hBw : B ≤ w.heap.size) (hK1 : 1 ≤ K) (hK8 : K ≤ 8) (hn4 : x1.length ≤ 4) (hlen : xs.length = (x1.length + 1) * K) (hx2 : x2.length = K) (ho : r.out.length = K) (hi : r.inn.length = K)
    (hc : 0 ≤ r.cell ∧ r.cell < x1.length) (hUs : upS x1 r.cell = (upN x1 r : Int)) (hUl : upN x1 r ≤ x1.length) (hpar : 0 < r.cell → 0 ≤ nth x1 r.cell.toNat) (h0 : nth x1 0 = -1) :
    Calls Try.prog 38 #[.pointer (some ⟨p, 0, none⟩), .slice (some ⟨g, 0, none⟩) xs.length cg, .pointer (some ⟨rb, ro, none⟩), .int .i64 n] w (fun e w' => TakePost B g xs.length cg (takeF (cellN r * K) (upN x1 r * K) x2 r n xs K) e w' ∧ Below B w w') := by
  have hcn : r.cell = (cellN r : Int) := by unfold cellN; omega
  have hcl : cellN r < x1.length := by omega
  have ha := fun k (hk : k < K) => idx_lt (K := K) (k := k) (show cellN r ≤ x1.length by omega) hk
  have hb := fun k (hk : k < K) => idx_lt (K := K) (k := k) hUl hk
  have hmx := small_mul (k := x1.length + 1) (K := K) (n := 5) (by omega) hK8
  have hwo : IntKind.i64.wrap (r.cell * (K : Int)) = ((cellN r * K : Nat) : Int) := by
    rw [hcn, wrap_64, Int.natCast_mul]
    have h1 := ha 0 (by omega)
    have h3 : ((cellN r * K : Nat) : Int) ≤ 40 := by omega
    rw [Int.natCast_mul] at h3
    have h2 : 0 ≤ (cellN r : Int) * (K : Int) := Int.mul_nonneg (by omega) (by omega)
    unfold wrap64; omega
  have HAT := Lib.hid (fun x : Wd w => callsQ (l06At_c K x1 a1 c1 p r.cell (upN x1 r) (wat x) ((h1.below (wat_below x)).any) ((bcell1 (wat_below x) (World.block_lt_of_cell? w _ hp0)).trans hp0) ((bcell1 (wat_below x) (World.block_lt_of_cell? w _ hp0)).trans hp1) hK8 hn4 hc hUs hpar h0 (by omega)))
  obtain ⟨O, hO⟩ : ∃ O, O = cellN r * K := ⟨_, rfl⟩
  obtain ⟨U, hU⟩ : ∃ U, U = upN x1 r * K := ⟨_, rfl⟩
  have HOK := Lib.hid hO
  have HUK := Lib.hid hU
  rw [← hO] at hwo ha
  rw [← hU] at HAT hb
  have HA := Lib.hid ha
  have HBB := Lib.hid hb
  have HMX := Lib.hid hmx
  have H1 := Lib.hid h1
  have H2 := Lib.hid h2
  have K1 := Lib.hid k1
  have K2 := Lib.hid k2
  have HLEN := Lib.hid hlen
  have HX2 := Lib.hid hx2
  have HOL := Lib.hid ho
  have HIL := Lib.hid hi
  have HBL := Lib.hid hbl
  have HG := Lib.hid hbl.base
  have i1 := ix_of (P := Try.prog) tabI.under tabI.size (a := some ⟨g, 0, none⟩) (n := xs.length) (fun _ => ⟨g, 0, rfl⟩) cg
  simp only [Nat.mul_one, adr, blk, ofs, Nat.zero_add] at i1
  have i2 := k1.ix tabI.under tabI.size d1
  have i3 := k2.ix tabI.under tabI.size d2
  have i4 := h2.ix tabB.under tabB.size c2
  clear h1 h2 k1 k2 hlen hx2 ho hi hbl ha hb hmx hO hU hUs hUl hpar h0 hcn hcl
  rw [← HOK.out, ← HUK.out]
  have q0 := wat_cell hp0
  have q1 := wat_cell hp1
  have q2 := wat_cell hp2
  have r0 := wat_cell hr0
  have r1 := wat_cell hr1
  have r2 := wat_cell hr2
  go_enter Try.func38, Try.ntmps38
  go_wp2
  refine wp_quiet_wd (by kernel_rfl) (by kernel_rfl) ?_
  repeat (go_big_quiet_step (first | with_reducible exact wdV (HAT.out _)))
  refine wpQuiet_nil ?_
  rintro _ ⟨wq, rfl⟩
  have f0 := r0 wq
  go_wp2_with fail
  refine (HAT.out wq).mono ?_
  rintro e w2 ⟨rfl, hb2⟩
  have hbw := bnext (wat_below wq) hb2 (Nat.le_refl _)
  have HB0 := Lib.hid (hbw.mono hBw)
  have HL0 := Lib.hid (HBL.out.below hbw)
  clear q0 q1 q2 r0 r1 r2 f0 hb2 hbw
  go_wp2
  go_loopw [11, 12] (fun b k wr => ∃ j : Nat, j ≤ K ∧ k = .int .i64 j ∧ b = .bool (takeF O U x2 r n xs j).2 ∧ Below B w wr ∧ Bld 2 wr B (.slice (some ⟨g, 0, none⟩) xs.length cg) ((takeF O U x2 r n xs j).1.map (.int .i64))) (fun _ k _ => K - (intOf k).toNat)
  case atStart => exact ⟨0, Nat.zero_le _, rfl, rfl, HB0.out, HL0.out⟩
  case round =>
    obtain ⟨j, hj, rfl, rfl, hb, hbl⟩ := hrel
    have f0 := (bcell1 hb hpB).trans hp0
    have f2 := (bcell1 hb hpB).trans hp2
    have e0 := (bcell1 hb hrB).trans hr0
    have e1 := (bcell1 hb hrB).trans hr1
    have e2 := (bcell1 hb hrB).trans hr2
    by_cases hlt : j < K
    · have hl1 := takeF_len O U x2 r n xs j
      have hA := HA.out j hlt
      have hB2 := HBB.out j hlt
      have hLE := HLEN.out
      have hMX := HMX.out
      have HTK : Hid (takeF O U x2 r n xs (j + 1) = takeK O U r n (insK x2 r j) j (takeF O U x2 r n xs j)) := Lib.hid rfl
      have hlt1 : (j : Int) < r.out.length := by have := HOL.out; omega
      have hlt2 : (j : Int) < r.inn.length := by have := HIL.out; omega
      have hlt3 : (j : Int) < x2.length := by have := HX2.out; omega
      have g1 := (K1.out.low hb).cell j (by omega)
      have g2 := hbl.at_nth (i := O + j) (by omega)
      have z2 := hbl.free (O + j)
      have hwA : IntKind.i64.wrap ((O : Int) + (j : Int)) = (O : Int) + (j : Int) := by rw [wrap_64]; unfold wrap64; omega
      have hwU : IntKind.i64.wrap ((U : Int) + (j : Int)) = (U : Int) + (j : Int) := by rw [wrap_64]; unfold wrap64; omega
      have iA := fun w' => i1 ((O : Int) + (j : Int)) w' (by omega) (by omega)
      have iU := fun w' => i1 ((U : Int) + (j : Int)) w' (by omega) (by omega)
      rw [show ((O : Int) + (j : Int)).toNat = O + j by omega] at iA
      rw [show ((U : Int) + (j : Int)).toNat = U + j by omega] at iU
      generalize hS : takeF O U x2 r n xs j = S at *
      obtain ⟨xs1, ok⟩ := S
      dsimp only at *
      have HBr := Lib.hid hb
      have HLr := Lib.hid hbl
      have HS := Lib.hid hS
      have HL1 := Lib.hid hl1
      clear hb hbl hS hl1 i1 hLE

      go_wp2
      go_region
      all_goals
        clear f0 f2 e0 e1 e2 g1 g2 z2
        obtain ⟨w7, hw7⟩ : ∃ wz, wz = (wr.setCell ⟨g, O + j, none⟩ (.int .i64 (wrap64 (nth xs1 (O + j) - wrap64 (nth r.out j * n))))).drew := ⟨_, rfl⟩
        rw [← hw7]
        obtain ⟨xs2, hxs2⟩ : ∃ l, l = xs1.set (O + j) (wrap64 (nth xs1 (O + j) - wrap64 (nth r.out j * n))) := ⟨_, rfl⟩
        have hB7 : Below B w w7 := by rw [hw7]; exact (HBr.out.setCell HG.out.1 _).drew
        have hL7 : Bld 2 w7 B (.slice (some ⟨g, 0, none⟩) xs.length cg) (xs2.map (.int .i64)) := by rw [hw7, hxs2]; exact (HLr.out.set_nth (O + j) _).below (Below.refl _ _).drew
        have hl7 : xs2.length = xs.length := by rw [hxs2, List.length_set]; exact HL1.out
        have HXxs2 := Lib.hid hxs2
        have HLX7 := Lib.hid hl7
        have f0 := (bcell1 hB7 hpB).trans hp0
        have f2 := (bcell1 hB7 hpB).trans hp2
        have e0 := (bcell1 hB7 hrB).trans hr0
        have e1 := (bcell1 hB7 hrB).trans hr1
        have e2 := (bcell1 hB7 hrB).trans hr2
        have g2 := hL7.at_nth (i := O + j) (by have := HLEN.out; omega)
        have g3 := hL7.at_nth (i := U + j) (by have := HLEN.out; omega)
        have z3 := hL7.free (U + j)
        have g4 := (K2.out.low hB7).cell j (by omega)
        have g5 := (H2.out.low hB7).cell j (by omega)
        have HB7 := Lib.hid hB7
        have HL7 := Lib.hid hL7
        clear hw7 hxs2 hB7 hL7 hl7
        cases ok
        · skip
          by_cases hcl : 0 < r.cell
          rotate_left
          · cases hfr : nthB x2 j
            rotate_left
            · have hins : insK x2 r j = false := by simp [insK, hcl, hfr]
              rw [hfr] at g5
              have HR : Hid (takeF O U x2 r n xs (j + 1) = (xs2, false)) := Lib.hid (by rw [HTK.out]; simp only [takeK, hins, Bool.false_eq_true, if_false, ← HXxs2.out]; simp)
              clear hins hfr
              go_wp2
              go_roundw
              case rel => exact ⟨j + 1, by omega, by go_num, by rw [HR.out], HB7.out, by rw [HR.out]; exact HL7.out⟩
              case measure => simp [intOf]; omega
            · have hins : insK x2 r j = true := by simp [insK, hfr]
              rw [hfr] at g5
              have HI := Lib.hid hins
              clear hins hfr
              go_wp2
              go_region
              all_goals
                clear f0 f2 e0 e1 e2 g2 g3 z3 g4 g5
                obtain ⟨w8, hw8⟩ : ∃ wz, wz = (w7.setCell ⟨g, U + j, none⟩ (.int .i64 (wrap64 (nth xs2 (U + j) - wrap64 (nth r.inn j * n))))).drew := ⟨_, rfl⟩
                rw [← hw8]
                obtain ⟨xs3, hxs3⟩ : ∃ l, l = xs2.set (U + j) (wrap64 (nth xs2 (U + j) - wrap64 (nth r.inn j * n))) := ⟨_, rfl⟩
                have hB8 : Below B w w8 := by rw [hw8]; exact (HB7.out.setCell HG.out.1 _).drew
                have hL8 : Bld 2 w8 B (.slice (some ⟨g, 0, none⟩) xs.length cg) (xs3.map (.int .i64)) := by rw [hw8, hxs3]; exact (HL7.out.set_nth (U + j) _).below (Below.refl _ _).drew
                have hl8 : xs3.length = xs.length := by rw [hxs3, List.length_set]; exact HLX7.out
                have HXxs3 := Lib.hid hxs3
                have HLX8 := Lib.hid hl8
                have f0 := (bcell1 hB8 hpB).trans hp0
                have f2 := (bcell1 hB8 hpB).trans hp2
                have e0 := (bcell1 hB8 hrB).trans hr0
                have e1 := (bcell1 hB8 hrB).trans hr1
                have e2 := (bcell1 hB8 hrB).trans hr2
                have g6 := hL8.at_nth (i := U + j) (by have := HLEN.out; omega)
                have HB8 := Lib.hid hB8
                have HL8 := Lib.hid hL8
                clear hw8 hxs3 hB8 hL8 hl8
                have HR : Hid (takeF O U x2 r n xs (j + 1) = (xs3, false)) := Lib.hid (by rw [HTK.out]; simp only [takeK, HI.out, if_true, ← HXxs2.out, ← HXxs3.out]; simp)
                go_wp2
                go_roundw
                case rel => exact ⟨j + 1, by omega, by go_num, by rw [HR.out], HB8.out, by rw [HR.out]; exact HL8.out⟩
                case measure => simp [intOf]; omega
          · have hins : insK x2 r j = true := by simp [insK, hcl]
            have HI := Lib.hid hins
            clear hins
            go_wp2
            go_region
            all_goals
              clear f0 f2 e0 e1 e2 g2 g3 z3 g4 g5
              obtain ⟨w8, hw8⟩ : ∃ wz, wz = (w7.setCell ⟨g, U + j, none⟩ (.int .i64 (wrap64 (nth xs2 (U + j) - wrap64 (nth r.inn j * n))))).drew := ⟨_, rfl⟩
              rw [← hw8]
              obtain ⟨xs3, hxs3⟩ : ∃ l, l = xs2.set (U + j) (wrap64 (nth xs2 (U + j) - wrap64 (nth r.inn j * n))) := ⟨_, rfl⟩
              have hB8 : Below B w w8 := by rw [hw8]; exact (HB7.out.setCell HG.out.1 _).drew
              have hL8 : Bld 2 w8 B (.slice (some ⟨g, 0, none⟩) xs.length cg) (xs3.map (.int .i64)) := by rw [hw8, hxs3]; exact (HL7.out.set_nth (U + j) _).below (Below.refl _ _).drew
              have hl8 : xs3.length = xs.length := by rw [hxs3, List.length_set]; exact HLX7.out
              have HXxs3 := Lib.hid hxs3
              have HLX8 := Lib.hid hl8
              have f0 := (bcell1 hB8 hpB).trans hp0
              have f2 := (bcell1 hB8 hpB).trans hp2
              have e0 := (bcell1 hB8 hrB).trans hr0
              have e1 := (bcell1 hB8 hrB).trans hr1
              have e2 := (bcell1 hB8 hrB).trans hr2
              have g6 := hL8.at_nth (i := U + j) (by have := HLEN.out; omega)
              have HB8 := Lib.hid hB8
              have HL8 := Lib.hid hL8
              clear hw8 hxs3 hB8 hL8 hl8
              have HR : Hid (takeF O U x2 r n xs (j + 1) = (xs3, false)) := Lib.hid (by rw [HTK.out]; simp only [takeK, HI.out, if_true, ← HXxs2.out, ← HXxs3.out]; simp)
              go_wp2
              go_roundw
              case rel => exact ⟨j + 1, by omega, by go_num, by rw [HR.out], HB8.out, by rw [HR.out]; exact HL8.out⟩
              case measure => simp [intOf]; omega
        · by_cases h1 : 0 ≤ nth xs2 (O + j)
          · skip
            by_cases hcl : 0 < r.cell
            rotate_left
            · cases hfr : nthB x2 j
              rotate_left
              · have hins : insK x2 r j = false := by simp [insK, hcl, hfr]
                rw [hfr] at g5
                have HR : Hid (takeF O U x2 r n xs (j + 1) = (xs2, true)) := Lib.hid (by rw [HTK.out]; simp only [takeK, hins, Bool.false_eq_true, if_false, ← HXxs2.out]; simp [h1])
                clear hins hfr
                go_wp2
                go_roundw
                case rel => exact ⟨j + 1, by omega, by go_num, by rw [HR.out], HB7.out, by rw [HR.out]; exact HL7.out⟩
                case measure => simp [intOf]; omega
              · have hins : insK x2 r j = true := by simp [insK, hfr]
                rw [hfr] at g5
                have HI := Lib.hid hins
                clear hins hfr
                go_wp2
                go_region
                all_goals
                  clear f0 f2 e0 e1 e2 g2 g3 z3 g4 g5
                  obtain ⟨w8, hw8⟩ : ∃ wz, wz = (w7.setCell ⟨g, U + j, none⟩ (.int .i64 (wrap64 (nth xs2 (U + j) - wrap64 (nth r.inn j * n))))).drew := ⟨_, rfl⟩
                  rw [← hw8]
                  obtain ⟨xs3, hxs3⟩ : ∃ l, l = xs2.set (U + j) (wrap64 (nth xs2 (U + j) - wrap64 (nth r.inn j * n))) := ⟨_, rfl⟩
                  have hB8 : Below B w w8 := by rw [hw8]; exact (HB7.out.setCell HG.out.1 _).drew
                  have hL8 : Bld 2 w8 B (.slice (some ⟨g, 0, none⟩) xs.length cg) (xs3.map (.int .i64)) := by rw [hw8, hxs3]; exact (HL7.out.set_nth (U + j) _).below (Below.refl _ _).drew
                  have hl8 : xs3.length = xs.length := by rw [hxs3, List.length_set]; exact HLX7.out
                  have HXxs3 := Lib.hid hxs3
                  have HLX8 := Lib.hid hl8
                  have f0 := (bcell1 hB8 hpB).trans hp0
                  have f2 := (bcell1 hB8 hpB).trans hp2
                  have e0 := (bcell1 hB8 hrB).trans hr0
                  have e1 := (bcell1 hB8 hrB).trans hr1
                  have e2 := (bcell1 hB8 hrB).trans hr2
                  have g6 := hL8.at_nth (i := U + j) (by have := HLEN.out; omega)
                  have HB8 := Lib.hid hB8
                  have HL8 := Lib.hid hL8
                  clear hw8 hxs3 hB8 hL8 hl8
                  by_cases h2 : 0 ≤ nth xs3 (U + j)
                  · have HR : Hid (takeF O U x2 r n xs (j + 1) = (xs3, true)) := Lib.hid (by rw [HTK.out]; simp only [takeK, HI.out, if_true, ← HXxs2.out, ← HXxs3.out]; simp [h1, h2])
                    go_wp2
                    go_roundw
                    case rel => exact ⟨j + 1, by omega, by go_num, by rw [HR.out], HB8.out, by rw [HR.out]; exact HL8.out⟩
                    case measure => simp [intOf]; omega
                  · have HR : Hid (takeF O U x2 r n xs (j + 1) = (xs3, false)) := Lib.hid (by rw [HTK.out]; simp only [takeK, HI.out, if_true, ← HXxs2.out, ← HXxs3.out]; simp [h1, h2])
                    go_wp2
                    go_roundw
                    case rel => exact ⟨j + 1, by omega, by go_num, by rw [HR.out], HB8.out, by rw [HR.out]; exact HL8.out⟩
                    case measure => simp [intOf]; omega
            · have hins : insK x2 r j = true := by simp [insK, hcl]
              have HI := Lib.hid hins
              clear hins
              go_wp2
              go_region
              all_goals
                clear f0 f2 e0 e1 e2 g2 g3 z3 g4 g5
                obtain ⟨w8, hw8⟩ : ∃ wz, wz = (w7.setCell ⟨g, U + j, none⟩ (.int .i64 (wrap64 (nth xs2 (U + j) - wrap64 (nth r.inn j * n))))).drew := ⟨_, rfl⟩
                rw [← hw8]
                obtain ⟨xs3, hxs3⟩ : ∃ l, l = xs2.set (U + j) (wrap64 (nth xs2 (U + j) - wrap64 (nth r.inn j * n))) := ⟨_, rfl⟩
                have hB8 : Below B w w8 := by rw [hw8]; exact (HB7.out.setCell HG.out.1 _).drew
                have hL8 : Bld 2 w8 B (.slice (some ⟨g, 0, none⟩) xs.length cg) (xs3.map (.int .i64)) := by rw [hw8, hxs3]; exact (HL7.out.set_nth (U + j) _).below (Below.refl _ _).drew
                have hl8 : xs3.length = xs.length := by rw [hxs3, List.length_set]; exact HLX7.out
                have HXxs3 := Lib.hid hxs3
                have HLX8 := Lib.hid hl8
                have f0 := (bcell1 hB8 hpB).trans hp0
                have f2 := (bcell1 hB8 hpB).trans hp2
                have e0 := (bcell1 hB8 hrB).trans hr0
                have e1 := (bcell1 hB8 hrB).trans hr1
                have e2 := (bcell1 hB8 hrB).trans hr2
                have g6 := hL8.at_nth (i := U + j) (by have := HLEN.out; omega)
                have HB8 := Lib.hid hB8
                have HL8 := Lib.hid hL8
                clear hw8 hxs3 hB8 hL8 hl8
                by_cases h2 : 0 ≤ nth xs3 (U + j)
                · have HR : Hid (takeF O U x2 r n xs (j + 1) = (xs3, true)) := Lib.hid (by rw [HTK.out]; simp only [takeK, HI.out, if_true, ← HXxs2.out, ← HXxs3.out]; simp [h1, h2])
                  go_wp2
                  go_roundw
                  case rel => exact ⟨j + 1, by omega, by go_num, by rw [HR.out], HB8.out, by rw [HR.out]; exact HL8.out⟩
                  case measure => simp [intOf]; omega
                · have HR : Hid (takeF O U x2 r n xs (j + 1) = (xs3, false)) := Lib.hid (by rw [HTK.out]; simp only [takeK, HI.out, if_true, ← HXxs2.out, ← HXxs3.out]; simp [h1, h2])
                  go_wp2
                  go_roundw
                  case rel => exact ⟨j + 1, by omega, by go_num, by rw [HR.out], HB8.out, by rw [HR.out]; exact HL8.out⟩
                  case measure => simp [intOf]; omega
          · skip
            by_cases hcl : 0 < r.cell
            rotate_left
            · cases hfr : nthB x2 j
              rotate_left
              · have hins : insK x2 r j = false := by simp [insK, hcl, hfr]
                rw [hfr] at g5
                have HR : Hid (takeF O U x2 r n xs (j + 1) = (xs2, false)) := Lib.hid (by rw [HTK.out]; simp only [takeK, hins, Bool.false_eq_true, if_false, ← HXxs2.out]; simp [h1])
                clear hins hfr
                go_wp2
                go_roundw
                case rel => exact ⟨j + 1, by omega, by go_num, by rw [HR.out], HB7.out, by rw [HR.out]; exact HL7.out⟩
                case measure => simp [intOf]; omega
              · have hins : insK x2 r j = true := by simp [insK, hfr]
                rw [hfr] at g5
                have HI := Lib.hid hins
                clear hins hfr
                go_wp2
                go_region
                all_goals
                  clear f0 f2 e0 e1 e2 g2 g3 z3 g4 g5
                  obtain ⟨w8, hw8⟩ : ∃ wz, wz = (w7.setCell ⟨g, U + j, none⟩ (.int .i64 (wrap64 (nth xs2 (U + j) - wrap64 (nth r.inn j * n))))).drew := ⟨_, rfl⟩
                  rw [← hw8]
                  obtain ⟨xs3, hxs3⟩ : ∃ l, l = xs2.set (U + j) (wrap64 (nth xs2 (U + j) - wrap64 (nth r.inn j * n))) := ⟨_, rfl⟩
                  have hB8 : Below B w w8 := by rw [hw8]; exact (HB7.out.setCell HG.out.1 _).drew
                  have hL8 : Bld 2 w8 B (.slice (some ⟨g, 0, none⟩) xs.length cg) (xs3.map (.int .i64)) := by rw [hw8, hxs3]; exact (HL7.out.set_nth (U + j) _).below (Below.refl _ _).drew
                  have hl8 : xs3.length = xs.length := by rw [hxs3, List.length_set]; exact HLX7.out
                  have HXxs3 := Lib.hid hxs3
                  have HLX8 := Lib.hid hl8
                  have f0 := (bcell1 hB8 hpB).trans hp0
                  have f2 := (bcell1 hB8 hpB).trans hp2
                  have e0 := (bcell1 hB8 hrB).trans hr0
                  have e1 := (bcell1 hB8 hrB).trans hr1
                  have e2 := (bcell1 hB8 hrB).trans hr2
                  have g6 := hL8.at_nth (i := U + j) (by have := HLEN.out; omega)
                  have HB8 := Lib.hid hB8
                  have HL8 := Lib.hid hL8
                  clear hw8 hxs3 hB8 hL8 hl8
                  have HR : Hid (takeF O U x2 r n xs (j + 1) = (xs3, false)) := Lib.hid (by rw [HTK.out]; simp only [takeK, HI.out, if_true, ← HXxs2.out, ← HXxs3.out]; simp only [decide_eq_false (show ¬ 0 ≤ nth xs2 (O + j) by omega), Bool.and_false, Bool.false_and])
                  go_wp2
                  go_roundw
                  case rel => exact ⟨j + 1, by omega, by go_num, by rw [HR.out], HB8.out, by rw [HR.out]; exact HL8.out⟩
                  case measure => simp [intOf]; omega
            · have hins : insK x2 r j = true := by simp [insK, hcl]
              have HI := Lib.hid hins
              clear hins
              go_wp2
              go_region
              all_goals
                clear f0 f2 e0 e1 e2 g2 g3 z3 g4 g5
                obtain ⟨w8, hw8⟩ : ∃ wz, wz = (w7.setCell ⟨g, U + j, none⟩ (.int .i64 (wrap64 (nth xs2 (U + j) - wrap64 (nth r.inn j * n))))).drew := ⟨_, rfl⟩
                rw [← hw8]
                obtain ⟨xs3, hxs3⟩ : ∃ l, l = xs2.set (U + j) (wrap64 (nth xs2 (U + j) - wrap64 (nth r.inn j * n))) := ⟨_, rfl⟩
                have hB8 : Below B w w8 := by rw [hw8]; exact (HB7.out.setCell HG.out.1 _).drew
                have hL8 : Bld 2 w8 B (.slice (some ⟨g, 0, none⟩) xs.length cg) (xs3.map (.int .i64)) := by rw [hw8, hxs3]; exact (HL7.out.set_nth (U + j) _).below (Below.refl _ _).drew
                have hl8 : xs3.length = xs.length := by rw [hxs3, List.length_set]; exact HLX7.out
                have HXxs3 := Lib.hid hxs3
                have HLX8 := Lib.hid hl8
                have f0 := (bcell1 hB8 hpB).trans hp0
                have f2 := (bcell1 hB8 hpB).trans hp2
                have e0 := (bcell1 hB8 hrB).trans hr0
                have e1 := (bcell1 hB8 hrB).trans hr1
                have e2 := (bcell1 hB8 hrB).trans hr2
                have g6 := hL8.at_nth (i := U + j) (by have := HLEN.out; omega)
                have HB8 := Lib.hid hB8
                have HL8 := Lib.hid hL8
                clear hw8 hxs3 hB8 hL8 hl8
                have HR : Hid (takeF O U x2 r n xs (j + 1) = (xs3, false)) := Lib.hid (by rw [HTK.out]; simp only [takeK, HI.out, if_true, ← HXxs2.out, ← HXxs3.out]; simp only [decide_eq_false (show ¬ 0 ≤ nth xs2 (O + j) by omega), Bool.and_false, Bool.false_and])
                go_wp2
                go_roundw
                case rel => exact ⟨j + 1, by omega, by go_num, by rw [HR.out], HB8.out, by rw [HR.out]; exact HL8.out⟩
                case measure => simp [intOf]; omega
    · have e : j = K := by omega
      subst e
      have HBr := Lib.hid hb
      have HLr := Lib.hid hbl
      clear hb hbl i1
      go_wp2
      go_ret
      exact ⟨⟨rfl, HLr.out⟩, HBr.out⟩
end Go.Proofs.Ytkjmehpehopncaa

/- Whether weights are an invariant: contracts. -/
namespace Go.Proofs.Ytkjmehpehopncaa
open Go.RowKit

def isPassInvS (x0 : Int) (x1 : List Int) (x2 : List Bool) (x3 : List PR) (ws : List (List Int)) : Bool × Int :=
  if okPass x0 x1 x2 x3 = true then (if areW x0 x1.length ws = true then (freeZero x2 (nthR ws x1.length) && allPR (invRule x1 ws) x3, 0) else (false, 2)) else (false, 1)
theorem isPassInv_bad {x0 : Int} {x1 : List Int} {x2 : List Bool} {x3 : List PR} {ws : List (List Int)} (h : okPass x0 x1 x2 x3 = false) : isPassInvS x0 x1 x2 x3 ws = (false, 1) := by simp [isPassInvS, h]
theorem isPassInv_two {x0 : Int} {x1 : List Int} {x2 : List Bool} {x3 : List PR} {ws : List (List Int)} (h : okPass x0 x1 x2 x3 = true) (h2 : areW x0 x1.length ws = false) : isPassInvS x0 x1 x2 x3 ws = (false, 2) := by simp [isPassInvS, h, h2]
theorem isPassInv_fine {x0 : Int} {x1 : List Int} {x2 : List Bool} {x3 : List PR} {ws : List (List Int)} (h : okPass x0 x1 x2 x3 = true) (h2 : areW x0 x1.length ws = true) : isPassInvS x0 x1 x2 x3 ws = (freeZero x2 (nthR ws x1.length) && allPR (invRule x1 ws) x3, 0) := by simp [isPassInvS, h, h2]
set_option maxHeartbeats 1000000 in
theorem parent_c (x0 : Int) (x1 : List Int) (a1 : Option Addr) (c1 : Nat) (v2 v3 : Value) (c : Int) (w : World) (h1 : SlI Any w a1 x1) (hc : 0 ≤ c ∧ c < x1.length) :
    Calls Try.prog 62 #[.agg #[.int .i64 x0, .slice a1 x1.length c1, v2, v3], .int .i64 c] w (RetV w (.int .i64 (upS x1 c))) := by
  have hb0 := below_alloc w (.cells #[.int .i64 x0, .slice a1 x1.length c1, v2, v3] 28)
  have l1 := h1.len
  have HO := Lib.hid (outside_c x0 x1.length c1 a1 v2 v3 (w.alloc (.cells #[.int .i64 x0, .slice a1 x1.length c1, v2, v3] 28)) l1)
  have i1 := fun w' => h1.ix tabI.under tabI.size c1 c w' hc.1 hc.2
  have g1 := (h1.below hb0).cell c.toNat (by omega)
  have HB0 := Lib.hid hb0
  clear hb0 h1
  by_cases e : c = 0
  · have e2 : upS x1 c = x1.length := by simp [upS, e]
    have e3 : (c == 0) = true := by simpa using e
    rw [e2]
    clear e2 e g1 i1
    go_enter Try.func62, Try.ntmps62
    go_wp2_with fail
    refine HO.out.mono ?_
    rintro e w1 ⟨rfl, hb1⟩
    have HB1 := Lib.hid (HB0.out.trans (hb1.mono (by simp <;> omega)))
    clear hb1
    go_wp2
    go_ret
    exact ⟨rfl, HB1.out⟩
  · have e2 : upS x1 c = nth x1 c.toNat := by simp [upS, e]
    have e3 : (c == 0) = false := by simpa using e
    rw [e2]
    clear e2 e
    go_enter Try.func62, Try.ntmps62
    go_wp2
    go_ret
    exact ⟨rfl, HB0.out⟩
end Go.Proofs.Ytkjmehpehopncaa

/- Whether counts fit: the program's functions. -/
namespace Go.Proofs.Ytkjmehpehopncaa
open Go.RowKit

theorem SlI.other {w : World} {a : Option Addr} {xs : List Int} {g : Nat} (h : SlI Any w a xs) (hg : w.heap.size ≤ g) : SlI (· ≠ g) w a xs :=
  ⟨h.len, fun h0 => ⟨by have := World.block_lt_of_cell? w _ (h.cell 0 h0); simp only [adr] at this; omega, (h.ptr h0).2⟩, h.cell⟩
theorem SlI.agree {S : Nat → Prop} {w w' : World} {a : Option Addr} {xs : List Int} (h : SlI S w a xs) (ha : Agree S w w') : SlI S w' a xs := by
  obtain ⟨a', c', e, h'⟩ := Rd_I.1 (Rd.stable ha _ _ (Rd_I.2 ⟨a, 0, rfl, h⟩))
  cases e; exact h'
theorem SlI.set_other {w : World} {a : Option Addr} {xs : List Int} {g i : Nat} {u : Value} (h : SlI (· ≠ g) w a xs) : SlI (· ≠ g) (w.setCell ⟨g, i, none⟩ u) a xs :=
  h.agree (fun k hk => (Exc.setCell w ⟨g, i, none⟩ u).block k (by simp; exact hk))
/-- The bags are listed at g; the rows lie elsewhere. -/
structure Bgs (B : Nat) (wr : World) (g n c : Nat) (bags : List (List Int)) : Prop where
  len : bags.length = n
  row : ∃ vs : List Value, Bld 24 wr B (.slice (some ⟨g, 0, none⟩) n c) vs ∧ vs.length = n ∧ ∀ i, i < n → ∃ a cp, vs[i]? = some (.slice a (nthR bags i).length cp) ∧ SlI (· ≠ g) wr a (nthR bags i)
theorem Bgs.base {B : Nat} {wr : World} {g n c : Nat} {bags : List (List Int)} (h : Bgs B wr g n c bags) : B ≤ g ∧ g < wr.heap.size := by
  obtain ⟨vs, h1, _, _⟩ := h.row
  exact h1.base
theorem Bgs.cell {B : Nat} {wr : World} {g n c : Nat} {bags : List (List Int)} (h : Bgs B wr g n c bags) {i : Nat} (hi : i < n) : ∃ a cp, wr.cell? ⟨g, i, none⟩ = some (.slice a (nthR bags i).length cp) ∧ SlI (· ≠ g) wr a (nthR bags i) := by
  obtain ⟨vs, h1, _, h3⟩ := h.row
  obtain ⟨a, cp, h4, h5⟩ := h3 i hi
  exact ⟨a, cp, h1.cell h4, h5⟩
theorem Bgs.free {B : Nat} {wr : World} {g n c : Nat} {bags : List (List Int)} (h : Bgs B wr g n c bags) (i : Nat) : wr.frozen? ⟨g, i, none⟩ = false := by
  obtain ⟨vs, h1, _, _⟩ := h.row
  exact h1.free i
theorem Bgs.later {B : Nat} {wr w' : World} {g n c : Nat} {bags : List (List Int)} (h : Bgs B wr g n c bags) (hb : Below wr.heap.size wr w') : Bgs B w' g n c bags := by
  obtain ⟨vs, h1, h2, h3⟩ := h.row
  refine ⟨h.len, vs, h1.below hb, h2, fun i hi => ?_⟩
  obtain ⟨a, cp, h4, h5⟩ := h3 i hi
  exact ⟨a, cp, h4, h5.below hb⟩
theorem Bgs.set {B : Nat} {wr : World} {g n c : Nat} {bags : List (List Int)} (h : Bgs B wr g n c bags) {i : Nat} (hi : i < n) {a : Option Addr} {cp : Nat} {ys : List Int} (hy : SlI (· ≠ g) wr a ys) :
    Bgs B (wr.setCell ⟨g, i, none⟩ (.slice a ys.length cp)) g n c (bags.set i ys) := by
  obtain ⟨vs, h1, h2, h3⟩ := h.row
  have hl := h.len
  refine ⟨by simpa using hl, vs.set i (.slice a ys.length cp), h1.set i _, by simpa using h2, fun j hj => ?_⟩
  rw [nthR_set (by omega)]
  by_cases e : j = i
  · subst e
    rw [if_pos rfl]
    exact ⟨a, cp, by simp [h2, hj], hy.set_other⟩
  · rw [if_neg e]
    obtain ⟨a', cp', h4, h5⟩ := h3 j hj
    exact ⟨a', cp', by rw [List.getElem?_set_ne (by omega)]; exact h4, h5.set_other⟩
theorem Bgs.slII {B : Nat} {wr : World} {g n c : Nat} {bags : List (List Int)} (h : Bgs B wr g n c bags) (hn : n ≤ maxLen) : SlII Any wr (some ⟨g, 0, none⟩) bags := by
  have hl := h.len
  refine ⟨by omega, fun _ => ⟨trivial, g, 0, rfl⟩, fun i hi => ?_⟩
  obtain ⟨a, cp, h4, h5⟩ := h.cell (i := i) (by omega)
  exact ⟨a, cp, by simpa [adr, blk, ofs] using h4, h5.any⟩
/-- 'append(v, xs...)' of values. -/
theorem app_vals {P : Program} {ops : Array Oper} {rest : List Oper} {o : Oper} {ac : Act} {Q : Exit → Act → World → Prop} {w : World} (hgd : o.guard = none) (s x : Operand) (T : TypeId)
    (ho : o.op = .call { callee := .builtin .append, args := #[s, x], argTypes := #[T, T] }) {E bytes : Nat} {z : Value} (tab : Tab P T E z 1 bytes) (hzs : z.cells.size = 1) (hby : bytes ≤ 1024)
    (B : Nat) (v : Value) (vs : List Value) (hs : ac.eval s = v) (hown : Bld E w B v vs) (ad : Addr) (n c : Nat) (ys : List Value) (hx : ac.eval x = .slice (some ad) n c) (hn : ys.length = n) (hc : ∀ j u, ys[j]? = some u → w.cell? (ad.add j) = some u) (h1 : ∀ u ∈ ys, u.oneCell' = true) (hlen : vs.length + n < 4294967296) (hB : B ≤ w.heap.size)
    (K : ∀ v' w', Bld E w' B v' (vs ++ ys) → Below B w w' → wpList P ops Q rest (ac.put o.dst v') w') : wpList P ops Q (o :: rest) ac w := by
  obtain ⟨i0, hi, hz0, hz1, hz2⟩ := info_parts tab.info
  have hlt := hown.lt
  refine wpList_append_own w hgd s x T ho B E i0 z 1 bytes tab.under hi hz0 hz1 hz2 hzs (by decide) v vs.length vs hs hown ad n c ys hx (by rw [hn]; simp) hc h1 (by unfold maxLen; omega) (by
    have : (vs.length + n) * bytes ≤ 4294967296 * 1024 := Nat.mul_le_mul (by omega) hby
    omega) hB ?_
  intro v' w' h2 h3 _
  refine K v' w' (by simpa [Bld, hn] using h2) ?_
  exact (Below.refl B w).grown h3 hB fun k hk => (hlt k hk).1
set_option maxHeartbeats 400000 in
set_option maxRecDepth 100000 in
theorem cloneII_c (ad : Addr) (n c : Nat) (vs : List Value) (w : World) (hn : vs.length = n) (hc : ∀ j u, vs[j]? = some u → w.cell? (ad.add j) = some u) (h1 : ∀ u ∈ vs, u.oneCell' = true) (l1 : n < 4294967296) :
    Calls Try.prog 61 #[.slice (some ad) n c] w (fun e w' => ∃ v, e = .returned v ∧ Below w.heap.size w w' ∧ Bld 24 w' w.heap.size v vs) := by
  have hbl := Bld.empty 24 w w.heap.size (Nat.le_refl _)
  have hb0 := below_alloc w (.cells #[] 24)
  have hc' : ∀ j u, vs[j]? = some u → (w.alloc (.cells #[] 24)).cell? (ad.add j) = some u := fun j u hu => (hb0.cell (World.block_lt_of_cell? w _ (hc j u hu))).trans (hc j u hu)
  have heq := fun (w : World) => run_eql_some_nil (P := Try.prog) w ad n c tabII.under
  clear hc
  go_enter Try.func61, Try.ntmps61
  go_wp2_with (at_builtin; refine app_vals rfl _ _ 29 rfl tabII rfl (by decide) w.heap.size _ [] rfl hbl ad n c vs rfl hn hc' h1 (by simpa using l1) (by simp) ?_)
  intro v' w1 hbl1 hb1
  replace hbl1 : Bld 24 w1 w.heap.size v' vs := hbl1
  go_wp2
  go_ret
  exact ⟨v', rfl, (below_alloc _ _).trans hb1, hbl1⟩
set_option maxHeartbeats 400000 in
set_option maxRecDepth 100000 in
theorem cloneB_c (S : Nat → Prop) (ad : Addr) (c : Nat) (xs : List Int) (w : World) (hx : SlI S w (some ad) xs) (l1 : xs.length < 4294967296) :
    Calls Try.prog 49 #[.slice (some ad) xs.length c] w (RetB 2 w xs) := by
  have hbl := Bld.empty 2 w w.heap.size (Nat.le_refl _)
  have hx' := hx.below (below_alloc w (.cells #[] 2))
  have heq := fun (w : World) => run_eql_some_nil (P := Try.prog) w ad xs.length c tabI.under
  go_enter Try.func49, Try.ntmps49
  go_wp2_with (at_builtin; refine app_many rfl _ _ 24 rfl tabI rfl (by decide) w.heap.size _ [] rfl hbl S (some ad) c xs rfl hx' ⟨ad, rfl⟩ (by simpa using l1) (by simp) ?_)
  intro v' w1 hbl1 hb1
  replace hbl1 : Bld 2 w1 w.heap.size v' (xs.map (.int .i64)) := hbl1
  go_wp2
  go_ret
  exact ⟨v', rfl, (below_alloc _ _).trans hb1, hbl1⟩
/-- The first k objects without those that are free. -/
def bndS (free : List Bool) (xs : List Int) (k : Nat) : List Int := mixS (boundS free xs) xs k
theorem bndS_len (free : List Bool) (xs : List Int) (k : Nat) : (bndS free xs k).length = xs.length := mix_len _ _ _
theorem bndS_yes {free : List Bool} {xs : List Int} {k : Nat} (hk : k < xs.length) (h : nthB free k = true) : (bndS free xs k).set k 0 = bndS free xs (k + 1) := by
  have := mix_set (new := boundS free xs) (old := xs) hk
  rw [boundS_at hk, if_pos h] at this
  exact this
theorem bndS_no {free : List Bool} {xs : List Int} {k : Nat} (hk : k < xs.length) (h : nthB free k = false) : bndS free xs k = bndS free xs (k + 1) := nth_ext (by rw [bndS_len, bndS_len]) fun j hj => by
  rw [bndS_len] at hj
  unfold bndS
  rw [mix_at hj, mix_at hj]
  by_cases e : j = k
  · subst e; rw [if_neg (by omega), if_pos (by omega), boundS_at hk, h]; simp
  · by_cases e2 : j < k
    · rw [if_pos e2, if_pos (by omega)]
    · rw [if_neg e2, if_neg (by omega)]
set_option maxHeartbeats 1000000 in
theorem bound_c (x0 : Int) (v1 v3 : Value) (af ab : Option Addr) (cf cb : Nat) (free : List Bool) (xs : List Int) (w : World) (hf : SlB Any w af free) (hx : SlI Any w ab xs) (hl : free.length = xs.length) (h0 : 0 < xs.length) (h8 : xs.length ≤ 8) :
    Calls Try.prog 64 #[.agg #[.int .i64 x0, v1, .slice af free.length cf, v3], .slice ab xs.length cb] w (RetD w (dI (boundS free xs))) := by
  obtain ⟨ad, rfl⟩ := hx.addr h0
  have hb0 := below_alloc w (.cells #[.int .i64 x0, v1, .slice af free.length cf, v3] 28)
  have HC := Lib.hid (cloneB_c Any ad cb xs _ (hx.below hb0) (by omega))
  have l2 := hf.len
  unfold maxLen at l2
  have i2 := hf.ix tabB.under tabB.size cf
  have HF := Lib.hid hf
  have HB0 := Lib.hid hb0
  have HL := Lib.hid hl
  have hfl : free.length ≤ 8 := by omega
  clear hx hf hb0 hl
  go_enter Try.func64, Try.ntmps64
  go_wp2_with fail
  refine HC.out.mono ?_
  rintro e w1 ⟨v, rfl, hb1, hl1⟩
  obtain ⟨g, cg, rfl⟩ : ∃ g c, v = .slice (some ⟨g, 0, none⟩) xs.length c := by
    have := hl1.ptr (by simp; omega)
    simpa using this
  have hg := hl1.base
  have hgw : w.heap.size ≤ g := by have := hg.1; simp at this; omega
  have f2 : w1.cell? ⟨w.heap.size, 2, none⟩ = some (.slice af free.length cf) := by rw [bcell1 hb1 (by simp)]; simp [go_sem]
  have HB1 := Lib.hid (HB0.out.trans (hb1.mono (by simp <;> omega)))
  have HL1 : Hid (Bld 2 w1 (w.heap.size + 1) (.slice (some ⟨g, 0, none⟩) xs.length cg) ((bndS free xs 0).map (.int .i64))) := Lib.hid (by
    rw [bndS, mix_zero]
    simpa using hl1)
  have hg1 : w.heap.size + 1 ≤ g := by have := hg.1; simpa using this
  clear hb1 hl1 hg
  go_wp2
  go_loopw [6, 7, 13] (fun _ _ i wr => ∃ k : Nat, k ≤ free.length ∧ i = .int .i64 k ∧ Below w.heap.size w wr ∧ Bld 2 wr (w.heap.size + 1) (.slice (some ⟨g, 0, none⟩) xs.length cg) ((bndS free xs k).map (.int .i64))) (fun _ _ i _ => free.length - (intOf i).toNat)
  case atStart => exact ⟨0, Nat.zero_le _, rfl, HB1.out, HL1.out⟩
  case round =>
    obtain ⟨k, hk, rfl, hb, hbl⟩ := hrel
    by_cases hlt : k < free.length
    · have hkx : k < xs.length := by have := HL.out; omega
      have hkx2 : (k : Int) < xs.length := by omega
      have g1 := (HF.out.below hb).cell k hlt
      have g2 := hbl.at_nth (i := k) (by rw [bndS_len]; exact hkx)
      have z2 := hbl.free k
      have i3 := ix_of (P := Try.prog) tabI.under tabI.size (a := some ⟨g, 0, none⟩) (n := xs.length) (fun _ => ⟨g, 0, rfl⟩) cg
      simp only [Nat.mul_one, adr, blk, ofs, Nat.zero_add] at i3
      have HB := Lib.hid hb
      have HBL := Lib.hid hbl
      clear hb hbl
      cases hf : nthB free k
      · rw [hf] at g1
        have HE := Lib.hid (bndS_no hkx hf)
        clear hf
        go_wp2
        go_roundw
        case rel => exact ⟨k + 1, by omega, by go_num, HB.out, by rw [← HE.out]; exact HBL.out⟩
        case measure => simp [intOf]; omega
      · rw [hf] at g1
        have HE := Lib.hid (bndS_yes hkx hf)
        clear hf
        go_wp2
        go_roundw
        case rel => exact ⟨k + 1, by omega, by go_num, HB.out.setCell hgw _, by rw [← HE.out]; exact HBL.out.set_nth k 0⟩
        case measure => simp [intOf]; omega
    · have e : k = xs.length := by have := HL.out; omega
      have hfin : bndS free xs xs.length = boundS free xs := by unfold bndS; exact mix_full (boundS_len _ _)
      rw [e, hfin] at hbl
      have hbl' : Bld 2 _ w.heap.size (.slice (some ⟨g, 0, none⟩) xs.length cg) ((boundS free xs).map (.int .i64)) := hbl.lower (by omega)
      have HR := Lib.hid (RetD.ofBld hbl' (by rw [boundS_len]; unfold maxLen; omega) hb)
      clear hb hbl hbl' hfin
      go_wp2
      go_ret
      exact HR.out
/-- The least of the first k + 1. -/
def minTo (xs : List Int) : Nat → Int
  | 0 => nth xs 0
  | k + 1 => if nth xs (k + 1) < minTo xs k then nth xs (k + 1) else minTo xs k
theorem minTo_neg (xs : List Int) : ∀ k, minTo xs k < 0 ↔ ∃ j, j ≤ k ∧ nth xs j < 0
  | 0 => ⟨fun h => ⟨0, Nat.le_refl _, h⟩, fun ⟨j, hj, h⟩ => by rw [show j = 0 by omega] at h; exact h⟩
  | k + 1 => by
    have ih := minTo_neg xs k
    rw [minTo]
    constructor
    · intro h
      by_cases h2 : minTo xs k < 0
      · obtain ⟨j, hj, hn⟩ := ih.1 h2
        exact ⟨j, by omega, hn⟩
      · refine ⟨k + 1, Nat.le_refl _, ?_⟩
        split at h <;> omega
    · rintro ⟨j, hj, hn⟩
      by_cases e : j = k + 1
      · subst e; split <;> omega
      · have := ih.2 ⟨j, by omega, hn⟩; split <;> omega
theorem min_geB {xs : List Int} (h : 0 < xs.length) : decide (minTo xs (xs.length - 1) < 0) = !geB xs := by
  rw [Bool.eq_iff_iff]
  simp only [decide_eq_true_eq, Bool.not_eq_true', minTo_neg]
  constructor
  · rintro ⟨j, hj, hn⟩
    exact allB_false (k := j) (by omega) (by simpa using hn)
  · intro hf
    by_cases hh : ∃ j, j ≤ xs.length - 1 ∧ nth xs j < 0
    · exact hh
    · have : geB xs = true := allB_true fun j hj => by
        have : ¬ nth xs j < 0 := fun hn => hh ⟨j, by omega, hn⟩
        simpa using this
      rw [this] at hf; cases hf
set_option maxHeartbeats 400000 in
theorem minI_c (a : Option Addr) (c : Nat) (xs : List Int) (w : World) (hx : SlI Any w a xs) (h0 : 0 < xs.length) :
    Calls Try.prog 44 #[.slice a xs.length c] w (RetP w (.int .i64 (minTo xs (xs.length - 1)))) := by
  have l1 := hx.len
  unfold maxLen at l1
  have i1 := hx.ix tabI.under tabI.size c
  have g0 := hx.cell 0 h0
  have h00 : (0 : Int) < xs.length := by omega
  have i0 := fun w' => i1 0 w' (by omega) h00
  rw [Int.toNat_zero] at i0
  go_enter Try.func44, Try.ntmps44
  go_wp2
  go_loopw [3, 4] (fun m i wr => ∃ k : Nat, k + 1 ≤ xs.length ∧ i = .int .i64 ((k : Int) + 1) ∧ m = .int .i64 (minTo xs k) ∧ w = wr) (fun _ i _ => xs.length - (intOf i).toNat)
  case atStart => exact ⟨0, by omega, rfl, rfl, rfl⟩
  case round =>
    obtain ⟨k, hk, rfl, rfl, rfl⟩ := hrel
    by_cases hlt : k + 1 < xs.length
    · have g1 := hx.cell (k + 1) hlt
      have hlt' : (k : Int) + 1 < xs.length := by omega
      have i2 := fun w' => i1 ((k : Int) + 1) w' (by omega) hlt'
      rw [show ((k : Int) + 1).toNat = k + 1 from by omega] at i2
      go_wp2
      go_roundw
      case rel => exact ⟨k + 1, by omega, by go_num, (by first | rfl | (rw [minTo])), trivial⟩
      case measure => simp [intOf]; omega
    · have e : k = xs.length - 1 := by omega
      have hlt' : ¬ (k : Int) + 1 < xs.length := by omega
      have HE := Lib.hid (show minTo xs k = minTo xs (xs.length - 1) by rw [e])
      clear e
      go_wp2
      go_ret
      exact ⟨ret_int HE.out, rfl⟩
theorem fits1_c (a : Option Addr) (c : Nat) (xs : List Int) (w : World) (hx : SlI Any w a xs) (h0 : 0 < xs.length) :
    Calls Try.prog 43 #[.slice a xs.length c] w (RetP w (.bool (!geB xs))) := by
  have HM := Lib.hid (minI_c a c xs w hx h0)
  have HG := Lib.hid (min_geB h0)
  go_enter Try.func43, Try.ntmps43
  go_wp2_with fail
  refine HM.out.mono ?_
  rintro e w' ⟨rfl, rfl⟩
  go_wp2
  go_ret
  exact ⟨ret_bool HG.out, rfl⟩
end Go.Proofs.Ytkjmehpehopncaa

/- The bags that counts leave: the program's function. -/
namespace Go.Proofs.Ytkjmehpehopncaa
open Go.RowKit

theorem SlII.vals {w : World} {ad : Addr} {xss : List (List Int)} (h : SlII Any w (some ad) xss) (h0 : 0 < xss.length) :
    ∃ vs : List Value, vs.length = xss.length ∧ (∀ j u, vs[j]? = some u → w.cell? (ad.add j) = some u) ∧ (∀ u ∈ vs, u.oneCell' = true) ∧ ∀ i, i < xss.length → ∃ a cp, vs[i]? = some (.slice a (nthR xss i).length cp) ∧ SlI Any w a (nthR xss i) := by
  obtain ⟨_, g, o, e⟩ := h.ptr h0
  cases e
  have key : ∀ n, n ≤ xss.length → ∃ vs : List Value, vs.length = n ∧ ∀ i, i < n → ∃ a cp, vs[i]? = some (.slice a (nthR xss i).length cp) ∧ w.cell? ⟨g, o + i, none⟩ = some (.slice a (nthR xss i).length cp) ∧ SlI Any w a (nthR xss i) := by
    intro n
    induction n with
    | zero => intro _; exact ⟨[], rfl, fun i hi => absurd hi (by omega)⟩
    | succ n ih =>
      intro hn
      obtain ⟨vs, hl, hv⟩ := ih (by omega)
      obtain ⟨a, cp, hc, hs⟩ := h.cell n (by omega)
      refine ⟨vs ++ [.slice a (nthR xss n).length cp], by simp [hl], fun i hi => ?_⟩
      by_cases e : i = n
      · subst e
        exact ⟨a, cp, by simp [← hl], by simpa [adr, blk, ofs] using hc, hs⟩
      · obtain ⟨a', cp', h1, h2, h3⟩ := hv i (by omega)
        exact ⟨a', cp', by rw [List.getElem?_append_left (by omega)]; exact h1, h2, h3⟩
  obtain ⟨vs, hl, hv⟩ := key xss.length (Nat.le_refl _)
  refine ⟨vs, hl, fun j u hu => ?_, fun u hu => ?_, fun i hi => ?_⟩
  · have hj : j < vs.length := (List.getElem?_eq_some_iff.1 hu).1
    obtain ⟨a, cp, h1, h2, _⟩ := hv j (by omega)
    rw [h1] at hu; cases hu
    rw [Addr.add_lit]; exact h2
  · obtain ⟨j, hj, rfl⟩ := List.getElem_of_mem hu
    obtain ⟨a, cp, h1, _, _⟩ := hv j (by omega)
    rw [List.getElem?_eq_getElem hj] at h1
    have := Option.some.inj h1
    rw [this]; rfl
  · obtain ⟨a, cp, h1, _, h3⟩ := hv i hi
    exact ⟨a, cp, h1, h3⟩
theorem SlII.addr {S : Nat → Prop} {w : World} {a : Option Addr} {xss : List (List Int)} (h : SlII S w a xss) (h0 : 0 < xss.length) : ∃ ad, a = some ad := by
  obtain ⟨g, o, e⟩ := (h.ptr h0).2
  exact ⟨_, e⟩
theorem SlI.mono {S T : Nat → Prop} {w : World} {a : Option Addr} {xs : List Int} (h : SlI S w a xs) (hs : ∀ k, S k → T k) : SlI T w a xs := ⟨h.len, fun h0 => ⟨hs _ (h.ptr h0).1, (h.ptr h0).2⟩, h.cell⟩
theorem Ow.other {w : World} {xs : List Int} {a : Option Addr} {n c : Nat} {F : List Nat} {g B : Nat} (h : Ow w (dI xs) (.slice a n c) F) (hF : ∀ x, x ∈ F → B ≤ x) (hg : g < B) : SlI (· ≠ g) w a xs := by
  obtain ⟨a', c', e, h'⟩ := h.slI
  cases e
  exact h'.mono (fun k hk => by have := hF k hk; omega)
theorem Bgs.lower {B B' : Nat} {wr : World} {g n c : Nat} {bags : List (List Int)} (h : Bgs B wr g n c bags) (hB : B' ≤ B) : Bgs B' wr g n c bags := by
  obtain ⟨vs, h1, h2, h3⟩ := h.row
  exact ⟨h.len, vs, h1.lower hB, h2, h3⟩
theorem Bgs.start {w w' : World} {B g n c : Nat} {y0 : List (List Int)} {y1 : List Int} {b1 : Option Addr} {d1 : Nat} {vs : List Value} (hl : Bld 24 w' B (.slice (some ⟨g, 0, none⟩) n c) (vs ++ [.slice b1 y1.length d1])) (hn : n = y0.length + 1) (hvl : vs.length = y0.length)
    (hv : ∀ i, i < y0.length → ∃ a cp, vs[i]? = some (.slice a (nthR y0 i).length cp) ∧ SlI Any w a (nthR y0 i)) (k1 : SlI Any w b1 y1) (hb : Below w.heap.size w w') (hB : w.heap.size ≤ B) : Bgs B w' g n c (bagsS y0 y1) := by
  have hg : w.heap.size ≤ g := Nat.le_trans hB hl.base.1
  refine ⟨by rw [bagsS_len]; exact hn.symm, vs ++ [.slice b1 y1.length d1], hl, by simp [hvl, hn], fun i hi => ?_⟩
  by_cases e : i < y0.length
  · obtain ⟨a, cp, h1, h2⟩ := hv i e
    have e2 : nthR (bagsS y0 y1) i = nthR y0 i := by
      rw [nthR_lt (by rw [bagsS_len]; omega), nthR_lt e]
      simp only [bagsS]
      rw [List.getElem_append_left e]
    exact ⟨a, cp, by rw [List.getElem?_append_left (by omega), e2]; exact h1, by rw [e2]; exact (h2.other hg).below hb⟩
  · have e1 : i = y0.length := by omega
    subst e1
    have e2 : nthR (bagsS y0 y1) y0.length = y1 := by
      rw [nthR_lt (by rw [bagsS_len]; omega)]
      simp [bagsS]
    exact ⟨b1, d1, by rw [e2, List.getElem?_append_right (by omega), hvl]; simp, by rw [e2]; exact (k1.other hg).below hb⟩
theorem takeTo_ok {K : Nat} {x1 : List Int} {x2 : List Bool} {x3 : List PR} {bags : List (List Int)} {cs : List Int} (h : PsOk K x1 x2 x3) (hl : bags.length = x1.length + 1) (hb : ∀ pl, pl ≤ x1.length → (nthR bags pl).length = K) :
    ∀ i, i ≤ x3.length → ∀ pl, pl ≤ x1.length → (nthR (takeTo x1 x2 x3 cs bags i) pl).length = K
  | 0, _, pl, hp => hb pl hp
  | i + 1, hi, pl, hp => by
    have ih := takeTo_ok h hl hb (cs := cs) i (by omega)
    have hlen := takeTo_len x1 x2 x3 cs bags i
    obtain ⟨u1, u2, u3, _⟩ := h.upN (i := i) (by omega)
    rw [takeTo]
    unfold takeB
    rw [nthR_set (by simp; omega), nthR_set (by omega), nthR_set (by omega)]
    by_cases e1 : pl = upN x1 (nthPR x3 i)
    · rw [if_pos e1, plusS_len]
      split
      · rw [plusS_len]; exact ih _ (by omega)
      · exact ih _ u2
    · rw [if_neg e1]
      split
      · rw [plusS_len]; exact ih _ (by omega)
      · exact ih _ hp
set_option maxHeartbeats 8000000 in
set_option maxRecDepth 100000 in
theorem changed_c (x0 : Int) (x1 : List Int) (x2 : List Bool) (x3 : List PR) (y0 : List (List Int)) (y1 : List Int) (a1 a2 a3 b0 b1 : Option Addr) (c1 c2 c3 d0 d1 : Nat) (w : World) (h1 : SlI Any w a1 x1) (h2 : SlB Any w a2 x2) (h3 : Rd Any w (dPR x3) (.slice a3 x3.length c3)) (k0 : SlII Any w b0 y0) (k1 : SlI Any w b1 y1) (cs : List Int) (bc : Option Addr) (cc : Nat) (kc : SlI Any w bc cs) (K0 : Nat) (hps : PsOk K0 x1 x2 x3) (hst : StOk K0 x1.length y0 y1) (hcl : cs.length = x3.length) (hcb : ∀ j, 0 ≤ nth cs j ∧ nth cs j ≤ 1001) :
    Calls Try.prog 42 #[.agg #[.int .i64 x0, .slice a1 x1.length c1, .slice a2 x2.length c2, .slice a3 x3.length c3], .agg #[.slice b0 y0.length d0, .slice b1 y1.length d1], .slice bc cs.length cc, .bool false] w (fun e w' => ∃ g c, e = .returned (.slice (some ⟨g, 0, none⟩) (x1.length + 1) c) ∧ Below w.heap.size w w' ∧ Bgs w.heap.size w' g (x1.length + 1) c (takeTo x1 x2 x3 cs (bagsS y0 y1) x3.length)) := by
  have hb0 : Below w.heap.size w ((w.alloc (.cells #[.int .i64 x0, .slice a1 x1.length c1, .slice a2 x2.length c2, .slice a3 x3.length c3] 28)).alloc (.cells #[.slice b0 y0.length d0, .slice b1 y1.length d1] 31)) := ((Below.refl _ _).alloc (Nat.le_refl _) _).alloc (by simp) _
  have hp1 := hps.p1
  have hp4 := hps.p4
  have hk1 := hps.k1
  have hk8 := hps.k8
  have hyl := hst.len
  obtain ⟨ad0, rfl⟩ := k0.addr (by omega)
  obtain ⟨vs, hvl, hvc, hv1, hvr⟩ := (k0.below hb0).vals (by omega)
  have hrunC := callFunc_run Try.func61 (by kernel_rfl) rfl
  have hrunP := callFunc_run Try.func65 (by kernel_rfl) rfl
  have hrunB := callFunc_run Try.func64 (by kernel_rfl) rfl
  have HB0 := Lib.hid hb0
  have HCL : Hid (∀ wx, Below ((w.alloc (.cells #[.int .i64 x0, .slice a1 x1.length c1, .slice a2 x2.length c2, .slice a3 x3.length c3] 28)).alloc (.cells #[.slice (some ad0) y0.length d0, .slice b1 y1.length d1] 31)).heap.size ((w.alloc (.cells #[.int .i64 x0, .slice a1 x1.length c1, .slice a2 x2.length c2, .slice a3 x3.length c3] 28)).alloc (.cells #[.slice (some ad0) y0.length d0, .slice b1 y1.length d1] 31)) wx → Calls Try.prog 61 #[.slice (some ad0) y0.length d0] wx (fun e w' => ∃ v, e = .returned v ∧ Below wx.heap.size wx w' ∧ Bld 24 w' wx.heap.size v vs)) :=
    Lib.hid fun wx hb => cloneII_c ad0 y0.length d0 vs wx hvl (fun j u hu => (hb.cell (World.block_lt_of_cell? _ _ (hvc j u hu))).trans (hvc j u hu)) hv1 (by omega)
  have HVR := Lib.hid hvr
  have HVL := Lib.hid hvl
  have HPS := Lib.hid hps
  have HST := Lib.hid hst
  have HCLN := Lib.hid hcl
  have HCB := Lib.hid hcb
  have H1 := Lib.hid h1
  have H2 := Lib.hid h2
  have H3 := Lib.hid h3
  have K1 := Lib.hid k1
  have KC := Lib.hid kc
  have HYL := Lib.hid hyl
  have lc := kc.len
  unfold maxLen at lc
  have ic := kc.ix tabI.under tabI.size cc
  have h3' := h3
  obtain ⟨_, _, e3, k3⟩ := Rd_PR h3'
  cases e3
  have i4 := ix_of (P := Try.prog) tabPassRuleSM.under tabPassRuleSM.size k3.ptr c3
  have hcs8 : cs.length ≤ 8 := by have := hps.r8; omega
  clear hb0 hvl hvc hv1 hvr hps hst hcl hcb h1 h2 h3 k0 k1 kc hyl h3' k3
  go_enter Try.func42, Try.ntmps42
  go_wp2
  rename_i K hK
  have key : ∀ {t16 t17 t18 t19 t20 t21 t22 : Value} {w2 : World} {g cg : Nat}, Hid (Below (w.heap.size + 2) ((w.alloc (.cells #[.int .i64 x0, .slice a1 x1.length c1, .slice a2 x2.length c2, .slice a3 x3.length c3] 28)).alloc (.cells #[.slice (some ad0) y0.length d0, .slice b1 y1.length d1] 31)) w2) → Hid (Bgs (w.heap.size + 2) w2 g (x1.length + 1) cg (bagsS y0 y1)) → (w.heap.size + 2 ≤ g ∧ g < w2.heap.size) → K ⟨#[.agg #[.int .i64 x0, .slice a1 x1.length c1, .slice a2 x2.length c2, .slice a3 x3.length c3], .agg #[.slice (some ad0) y0.length d0, .slice b1 y1.length d1], .slice bc cs.length cc, .bool false, .pointer (some ⟨w.heap.size, 0, none⟩), .pointer (some ⟨w.heap.size + 1, 0, none⟩), undef, undef, .slice none 0 0, .slice (some ⟨g, 0, none⟩) (x1.length + 1) cg, undef, undef, undef, undef, undef, undef, t16, t17, t18, t19, t20, t21, t22, undef, undef, undef, undef, undef, undef, undef, undef, undef, undef, undef, undef, undef, undef, undef, undef, undef, undef, undef, undef, undef, undef, undef, undef, undef, undef, undef, undef, undef, undef, undef, undef, undef, undef, undef, undef, undef, undef, undef, undef, undef, undef, undef, undef, undef, undef, undef, undef, undef, undef, undef, undef, undef, undef, undef, undef, undef, undef, undef, undef, undef, undef, undef, undef, undef, undef, undef, undef, undef, undef, undef, undef, undef, undef, undef, undef, undef, undef, undef, undef, undef], []⟩ w2 := by
    intro t16 t17 t18 t19 t20 t21 t22 w2 g cg HX2 HBG0 hgB
    apply hK
    clear hK
    have HFR : Hid (∀ wx, Below (w.heap.size + 2) w2 wx → wx.cell? ⟨w.heap.size, 0, none⟩ = some (.int .i64 x0) ∧ wx.cell? ⟨w.heap.size, 1, none⟩ = some (.slice a1 x1.length c1) ∧ wx.cell? ⟨w.heap.size, 2, none⟩ = some (.slice a2 x2.length c2) ∧ wx.cell? ⟨w.heap.size, 3, none⟩ = some (.slice a3 x3.length c3)) := Lib.hid (fun wx h => by
      have h2 := HX2.out.trans h
      refine ⟨?_, ?_, ?_, ?_⟩ <;> (rw [bcell1 h2 (by omega)]; simp [go_sem]))
    have HWB : Hid (Below w.heap.size w w2) := Lib.hid (HB0.out.trans (HX2.out.mono (by simp)))
    go_wp2
    go_loopw [10, 11, 12, 13, 14, 15, 25] (fun _ _ _ _ _ _ i wr => ∃ k : Nat, k ≤ cs.length ∧ i = .int .i64 k ∧ Below (w.heap.size + 2) w2 wr ∧ Bgs (w.heap.size + 2) wr g (x1.length + 1) cg (takeTo x1 x2 x3 cs (bagsS y0 y1) k)) (fun _ _ _ _ _ _ i _ => cs.length - (intOf i).toNat)
    case atStart => exact ⟨0, Nat.zero_le _, rfl, Below.refl _ _, HBG0.out⟩
    case round =>
      obtain ⟨k, hk, rfl, hb, hbg⟩ := hrel
      have HB := Lib.hid hb
      have HBG := Lib.hid hbg
      have hbw := HWB.out.trans (hb.mono (by omega))
      obtain ⟨f0, f1, f2, f3⟩ := HFR.out wr hb
      have hzr : w2.heap.size ≤ wr.heap.size := hb.size
      have HBW := Lib.hid hbw
      clear hb hbg
      by_cases hlt : k < cs.length
      · have hlt3 : k < x3.length := by have := HCLN.out; omega
        have hltx : (k : Int) < x3.length := by omega
        obtain ⟨_, _, ex, hxs⟩ := Rd_PR H3.out
        cases ex
        have r0 := hxs.c0 k hlt3
        obtain ⟨u1, e1, r1, k1⟩ := hxs.c1 k hlt3
        obtain ⟨u2, e2, r2, k2⟩ := hxs.c2 k hlt3
        replace r0 := (hbw.cell (World.block_lt_of_cell? w _ r0)).trans r0
        replace r1 := (hbw.cell (World.block_lt_of_cell? w _ r1)).trans r1
        replace r2 := (hbw.cell (World.block_lt_of_cell? w _ r2)).trans r2
        have gc := (KC.out.below hbw).cell k hlt
        have hu := HPS.out.upN hlt3
        have hce := HPS.out.cell k hlt3
        have hout := (HPS.out.out k hlt3).2
        have hinn := (HPS.out.inn k hlt3).2
        have hcb := HCB.out k
        have hTB : takeTo x1 x2 x3 cs (bagsS y0 y1) (k + 1) = takeB x1 x2 (nthPR x3 k) (nth cs k) (takeTo x1 x2 x3 cs (bagsS y0 y1) k) := rfl
        have HTL : Hid (∀ pl, pl ≤ x1.length → (nthR (takeTo x1 x2 x3 cs (bagsS y0 y1) k) pl).length = K0) := Lib.hid (takeTo_ok HPS.out (by rw [bagsS_len, HYL.out]) (fun pl hp => (bagsS_ok HST.out hp).2) k (by omega))
        have HTB := Lib.hid hTB
        clear hTB hxs
        generalize hR : nthPR x3 k = r at *
        generalize hN : nth cs k = n at *
        generalize hBS : takeTo x1 x2 x3 cs (bagsS y0 y1) k = bags at *
        have HPA := Lib.hid (fun wx (h : Below w.heap.size w wx) => parent_c x0 x1 a1 c1 (.slice a2 x2.length c2) (.slice a3 x3.length c3) r.cell wx (H1.out.below h) hce)
        rw [hu.2.2.2.1] at HPA
        have HO := Lib.hid (fun wx => outside_c x0 x1.length c1 a1 (.slice a2 x2.length c2) (.slice a3 x3.length c3) wx (by unfold maxLen; omega))
        have HU := Lib.hid hu
        have HOUT := Lib.hid hout
        have HINN := Lib.hid hinn
        have HCE := Lib.hid hce
        have K1r := Lib.hid (k1.other (show w.heap.size ≤ g by omega))
        have K2r := Lib.hid (k2.other (show w.heap.size ≤ g by omega))
        have HRr := Lib.hid hR
        have HNn := Lib.hid hN
        have HBSs := Lib.hid hBS
        have hb5 : ∀ ob, Below w.heap.size w (wr.alloc ob) := fun ob => hbw.alloc hbw.size ob
        have hwn1 : IntKind.i64.wrap (-n) = -n := by rw [wrap_64]; unfold wrap64; omega
        have hwn2 : wrap64 (-n) = -n := by unfold wrap64; omega
        have HZ := Lib.hid (show w.heap.size + 2 ≤ wr.heap.size ∧ g < wr.heap.size by omega)
        clear hu hce hout hinn k1 k2 hR hN hBS hbw hcb
        have af0 := fun ob => (bcell1 (below_alloc wr ob) (World.block_lt_of_cell? _ _ f0)).trans f0
        have af1 := fun ob => (bcell1 (below_alloc wr ob) (World.block_lt_of_cell? _ _ f1)).trans f1
        have af2 := fun ob => (bcell1 (below_alloc wr ob) (World.block_lt_of_cell? _ _ f2)).trans f2
        have af3 := fun ob => (bcell1 (below_alloc wr ob) (World.block_lt_of_cell? _ _ f3)).trans f3
        go_wp2_with fail
        refine (HPA.out _ (hb5 _)).mono ?_
        rintro e w6 ⟨rfl, hb6⟩
        have hz6 := hb6.size
        simp at hz6
        have hb6w : Below wr.heap.size wr w6 := (below_alloc wr _).trans (hb6.mono (by simp))
        have s0 : w6.cell? ⟨wr.heap.size, 0, none⟩ = some (.int .i64 r.cell) := by rw [bcell1 hb6 (by simp)]; simp [go_sem]
        have s1 : w6.cell? ⟨wr.heap.size, 1, none⟩ = some (.slice u1 r.out.length e1) := by rw [bcell1 hb6 (by simp)]; simp [go_sem]
        have s2 : w6.cell? ⟨wr.heap.size, 2, none⟩ = some (.slice u2 r.inn.length e2) := by rw [bcell1 hb6 (by simp)]; simp [go_sem]
        have HR6 : Hid (∀ wx, Below w6.heap.size w6 wx → wx.cell? ⟨wr.heap.size, 0, none⟩ = some (.int .i64 r.cell) ∧ wx.cell? ⟨wr.heap.size, 1, none⟩ = some (.slice u1 r.out.length e1) ∧ wx.cell? ⟨wr.heap.size, 2, none⟩ = some (.slice u2 r.inn.length e2) ∧ (wx.cell? ⟨w.heap.size, 0, none⟩ = some (.int .i64 x0) ∧ wx.cell? ⟨w.heap.size, 1, none⟩ = some (.slice a1 x1.length c1) ∧ wx.cell? ⟨w.heap.size, 2, none⟩ = some (.slice a2 x2.length c2) ∧ wx.cell? ⟨w.heap.size, 3, none⟩ = some (.slice a3 x3.length c3)) ∧ Below (w.heap.size + 2) w2 wx ∧ Below w.heap.size w wx ∧ Bgs (w.heap.size + 2) wx g (x1.length + 1) cg bags) := Lib.hid (fun wx h => by
          have hf := HB.out.trans ((hb6w.trans (h.mono (by omega))).mono (by have := HZ.out; omega))
          exact ⟨(bcell1 h (by omega)).trans s0, (bcell1 h (by omega)).trans s1, (bcell1 h (by omega)).trans s2, HFR.out wx hf, hf, HWB.out.trans (hf.mono (by omega)), (HBG.out.later hb6w).later h⟩)
        have q1 := wat_cell s1
        have q2 := wat_cell s2
        clear s0 s1 s2 f0 f1 f2 f3 af0 af1 af2 af3 r0 r1 r2 gc hb6 hb6w hb5
        go_wp2
        refine wp_quiet_wd (by kernel_rfl) (by kernel_rfl) ?_
        repeat (go_big_quiet_step (fail))
        refine wpQuiet_nil ?_
        rintro _ ⟨wq, rfl⟩
        have HWQ := Lib.hid (wat_below wq)
        clear q1 q2
        obtain ⟨s0, s1, s2, ⟨f0, f1, f2, f3⟩, hza, hzb, hzc⟩ := HR6.out _ HWQ.out
        clear hza hzb hzc
        go_wp2_with fail
        refine (HO.out _).mono ?_
        rintro e w8 ⟨rfl, hb8⟩
        have HW8 := Lib.hid (HWQ.out.trans (hb8.mono HWQ.out.size))
        clear s0 s1 s2 f0 f1 f2 f3 hb8
        obtain ⟨s0, s1, s2, ⟨f0, f1, f2, f3⟩, hza, hzb, hzc⟩ := HR6.out _ HW8.out
        clear hza hzb hzc
        have i3 := ix_of (P := Try.prog) tabII.under tabII.size (a := some ⟨g, 0, none⟩) (n := x1.length + 1) (fun _ => ⟨g, 0, rfl⟩) cg
        simp only [Nat.mul_one, adr, blk, ofs, Nat.zero_add] at i3
        have hcel : 0 ≤ r.cell ∧ r.cell < ((x1.length + 1 : Nat) : Int) := by have := HCE.out; omega
        have i4c := fun w' => i3 r.cell w' hcel.1 hcel.2
        have hupl : (upN x1 r : Int) < ((x1.length + 1 : Nat) : Int) := by have := HU.out; omega
        have i4u := fun w' => i3 (upN x1 r : Int) w' (by omega) hupl
        rw [Int.toNat_natCast] at i4u
        clear i3
        by_cases hc0 : r.cell = 0
        · have hbq : ((upN x1 r : Int) == (x1.length : Int)) = true := by have := HU.out.2.2.2.2.2.1 hc0; rw [this]; simp
          have HC0 := Lib.hid hc0
          clear hc0
          have HBI := Lib.hid (fun wx (h : Below w8.heap.size w8 wx) => bound_c x0 (.slice a1 x1.length c1) (.slice a3 x3.length c3) a2 u2 c2 e2 x2 r.inn wx (H2.out.below ((HR6.out _ HW8.out).2.2.2.2.2.1.trans (h.mono (HR6.out _ HW8.out).2.2.2.2.2.1.size))) ((K2r.out.any.below ((HR6.out _ HW8.out).2.2.2.2.2.1.trans (h.mono (HR6.out _ HW8.out).2.2.2.2.2.1.size)))) (by rw [HINN.out, HPS.out.free]) (by rw [HINN.out]; omega) (by rw [HINN.out]; omega))
          have HBO := Lib.hid (fun wx (h : Below w8.heap.size w8 wx) => bound_c x0 (.slice a1 x1.length c1) (.slice a3 x3.length c3) a2 u1 c2 e1 x2 r.out wx (H2.out.below ((HR6.out _ HW8.out).2.2.2.2.2.1.trans (h.mono (HR6.out _ HW8.out).2.2.2.2.2.1.size))) ((K1r.out.any.below ((HR6.out _ HW8.out).2.2.2.2.2.1.trans (h.mono (HR6.out _ HW8.out).2.2.2.2.2.1.size)))) (by rw [HOUT.out, HPS.out.free]) (by rw [HOUT.out]; omega) (by rw [HOUT.out]; omega))
          have hg8 : g < w8.heap.size := (HR6.out _ HW8.out).2.2.2.2.2.2.base.2
          go_wp2
          rename_i K9 hK9
          have key9 : ∀ {t15 t26 t27 t28 t29 t30 t31 t32 t33 t34 t35 t36 t37 t38 t39 t40 t41 t42 t43 t44 t45 t46 t47 t48 t49 t50 t51 t52 t53 t54 t55 t56 t57 t58 t59 t60 t61 t62 t63 t64 t65 t66 t67 t68 t69 t70 t71 t72 t73 t74 t75 t76 t77 t78 t79 t80 t81 t82 t83 t84 t85 t86 t87 t88 t89 t90 t91 t92 t93 t94 t95 t96 t97 t98 t99 t100 t101 t102 : Value} {w9 : World} {ai : Option Addr} {ci : Nat}, Hid (Below w8.heap.size w8 w9) → Hid (SlI (· ≠ g) w9 ai (boundS x2 r.inn)) → K9 ⟨#[.agg #[.int .i64 x0, .slice a1 x1.length c1, .slice a2 x2.length c2, .slice a3 x3.length c3], .agg #[.slice (some ad0) y0.length d0, .slice b1 y1.length d1], .slice bc cs.length cc, .bool false, .pointer (some ⟨w.heap.size, 0, none⟩), .pointer (some ⟨w.heap.size + 1, 0, none⟩), undef, undef, .slice none 0 0, .slice (some ⟨g, 0, none⟩) (x1.length + 1) cg, .int .i64 (k : Int), .int .i64 n, .pointer (some ⟨wr.heap.size, 0, none⟩), .int .i64 (upN x1 r : Int), .slice ai (boundS x2 r.inn).length ci, t15, t16, t17, t18, t19, t20, t21, t22, .slice bc cs.length cc, .int .i64 (cs.length : Int), .int .i64 (k : Int), t26, t27, t28, t29, t30, t31, t32, t33, t34, t35, t36, t37, t38, t39, t40, t41, t42, t43, t44, t45, t46, t47, t48, t49, t50, t51, t52, t53, t54, t55, t56, t57, t58, t59, t60, t61, t62, t63, t64, t65, t66, t67, t68, t69, t70, t71, t72, t73, t74, t75, t76, t77, t78, t79, t80, t81, t82, t83, t84, t85, t86, t87, t88, t89, t90, t91, t92, t93, t94, t95, t96, t97, t98, t99, t100, t101, t102, undef], []⟩ w9 := by
            intro t15 t26 t27 t28 t29 t30 t31 t32 t33 t34 t35 t36 t37 t38 t39 t40 t41 t42 t43 t44 t45 t46 t47 t48 t49 t50 t51 t52 t53 t54 t55 t56 t57 t58 t59 t60 t61 t62 t63 t64 t65 t66 t67 t68 t69 t70 t71 t72 t73 t74 t75 t76 t77 t78 t79 t80 t81 t82 t83 t84 t85 t86 t87 t88 t89 t90 t91 t92 t93 t94 t95 t96 t97 t98 t99 t100 t101 t102 w9 ai ci H89 HS9
            apply hK9
            clear hK9 s0 s1 s2 f0 f1 f2 f3
            have HW9 := Lib.hid (HW8.out.trans (H89.out.mono HW8.out.size))
            have HCI := Lib.hid (show (boundS x2 r.inn).length = K0 from by rw [boundS_len]; exact HINN.out)
            obtain ⟨s0, s1, s2, ⟨f0, f1, f2, f3⟩, hbX, hbXw, hbgX⟩ := HR6.out _ HW9.out
            obtain ⟨ab, cb, gb, hsb⟩ := hbgX.cell (i := r.cell.toNat) (by have := HCE.out; omega)
            have zb := hbgX.free r.cell.toNat
            have HBX := Lib.hid hbX
            have HBXW := Lib.hid hbXw
            have HBGX := Lib.hid hbgX
            have HSB := Lib.hid hsb
            have HPL : Hid (∀ wx, Below w9.heap.size w9 wx → Calls Try.prog 65 #[.slice ab (nthR bags r.cell.toNat).length cb, .slice u1 r.out.length e1, .int .i64 (-n)] wx (RetD wx (dI (plusS (nthR bags r.cell.toNat) r.out (-n))))) := Lib.hid (fun wx h => plus_c (· ≠ g) ab u1 cb e1 _ _ (-n) wx (hsb.below h) ((K1r.out.below hbXw).below h) (by rw [HTL.out _ (by have := HCE.out; omega), HOUT.out]; exact Nat.le_refl _) (by rw [HTL.out _ (by have := HCE.out; omega)]; omega))
            have hzg : g < w9.heap.size := hbgX.base.2
            have HSI2 := Lib.hid (HS9.out)
            clear hbX hbXw hbgX hsb
            go_wp2
            rename_i K10 hK10
            have key10 : ∀ {t15 t26 t27 t28 t29 t30 t31 t32 t33 t34 t35 t36 t37 t38 t39 t40 t41 t42 t43 t44 t45 t46 t47 t48 t49 t50 t51 t52 t53 t54 t55 t56 t57 t58 t59 t60 t61 t62 t63 t64 t65 t66 t67 t68 t69 t70 t71 t72 t73 t74 t75 t76 t77 t78 t79 t80 t81 t82 t83 t84 t85 t86 t87 t88 t89 t90 t91 t92 t93 t94 t95 t96 t97 t98 t99 t100 t101 t102 : Value} {w10 : World}, Hid (Below (w.heap.size + 2) w2 w10) → Hid (Bgs (w.heap.size + 2) w10 g (x1.length + 1) cg (bags.set r.cell.toNat (plusS (nthR bags r.cell.toNat) r.out (-n)))) → Hid (SlI (· ≠ g) w10 ai (boundS x2 r.inn)) → K10 ⟨#[.agg #[.int .i64 x0, .slice a1 x1.length c1, .slice a2 x2.length c2, .slice a3 x3.length c3], .agg #[.slice (some ad0) y0.length d0, .slice b1 y1.length d1], .slice bc cs.length cc, .bool false, .pointer (some ⟨w.heap.size, 0, none⟩), .pointer (some ⟨w.heap.size + 1, 0, none⟩), undef, undef, .slice none 0 0, .slice (some ⟨g, 0, none⟩) (x1.length + 1) cg, .int .i64 (k : Int), .int .i64 n, .pointer (some ⟨wr.heap.size, 0, none⟩), .int .i64 (upN x1 r : Int), .slice ai (boundS x2 r.inn).length ci, t15, t16, t17, t18, t19, t20, t21, t22, .slice bc cs.length cc, .int .i64 (cs.length : Int), .int .i64 (k : Int), t26, t27, t28, t29, t30, t31, t32, t33, t34, t35, t36, t37, t38, t39, t40, t41, t42, t43, t44, t45, t46, t47, t48, t49, t50, t51, t52, t53, t54, t55, t56, t57, t58, t59, t60, t61, t62, t63, t64, t65, t66, t67, t68, t69, t70, t71, t72, t73, t74, t75, t76, t77, t78, t79, t80, t81, t82, t83, t84, t85, t86, t87, t88, t89, t90, t91, t92, t93, t94, t95, t96, t97, t98, t99, t100, t101, t102, undef], []⟩ w10 := by
              intro t15 t26 t27 t28 t29 t30 t31 t32 t33 t34 t35 t36 t37 t38 t39 t40 t41 t42 t43 t44 t45 t46 t47 t48 t49 t50 t51 t52 t53 t54 t55 t56 t57 t58 t59 t60 t61 t62 t63 t64 t65 t66 t67 t68 t69 t70 t71 t72 t73 t74 t75 t76 t77 t78 t79 t80 t81 t82 t83 t84 t85 t86 t87 t88 t89 t90 t91 t92 t93 t94 t95 t96 t97 t98 t99 t100 t101 t102 w10 H10 HG10 HS10
              apply hK10
              clear hK10 HPL
              obtain ⟨ab2, cb2, gb2, hsb2⟩ := HG10.out.cell (i := upN x1 r) (by have := HU.out; omega)
              have zb2 := HG10.out.free (upN x1 r)
              have hl2 : (nthR (bags.set r.cell.toNat (plusS (nthR bags r.cell.toNat) r.out (-n))) (upN x1 r)).length = K0 := by
                have hbl := HBGX.out.len
                rw [nthR_set (by have := HCE.out; omega)]
                split
                · rw [plusS_len]; exact HTL.out _ (by have := HCE.out; omega)
                · exact HTL.out _ HU.out.2.1
              have HP2 := Lib.hid (plus_c (· ≠ g) ab2 ai cb2 ci _ _ (-n) w10 hsb2 HS10.out (by rw [hl2, HCI.out]; exact Nat.le_refl _) (by rw [hl2]; omega))
              clear hsb2 hl2 gb zb s0 s1 s2 f0 f1 f2 f3 hzg
              have hz10 : g < w10.heap.size := HG10.out.base.2
              go_wp2_with fail
              refine HP2.out.mono ?_
              intro e w11 h
              obtain ⟨v11, F11, rfl, hb11, ho11, _, hF11⟩ := h
              obtain ⟨av, cv, rfl⟩ := ho11.val
              have gb3 := (bcell1 (i := upN x1 r) hb11 hz10).trans gb2
              have zb3 : w11.frozen? ⟨g, upN x1 r, none⟩ = false := (hb11.frozen (p := ⟨g, upN x1 r, none⟩) hz10).trans zb2
              have HB11 := Lib.hid (H10.out.trans (hb11.mono (by have := H10.out.size; omega)))
              have HG11 := Lib.hid ((HG10.out.later hb11).set (i := upN x1 r) (cp := cv) (by have := HU.out; omega) (ho11.other hF11 hz10))
              have HTB2 : Hid (takeTo x1 x2 x3 cs (bagsS y0 y1) (k + 1) = (bags.set r.cell.toNat (plusS (nthR bags r.cell.toNat) r.out (-n))).set (upN x1 r) (plusS (nthR (bags.set r.cell.toNat (plusS (nthR bags r.cell.toNat) r.out (-n))) (upN x1 r)) (boundS x2 r.inn) (-n))) := Lib.hid (by rw [HTB.out, takeB, show innS x2 r = boundS x2 r.inn by have hc0 := HC0.out; simp [innS, hc0]]; rfl)
              clear hb11 ho11 hF11 gb2 zb2
              go_wp2
              go_roundw
              case rel => exact ⟨k + 1, by omega, by go_num, HB11.out.setCell hgB.1 _, by rw [HTB2.out]; exact HG11.out⟩
              case measure => simp [intOf]; omega
            go_region_law (refine step_callD rfl 65 #[.tmp 60, .tmp 62, .tmp 64] _ rfl hrunP #[.slice ab (nthR bags r.cell.toNat).length cb, .slice u1 r.out.length e1, .int .i64 (-n)] (by first | rfl | (simp [Act.eval]; done) | (simp [Act.eval]; rfl)) (dI (plusS (nthR bags r.cell.toNat) r.out (-n))) (HPL.out _ (by repeat (first | exact Below.refl _ _ | refine Below.drew ?_ | refine Below.alloc ?_ (by simp) _))) ?_; intro v1 F1 w1 hb1 ho1 hn1 hl1; obtain ⟨av, cv, rfl⟩ := ho1.val; have hx1 : Below w9.heap.size w9 w1 := ((by repeat (first | exact Below.refl _ _ | refine Below.drew ?_ | refine Below.alloc ?_ (by simp) _)) : Below w9.heap.size w9 _).trans hb1; have s0b := (bcell1 hx1 (World.block_lt_of_cell? _ _ s0)).trans s0; have gbb := (bcell1 hx1 hzg).trans gb; have zbb : w1.frozen? ⟨g, r.cell.toNat, none⟩ = false := (hx1.frozen (p := ⟨g, r.cell.toNat, none⟩) hzg).trans zb)
            all_goals
              exact key10 (Lib.hid ((HBX.out.trans (hx1.mono (by have := HBX.out.size; omega))).setCell hgB.1 _)) (Lib.hid ((HBGX.out.later hx1).set (i := r.cell.toNat) (cp := cv) (by have := HCE.out; omega) (ho1.other hl1 hzg))) (Lib.hid ((HSI2.out.below hx1).set_other))
          go_region_law (first
            | (refine step_callD rfl 64 #[.tmp 47, .tmp 48] _ rfl hrunB #[.agg #[.int .i64 x0, .slice a1 x1.length c1, .slice a2 x2.length c2, .slice a3 x3.length c3], .slice u2 r.inn.length e2] (by first | rfl | (simp [Act.eval]; done) | (simp [Act.eval]; rfl)) (dI (boundS x2 r.inn)) (HBI.out _ (by repeat (first | exact Below.refl _ _ | refine Below.drew ?_ | refine Below.alloc ?_ (by simp) _))) ?_; intro v1 F1 w1 hb1 ho1 hn1 hl1; obtain ⟨ai, ci, rfl⟩ := ho1.val; have hx1 : Below w8.heap.size w8 w1 := ((by repeat (first | exact Below.refl _ _ | refine Below.drew ?_ | refine Below.alloc ?_ (by simp) _)) : Below w8.heap.size w8 _).trans hb1; have g0 := (bcell1 hx1 (World.block_lt_of_cell? _ _ f0)).trans f0; have g1 := (bcell1 hx1 (World.block_lt_of_cell? _ _ f1)).trans f1; have g2 := (bcell1 hx1 (World.block_lt_of_cell? _ _ f2)).trans f2; have g3 := (bcell1 hx1 (World.block_lt_of_cell? _ _ f3)).trans f3)
            | (refine step_callD rfl 64 #[.tmp 50, .tmp 51] _ rfl hrunB #[.agg #[.int .i64 x0, .slice a1 x1.length c1, .slice a2 x2.length c2, .slice a3 x3.length c3], .slice u1 r.out.length e1] (by first | rfl | (simp [Act.eval]; done) | (simp [Act.eval]; rfl)) (dI (boundS x2 r.out)) (HBO.out _ hx1) ?_; intro v3 F3 w3 hb3 ho3 hn3 hl3; obtain ⟨av, cv, rfl⟩ := ho3.val; have hx3 : Below w8.heap.size w8 w3 := hx1.trans (hb3.mono hx1.size)))
          all_goals
            exact key9 (Lib.hid hx3) (Lib.hid ((ho1.other hl1 hg8).below hb3))
        · have hbq : ((upN x1 r : Int) == (x1.length : Int)) = false := by rw [beq_eq_false_iff_ne]; intro h; exact hc0 (HU.out.2.2.2.2.2.2 (by omega))
          clear s0 s1 s2 f0 f1 f2 f3
          have HCI := Lib.hid (show (r.inn).length = K0 from HINN.out)
          obtain ⟨s0, s1, s2, ⟨f0, f1, f2, f3⟩, hbX, hbXw, hbgX⟩ := HR6.out _ HW8.out
          obtain ⟨ab, cb, gb, hsb⟩ := hbgX.cell (i := r.cell.toNat) (by have := HCE.out; omega)
          have zb := hbgX.free r.cell.toNat
          have HBX := Lib.hid hbX
          have HBXW := Lib.hid hbXw
          have HBGX := Lib.hid hbgX
          have HSB := Lib.hid hsb
          have HPL : Hid (∀ wx, Below w8.heap.size w8 wx → Calls Try.prog 65 #[.slice ab (nthR bags r.cell.toNat).length cb, .slice u1 r.out.length e1, .int .i64 (-n)] wx (RetD wx (dI (plusS (nthR bags r.cell.toNat) r.out (-n))))) := Lib.hid (fun wx h => plus_c (· ≠ g) ab u1 cb e1 _ _ (-n) wx (hsb.below h) ((K1r.out.below hbXw).below h) (by rw [HTL.out _ (by have := HCE.out; omega), HOUT.out]; exact Nat.le_refl _) (by rw [HTL.out _ (by have := HCE.out; omega)]; omega))
          have hzg : g < w8.heap.size := hbgX.base.2
          have HSI2 := Lib.hid (K2r.out.below (HR6.out _ HW8.out).2.2.2.2.2.1)
          clear hbX hbXw hbgX hsb
          go_wp2
          rename_i K10 hK10
          have key10 : ∀ {t15 t26 t27 t28 t29 t30 t31 t32 t33 t34 t35 t36 t37 t38 t39 t40 t41 t42 t43 t44 t45 t46 t47 t48 t49 t50 t51 t52 t53 t54 t55 t56 t57 t58 t59 t60 t61 t62 t63 t64 t65 t66 t67 t68 t69 t70 t71 t72 t73 t74 t75 t76 t77 t78 t79 t80 t81 t82 t83 t84 t85 t86 t87 t88 t89 t90 t91 t92 t93 t94 t95 t96 t97 t98 t99 t100 t101 t102 : Value} {w10 : World}, Hid (Below (w.heap.size + 2) w2 w10) → Hid (Bgs (w.heap.size + 2) w10 g (x1.length + 1) cg (bags.set r.cell.toNat (plusS (nthR bags r.cell.toNat) r.out (-n)))) → Hid (SlI (· ≠ g) w10 u2 (r.inn)) → K10 ⟨#[.agg #[.int .i64 x0, .slice a1 x1.length c1, .slice a2 x2.length c2, .slice a3 x3.length c3], .agg #[.slice (some ad0) y0.length d0, .slice b1 y1.length d1], .slice bc cs.length cc, .bool false, .pointer (some ⟨w.heap.size, 0, none⟩), .pointer (some ⟨w.heap.size + 1, 0, none⟩), undef, undef, .slice none 0 0, .slice (some ⟨g, 0, none⟩) (x1.length + 1) cg, .int .i64 (k : Int), .int .i64 n, .pointer (some ⟨wr.heap.size, 0, none⟩), .int .i64 (upN x1 r : Int), .slice u2 (r.inn).length e2, t15, t16, t17, t18, t19, t20, t21, t22, .slice bc cs.length cc, .int .i64 (cs.length : Int), .int .i64 (k : Int), t26, t27, t28, t29, t30, t31, t32, t33, t34, t35, t36, t37, t38, t39, t40, t41, t42, t43, t44, t45, t46, t47, t48, t49, t50, t51, t52, t53, t54, t55, t56, t57, t58, t59, t60, t61, t62, t63, t64, t65, t66, t67, t68, t69, t70, t71, t72, t73, t74, t75, t76, t77, t78, t79, t80, t81, t82, t83, t84, t85, t86, t87, t88, t89, t90, t91, t92, t93, t94, t95, t96, t97, t98, t99, t100, t101, t102, undef], []⟩ w10 := by
            intro t15 t26 t27 t28 t29 t30 t31 t32 t33 t34 t35 t36 t37 t38 t39 t40 t41 t42 t43 t44 t45 t46 t47 t48 t49 t50 t51 t52 t53 t54 t55 t56 t57 t58 t59 t60 t61 t62 t63 t64 t65 t66 t67 t68 t69 t70 t71 t72 t73 t74 t75 t76 t77 t78 t79 t80 t81 t82 t83 t84 t85 t86 t87 t88 t89 t90 t91 t92 t93 t94 t95 t96 t97 t98 t99 t100 t101 t102 w10 H10 HG10 HS10
            apply hK10
            clear hK10 HPL
            obtain ⟨ab2, cb2, gb2, hsb2⟩ := HG10.out.cell (i := upN x1 r) (by have := HU.out; omega)
            have zb2 := HG10.out.free (upN x1 r)
            have hl2 : (nthR (bags.set r.cell.toNat (plusS (nthR bags r.cell.toNat) r.out (-n))) (upN x1 r)).length = K0 := by
              have hbl := HBGX.out.len
              rw [nthR_set (by have := HCE.out; omega)]
              split
              · rw [plusS_len]; exact HTL.out _ (by have := HCE.out; omega)
              · exact HTL.out _ HU.out.2.1
            have HP2 := Lib.hid (plus_c (· ≠ g) ab2 u2 cb2 e2 _ _ (-n) w10 hsb2 HS10.out (by rw [hl2, HCI.out]; exact Nat.le_refl _) (by rw [hl2]; omega))
            clear hsb2 hl2 gb zb s0 s1 s2 f0 f1 f2 f3 hzg
            have hz10 : g < w10.heap.size := HG10.out.base.2
            go_wp2_with fail
            refine HP2.out.mono ?_
            intro e w11 h
            obtain ⟨v11, F11, rfl, hb11, ho11, _, hF11⟩ := h
            obtain ⟨av, cv, rfl⟩ := ho11.val
            have gb3 := (bcell1 (i := upN x1 r) hb11 hz10).trans gb2
            have zb3 : w11.frozen? ⟨g, upN x1 r, none⟩ = false := (hb11.frozen (p := ⟨g, upN x1 r, none⟩) hz10).trans zb2
            have HB11 := Lib.hid (H10.out.trans (hb11.mono (by have := H10.out.size; omega)))
            have HG11 := Lib.hid ((HG10.out.later hb11).set (i := upN x1 r) (cp := cv) (by have := HU.out; omega) (ho11.other hF11 hz10))
            have HTB2 : Hid (takeTo x1 x2 x3 cs (bagsS y0 y1) (k + 1) = (bags.set r.cell.toNat (plusS (nthR bags r.cell.toNat) r.out (-n))).set (upN x1 r) (plusS (nthR (bags.set r.cell.toNat (plusS (nthR bags r.cell.toNat) r.out (-n))) (upN x1 r)) (r.inn) (-n))) := Lib.hid (by rw [HTB.out, takeB, show innS x2 r = r.inn by simp [innS, hc0]]; rfl)
            clear hb11 ho11 hF11 gb2 zb2
            go_wp2
            go_roundw
            case rel => exact ⟨k + 1, by omega, by go_num, HB11.out.setCell hgB.1 _, by rw [HTB2.out]; exact HG11.out⟩
            case measure => simp [intOf]; omega
          go_region_law (refine step_callD rfl 65 #[.tmp 60, .tmp 62, .tmp 64] _ rfl hrunP #[.slice ab (nthR bags r.cell.toNat).length cb, .slice u1 r.out.length e1, .int .i64 (-n)] (by first | rfl | (simp [Act.eval]; done) | (simp [Act.eval]; rfl)) (dI (plusS (nthR bags r.cell.toNat) r.out (-n))) (HPL.out _ (by repeat (first | exact Below.refl _ _ | refine Below.drew ?_ | refine Below.alloc ?_ (by simp) _))) ?_; intro v1 F1 w1 hb1 ho1 hn1 hl1; obtain ⟨av, cv, rfl⟩ := ho1.val; have hx1 : Below w8.heap.size w8 w1 := ((by repeat (first | exact Below.refl _ _ | refine Below.drew ?_ | refine Below.alloc ?_ (by simp) _)) : Below w8.heap.size w8 _).trans hb1; have s0b := (bcell1 hx1 (World.block_lt_of_cell? _ _ s0)).trans s0; have gbb := (bcell1 hx1 hzg).trans gb; have zbb : w1.frozen? ⟨g, r.cell.toNat, none⟩ = false := (hx1.frozen (p := ⟨g, r.cell.toNat, none⟩) hzg).trans zb)
          all_goals
            exact key10 (Lib.hid ((HBX.out.trans (hx1.mono (by have := HBX.out.size; omega))).setCell hgB.1 _)) (Lib.hid ((HBGX.out.later hx1).set (i := r.cell.toNat) (cp := cv) (by have := HCE.out; omega) (ho1.other hl1 hzg))) (Lib.hid ((HSI2.out.below hx1).set_other))
      · have e : k = x3.length := by have := HCLN.out; omega
        have HBF : Hid (Bgs (w.heap.size + 2) wr g (x1.length + 1) cg (takeTo x1 x2 x3 cs (bagsS y0 y1) x3.length)) := Lib.hid (by rw [← e]; exact HBG.out)
        go_wp2
        go_ret
        exact ⟨g, cg, rfl, HBW.out, HBF.out.lower (by omega)⟩
  skip
  go_region_law (first
    | (refine step_callG rfl 61 #[.tmp 17] _ rfl hrunC #[.slice (some ad0) y0.length d0] (by first | rfl | (simp [Act.eval]; done) | (simp [Act.eval]; rfl)) (HCL.out _ (by repeat (first | exact Below.refl _ _ | refine Below.drew ?_ | refine Below.alloc ?_ (by simp) _))) ?_; rintro e w1 ⟨v1, rfl, hb1, hl1⟩; refine ⟨v1, rfl, ?_⟩; have hx1 : Below ((w.alloc (.cells #[.int .i64 x0, .slice a1 x1.length c1, .slice a2 x2.length c2, .slice a3 x3.length c3] 28)).alloc (.cells #[.slice (some ad0) y0.length d0, .slice b1 y1.length d1] 31)).heap.size ((w.alloc (.cells #[.int .i64 x0, .slice a1 x1.length c1, .slice a2 x2.length c2, .slice a3 x3.length c3] 28)).alloc (.cells #[.slice (some ad0) y0.length d0, .slice b1 y1.length d1] 31)) w1 := (Below.trans (by repeat (first | exact Below.refl _ _ | refine Below.drew ?_ | refine Below.alloc ?_ (by simp) _)) (hb1.mono (by simp))); have hz1 : ((w.alloc (.cells #[.int .i64 x0, .slice a1 x1.length c1, .slice a2 x2.length c2, .slice a3 x3.length c3] 28)).alloc (.cells #[.slice (some ad0) y0.length d0, .slice b1 y1.length d1] 31)).heap.size ≤ w1.heap.size := hx1.size; (try simp at hz1); replace hl1 := hl1.lower (B' := w.heap.size + 2) (by simp <;> omega); have e1 : w1.cell? ⟨w.heap.size + 1, 1, none⟩ = some (.slice b1 y1.length d1) := by (rw [bcell1 hx1 (by simp)]; simp [go_sem]))
    | (refine step_app rfl (.tmp 18) (.tmp 21) 29 rfl tabII rfl (by decide) (w.heap.size + 2) _ _ rfl (hl1.below (below_alloc _ _)) w1.heap.size _ rfl rfl (by simp; rfl) (by have := HVL.out; have := HYL.out; omega) (by simp; omega) ?_; intro v2 w2 hl2 hb2; have hw2 : Below (w.heap.size + 2) w1 w2 := ((Below.refl _ _).alloc (by omega) _).trans hb2)
    | (refine step_app rfl (.tmp 18) (.tmp 21) 29 rfl tabII rfl (by decide) (w.heap.size + 2) _ _ rfl hl1 (w.heap.size + 2) (.slice b1 y1.length d1) rfl rfl (by rw [bcell1 hb1 (by simp)]; simp [go_sem]) (by have := HVL.out; have := HYL.out; omega) (by omega) ?_; intro v2 w2 hl2 hb2; have hw2 : Below (w.heap.size + 2) w1 w2 := hb2))
  all_goals
    have hx2 : Below (w.heap.size + 2) ((w.alloc (.cells #[.int .i64 x0, .slice a1 x1.length c1, .slice a2 x2.length c2, .slice a3 x3.length c3] 28)).alloc (.cells #[.slice (some ad0) y0.length d0, .slice b1 y1.length d1] 31)) w2 := (hx1.mono (by simp)).trans hw2
    obtain ⟨g, cg, rfl⟩ : ∃ g c, v2 = .slice (some ⟨g, 0, none⟩) (x1.length + 1) c := by
      have := hl2.ptr (by simp)
      simp only [List.length_append, List.length_singleton, HVL.out, HYL.out] at this
      exact this
    have HBG0 := Lib.hid (Bgs.start (y0 := y0) hl2 (by rw [HYL.out]) HVL.out HVR.out (K1.out.below HB0.out) (hx2.mono (by simp)) (by simp))
    exact key (Lib.hid hx2) HBG0 hl2.base
end Go.Proofs.Ytkjmehpehopncaa

/- CanPass and PassFits: the reference's functions. -/
namespace Go.Proofs.Ytkjmehpehopncaa
open Go.RowKit

def passCodeS (x0 : Int) (x1 : List Int) (x2 : List Bool) (x3 : List PR) (y0 : List (List Int)) (y1 : List Int) (cs : List Int) : Int := if stCode x0 x1 x2 x3 y0 y1 = 0 then (if bag6 x3.length cs = true then 0 else 2) else stCode x0 x1 x2 x3 y0 y1
theorem bag6_ok {m : Nat} {cs : List Int} (h : bag6 m cs = true) : cs.length = m ∧ ∀ j, 0 ≤ nth cs j ∧ nth cs j ≤ 1000 := by
  simp only [bag6, Bool.and_eq_true, beq_iff_eq] at h
  refine ⟨by omega, fun j => ?_⟩
  by_cases hj : j < cs.length
  · have := allB_at h.1 hj
    simpa [cntOk, inRg] using this
  · have : nth cs j = 0 := by simp [nth, List.getD_eq_getElem?_getD, List.getElem?_eq_none (by omega : cs.length ≤ j)]
    omega
def passFitsS (x0 : Int) (x1 : List Int) (x2 : List Bool) (x3 : List PR) (y0 : List (List Int)) (y1 : List Int) (cs : List Int) : Bool × Int := if passCodeS x0 x1 x2 x3 y0 y1 cs = 0 then (fitsB x1 x2 x3 (bagsS y0 y1) cs, 0) else (false, passCodeS x0 x1 x2 x3 y0 y1 cs)
def canPassS (x0 : Int) (x1 : List Int) (x2 : List Bool) (x3 : List PR) (y0 : List (List Int)) (y1 : List Int) (k : Int) : Bool × Int := if stCode x0 x1 x2 x3 y0 y1 = 0 then (if inRg k 0 ((x3.length : Int) - 1) = true then (fitsB x1 x2 x3 (bagsS y0 y1) ((List.replicate x3.length 0).set k.toNat 1), 0) else (false, 2)) else (false, stCode x0 x1 x2 x3 y0 y1)
theorem passCode_ok {x0 : Int} {x1 : List Int} {x2 : List Bool} {x3 : List PR} {y0 : List (List Int)} {y1 cs : List Int} (h : passCodeS x0 x1 x2 x3 y0 y1 cs = 0) : stCode x0 x1 x2 x3 y0 y1 = 0 ∧ bag6 x3.length cs = true := by
  unfold passCodeS at h
  split at h
  · split at h
    · exact ⟨by assumption, by assumption⟩
    · exact absurd h (by decide)
  · exact absurd h (by assumption)
theorem one_ok {m q : Nat} (j : Nat) : 0 ≤ nth ((List.replicate m (0 : Int)).set q 1) j ∧ nth ((List.replicate m (0 : Int)).set q 1) j ≤ 1001 := by
  by_cases hq : q < m
  · rw [nth_set (by simpa using hq)]
    split
    · omega
    · have := zeros_ok m j; omega
  · rw [List.set_eq_of_length_le (by simp; omega)]
    have := zeros_ok m j; omega
theorem leftF_stop {K : Nat} {x1 : List Int} {x2 : List Bool} {x3 : List PR} {cs flat : List Int} {i : Nat} (h : (leftF K x1 x2 x3 cs flat i).2 = false) : ∀ d, leftF K x1 x2 x3 cs flat (i + d) = leftF K x1 x2 x3 cs flat i
  | 0 => rfl
  | d + 1 => by
    have ih := leftF_stop h d
    rw [← Nat.add_assoc, leftF, ih, h]
    simp
theorem leftF_len {K : Nat} {x1 : List Int} {x2 : List Bool} {x3 : List PR} {cs flat : List Int} : ∀ i, (leftF K x1 x2 x3 cs flat i).1.length = flat.length
  | 0 => rfl
  | i + 1 => by
    have ih := leftF_len (K := K) (x1 := x1) (x2 := x2) (x3 := x3) (cs := cs) (flat := flat) i
    rw [leftF]
    split
    · rw [takeF_len]; exact ih
    · exact ih
set_option maxHeartbeats 1000000 in
theorem l06Counts_c (x3 : List PR) (a3 : Option Addr) (c3 : Nat) (p : Nat) (bc : Option Addr) (cc : Nat) (cs : List Int) (w : World) (kc : SlI Any w bc cs) (hp3 : w.cell? ⟨p, 3, none⟩ = some (.slice a3 x3.length c3)) (_h8 : x3.length ≤ maxLen) :
    Calls Try.prog 24 #[.pointer (some ⟨p, 0, none⟩), .slice bc cs.length cc] w (RetP w (.bool (bag6 x3.length cs))) := by
  have HB := Lib.hid (l06Bag_c x3.length Any bc cc cs w kc)
  go_enter Try.func24, Try.ntmps24
  go_wp2_with fail
  refine HB.out.mono ?_
  rintro e w1 ⟨rfl, rfl⟩
  go_wp2
  go_ret
  exact ⟨rfl, rfl⟩
/-- Taking by a rule of the list. -/
theorem take_at (K : Nat) (x1 : List Int) (x2 : List Bool) (x3 : List PR) (a1 a2 a3 : Option Addr) (c1 c2 c3 : Nat) (k : Nat) (n : Int) (xs : List Int) (g cg : Nat) (p : Nat) (w wx : World) (h1 : SlI Any w a1 x1) (h2 : SlB Any w a2 x2) (h3 : Rd Any w (dPR x3) (.slice a3 x3.length c3)) (hp0 : w.cell? ⟨p, 0, none⟩ = some (.int .i64 K)) (hp1 : w.cell? ⟨p, 1, none⟩ = some (.slice a1 x1.length c1)) (hp2 : w.cell? ⟨p, 2, none⟩ = some (.slice a2 x2.length c2)) (hp3 : w.cell? ⟨p, 3, none⟩ = some (.slice a3 x3.length c3)) (hps : PsOk K x1 x2 x3) (hk : k < x3.length)
    (hb : Below w.heap.size w wx) (hbl : Bld 2 wx w.heap.size (.slice (some ⟨g, 0, none⟩) xs.length cg) (xs.map (.int .i64))) (hlen : xs.length = (x1.length + 1) * K) :
    Calls Try.prog 38 #[.pointer (some ⟨p, 0, none⟩), .slice (some ⟨g, 0, none⟩) xs.length cg, .pointer (some ⟨blk a3, ofs a3 + k * 3, none⟩), .int .i64 n] wx (fun e w' => TakePost w.heap.size g xs.length cg (takeF (cellN (nthPR x3 k) * K) (upN x1 (nthPR x3 k) * K) x2 (nthPR x3 k) n xs K) e w' ∧ Below w.heap.size wx w') := by
  have zp := World.block_lt_of_cell? w _ hp0
  obtain ⟨_, _, ex, hxs⟩ := Rd_PR h3
  cases ex
  have r0 := hxs.c0 k hk
  obtain ⟨u1, e1, r1, k1⟩ := hxs.c1 k hk
  obtain ⟨u2, e2, r2, k2⟩ := hxs.c2 k hk
  have hu := hps.upN hk
  have hrb : blk a3 < w.heap.size := World.block_lt_of_cell? w _ r0
  have hz := hb.size
  exact l06Take_c K x1 x2 (nthPR x3 k) n xs a1 a2 u1 u2 c1 c2 e1 e2 p (blk a3) (ofs a3 + k * 3) g cg w.heap.size (.slice a3 x3.length c3) wx
    ((h1.under (Nat.le_refl _)).low hb) ((h2.under (Nat.le_refl _)).low hb) ((k1.under (Nat.le_refl _)).low hb) ((k2.under (Nat.le_refl _)).low hb)
    ((bcell1 hb zp).trans hp0) ((bcell1 hb zp).trans hp1) ((bcell1 hb zp).trans hp2) ((bcell1 hb zp).trans hp3) ((bcell1 hb hrb).trans r0) ((bcell1 hb hrb).trans r1) ((bcell1 hb hrb).trans r2) zp hrb hbl hz hps.k1 hps.k8 hps.p4 hlen hps.free (hps.out k hk).2 (hps.inn k hk).2
    (hps.cell k hk) hu.2.2.2.1 hu.2.1 (fun h => (hps.par _ (by unfold cellN at hu; omega) (by unfold cellN at hu; omega)).1) hps.par0
set_option maxHeartbeats 2000000 in
set_option maxRecDepth 100000 in
theorem l06Left_c (K : Nat) (x1 : List Int) (x2 : List Bool) (x3 : List PR) (y0 : List (List Int)) (y1 : List Int) (a1 a2 a3 b0 b1 : Option Addr) (c1 c2 c3 d0 d1 : Nat) (w : World) (h1 : SlI Any w a1 x1) (h2 : SlB Any w a2 x2) (h3 : Rd Any w (dPR x3) (.slice a3 x3.length c3)) (k0 : SlII Any w b0 y0) (k1 : SlI Any w b1 y1) (cs : List Int) (bc : Option Addr) (cc : Nat) (kc : SlI Any w bc cs) (p q : Nat) (hp0 : w.cell? ⟨p, 0, none⟩ = some (.int .i64 K)) (hp1 : w.cell? ⟨p, 1, none⟩ = some (.slice a1 x1.length c1)) (hp2 : w.cell? ⟨p, 2, none⟩ = some (.slice a2 x2.length c2)) (hp3 : w.cell? ⟨p, 3, none⟩ = some (.slice a3 x3.length c3)) (hq0 : w.cell? ⟨q, 0, none⟩ = some (.slice b0 y0.length d0)) (hq1 : w.cell? ⟨q, 1, none⟩ = some (.slice b1 y1.length d1)) (hps : PsOk K x1 x2 x3) (hst : StOk K x1.length y0 y1) (hcl : cs.length = x3.length) :
    Calls Try.prog 19 #[.pointer (some ⟨p, 0, none⟩), .pointer (some ⟨q, 0, none⟩), .slice bc cs.length cc] w (fun e w' => ∃ g cg, e = .returned (.tuple #[.slice (some ⟨g, 0, none⟩) (bagsS y0 y1).flatten.length cg, .bool (leftF K x1 x2 x3 cs (bagsS y0 y1).flatten x3.length).2]) ∧ Below w.heap.size w w' ∧ Bld 2 w' w.heap.size (.slice (some ⟨g, 0, none⟩) (bagsS y0 y1).flatten.length cg) ((leftF K x1 x2 x3 cs (bagsS y0 y1).flatten x3.length).1.map (.int .i64))) := by
  have HF := Lib.hid (l06Flat_c K y0 y1 b0 b1 d0 d1 ⟨p, 0, none⟩ ⟨q, 0, none⟩ q w k0 k1 rfl hq0 hq1 (Lib.hid fun i hi => (hst.bag i (by have := hst.len; omega)).2) hst.around.2 hps.k1 hps.k8 (by have := hst.len; have := hps.p4; omega))
  have hfl := (flat_start hst).1
  have zp := World.block_lt_of_cell? w _ hp0
  have HT := Lib.hid (fun k n xs g cg wx hk hb hbl hlen => take_at K x1 x2 x3 a1 a2 a3 c1 c2 c3 k n xs g cg p w wx h1 h2 h3 hp0 hp1 hp2 hp3 hps hk hb hbl hlen)
  have H3 := Lib.hid (fun wx (hb : Below w.heap.size w wx) => (bcell1 hb zp).trans hp3)
  have hm := small_mul (k := x1.length + 1) (K := K) (n := 5) (by have := hps.p4; omega) hps.k8
  have hk1 := hps.k1
  have hpos : 0 < (bagsS y0 y1).flatten.length := by rw [hfl]; exact Nat.mul_pos (by omega) hk1
  have h3' := h3
  obtain ⟨_, _, e3, k3⟩ := Rd_PR h3'
  cases e3
  have i4 := ix_of (P := Try.prog) tabPassRuleSM.under tabPassRuleSM.size k3.ptr c3
  have lc := kc.len
  unfold maxLen at lc
  have ic := kc.ix tabI.under tabI.size cc
  have KC := Lib.hid kc
  have HCL := Lib.hid hcl
  have h8 := hps.r8
  have hrunT := callFunc_run Try.func38 (by kernel_rfl) rfl
  obtain ⟨L, hL⟩ : ∃ L, L = (bagsS y0 y1).flatten := ⟨_, rfl⟩
  rw [← hL] at HF hfl hpos ⊢
  have HFL : Hid (L.length = (x1.length + 1) * K ∧ (x1.length + 1) * K ≤ 40) := Lib.hid ⟨hfl, hm⟩
  have hL40 : L.length ≤ 40 := by omega
  clear h1 h2 h3 k0 k1 kc hp0 hp1 hp2 hp3 hq0 hq1 hps hst hcl hL h3' k3 hfl hm hk1
  go_enter Try.func19, Try.ntmps19
  go_wp2_with fail
  refine HF.out.mono ?_
  rintro e w1 ⟨v, rfl, hb1, hl1⟩
  obtain ⟨g, cg, rfl⟩ : ∃ g c, v = .slice (some ⟨g, 0, none⟩) L.length c := by
    have := hl1.ptr (by simp; omega)
    simpa using this
  have HB1 := Lib.hid hb1
  have HL1 := Lib.hid hl1
  clear hb1 hl1
  go_wp2
  go_loopw [9, 10] (fun ok i wr => ∃ k : Nat, k ≤ cs.length ∧ i = .int .i64 k ∧ ok = .bool (leftF K x1 x2 x3 cs L k).2 ∧ Below w.heap.size w wr ∧ Bld 2 wr w.heap.size (.slice (some ⟨g, 0, none⟩) L.length cg) ((leftF K x1 x2 x3 cs L k).1.map (.int .i64))) (fun ok i _ => cs.length - (intOf i).toNat)
  case atStart => exact ⟨0, Nat.zero_le _, rfl, rfl, HB1.out, HL1.out⟩
  case round =>
    obtain ⟨k, hk, rfl, rfl, hb, hbl⟩ := hrel
    have HB := Lib.hid hb
    have HBL := Lib.hid hbl
    have f3 := H3.out _ hb
    clear hb hbl
    have HLN : Hid ((leftF K x1 x2 x3 cs L k).1.length = L.length) := Lib.hid (leftF_len k)
    by_cases hlt : k < cs.length
    · cases hok : (leftF K x1 x2 x3 cs L k).2
      · have HS : Hid (leftF K x1 x2 x3 cs L x3.length = leftF K x1 x2 x3 cs L k) := Lib.hid (by
          have := leftF_stop hok (x3.length - k)
          rwa [show k + (x3.length - k) = x3.length by have := HCL.out; omega] at this)
        have HOK := Lib.hid hok
        clear hok
        go_wp2
        go_ret2
        exact ⟨g, cg, by rw [HS.out, HOK.out]; rfl, HB.out, by rw [HS.out]; exact HBL.out⟩
      · have HE : Hid (leftF K x1 x2 x3 cs L (k + 1) = takeF (cellN (nthPR x3 k) * K) (upN x1 (nthPR x3 k) * K) x2 (nthPR x3 k) (nth cs k) (leftF K x1 x2 x3 cs L k).1 K) := Lib.hid (by rw [leftF, if_pos hok])
        have gc := (KC.out.below HB.out).cell k hlt
        have hlt3 : (k : Int) < x3.length := by have := HCL.out; omega
        have HTX : Hid (∀ wx, Below wr.heap.size wr wx → Calls Try.prog 38 #[.pointer (some ⟨p, 0, none⟩), .slice (some ⟨g, 0, none⟩) L.length cg, .pointer (some ⟨blk a3, ofs a3 + k * 3, none⟩), .int .i64 (nth cs k)] wx (fun e w' => TakePost w.heap.size g L.length cg (leftF K x1 x2 x3 cs L (k + 1)) e w' ∧ Below w.heap.size wx w')) := Lib.hid (fun wx h => by
          have hh := HT.out k (nth cs k) (leftF K x1 x2 x3 cs L k).1 g cg wx (by have := HCL.out; omega) (HB.out.trans (h.mono HB.out.size)) (by rw [HLN.out]; exact HBL.out.below h) (by rw [HLN.out]; exact HFL.out.1)
          rw [HLN.out, ← HE.out] at hh
          exact hh)
        clear hok HT H3 HF
        go_wp2
        go_region_law (refine step_callG rfl 38 #[.tmp 23, .tmp 24, .tmp 30, .tmp 34] _ rfl hrunT #[.pointer (some ⟨p, 0, none⟩), .slice (some ⟨g, 0, none⟩) L.length cg, .pointer (some ⟨blk a3, ofs a3 + k * 3, none⟩), .int .i64 (nth cs k)] (by first | rfl | (simp [Act.eval]; done) | (simp [Act.eval]; rfl) | (simp [Act.eval]; repeat' constructor)) (HTX.out _ (by repeat (first | exact Below.refl _ _ | refine Below.drew ?_ | refine Below.alloc ?_ (by simp) _))) ?_; rintro e w9 ⟨⟨rfl, hbl9⟩, hb9⟩; refine ⟨_, rfl, ?_⟩; have hx9 : Below w.heap.size wr w9 := (Below.mono ((by repeat (first | exact Below.refl _ _ | refine Below.drew ?_ | refine Below.alloc ?_ (by simp) _)) : Below wr.heap.size wr _) HB.out.size).trans hb9)
        all_goals
          go_wp2
          go_roundw
          case rel => exact ⟨k + 1, by omega, by go_num, rfl, HB.out.trans hx9, hbl9⟩
          case measure => simp [intOf]; omega
    · have e : k = x3.length := by have := HCL.out; omega
      have HS : Hid (leftF K x1 x2 x3 cs L k = leftF K x1 x2 x3 cs L x3.length) := Lib.hid (by rw [e])
      clear e
      go_wp2
      go_ret2
      exact ⟨g, cg, by rw [HS.out]; rfl, HB.out, by rw [← HS.out]; exact HBL.out⟩
set_option maxHeartbeats 2000000 in
theorem specPassFits_c (x0 : Int) (x1 : List Int) (x2 : List Bool) (x3 : List PR) (y0 : List (List Int)) (y1 : List Int) (a1 a2 a3 b0 b1 : Option Addr) (c1 c2 c3 d0 d1 : Nat) (w : World) (h1 : SlI Any w a1 x1) (h2 : SlB Any w a2 x2) (h3 : Rd Any w (dPR x3) (.slice a3 x3.length c3)) (k0 : SlII Any w b0 y0) (k1 : SlI Any w b1 y1) (cs : List Int) (bc : Option Addr) (cc : Nat) (kc : SlI Any w bc cs) :
    Calls Try.prog 8 #[.agg #[.int .i64 x0, .slice a1 x1.length c1, .slice a2 x2.length c2, .slice a3 x3.length c3], .agg #[.slice b0 y0.length d0, .slice b1 y1.length d1], .slice bc cs.length cc] w (RetV w (.tuple #[.bool (passFitsS x0 x1 x2 x3 y0 y1 cs).1, .int .i64 (passFitsS x0 x1 x2 x3 y0 y1 cs).2])) := by
  have hb0 : Below w.heap.size w ((w.alloc (.cells #[.int .i64 x0, .slice a1 x1.length c1, .slice a2 x2.length c2, .slice a3 x3.length c3] 28)).alloc (.cells #[.slice b0 y0.length d0, .slice b1 y1.length d1] 31)) := ((Below.refl _ _).alloc (Nat.le_refl _) _).alloc (by simp) _
  have HC := Lib.hid (l06Code_c x0 x1 x2 x3 y0 y1 a1 a2 a3 b0 b1 c1 c2 c3 d0 d1 ((w.alloc (.cells #[.int .i64 x0, .slice a1 x1.length c1, .slice a2 x2.length c2, .slice a3 x3.length c3] 28)).alloc (.cells #[.slice b0 y0.length d0, .slice b1 y1.length d1] 31)) (h1.below hb0) (h2.below hb0) (h3.below hb0) (k0.below hb0) (k1.below hb0) w.heap.size (w.heap.size + 1) (by simp [go_sem]) (by simp [go_sem]) (by simp [go_sem]) (by simp [go_sem]) (by simp [go_sem]) (by simp [go_sem]))
  have HB0 := Lib.hid hb0
  have h3' := h3
  obtain ⟨_, _, e3, k3⟩ := Rd_PR h3'
  cases e3
  have l3 := k3.len
  clear hb0 h3' k3
  by_cases hcode : stCode x0 x1 x2 x3 y0 y1 = 0
  · obtain ⟨K, hxK, hps, hst⟩ := stockAll_ok (stCode_ok hcode)
    have HCO := Lib.hid (fun wx (h : Below w.heap.size w wx) hp3 => l06Counts_c x3 a3 c3 w.heap.size bc cc cs wx (kc.below h) hp3 l3)
    rw [hcode] at HC
    cases hb6 : bag6 x3.length cs
    · have ev : passFitsS x0 x1 x2 x3 y0 y1 cs = (false, 2) := by simp [passFitsS, passCodeS, hcode, hb6]
      rw [hb6] at HCO
      rw [ev]
      clear ev hcode hb6 hps hst h1 h2 h3 k0 k1 kc hxK
      go_enter Try.func8, Try.ntmps8
      go_wp2_with fail
      refine HC.out.mono ?_
      rintro e w1 ⟨rfl, hb1⟩
      have f0 : w1.cell? ⟨w.heap.size, 0, none⟩ = some (.int .i64 x0) := by rw [bcell1 hb1 (by simp <;> omega)]; simp [go_sem]
      have f1 : w1.cell? ⟨w.heap.size, 1, none⟩ = some (.slice a1 x1.length c1) := by rw [bcell1 hb1 (by simp <;> omega)]; simp [go_sem]
      have f2 : w1.cell? ⟨w.heap.size, 2, none⟩ = some (.slice a2 x2.length c2) := by rw [bcell1 hb1 (by simp <;> omega)]; simp [go_sem]
      have f3 : w1.cell? ⟨w.heap.size, 3, none⟩ = some (.slice a3 x3.length c3) := by rw [bcell1 hb1 (by simp <;> omega)]; simp [go_sem]
      have e0 : w1.cell? ⟨w.heap.size + 1, 0, none⟩ = some (.slice b0 y0.length d0) := by rw [bcell1 hb1 (by simp <;> omega)]; simp [go_sem]
      have e1 : w1.cell? ⟨w.heap.size + 1, 1, none⟩ = some (.slice b1 y1.length d1) := by rw [bcell1 hb1 (by simp <;> omega)]; simp [go_sem]
      have HB1 := Lib.hid (HB0.out.trans (hb1.mono (by simp <;> omega)))
      clear hb1
      go_wp2_with fail
      refine (HCO.out w1 HB1.out f3).mono ?_
      rintro e w2 ⟨rfl, rfl⟩
      go_wp2
      go_ret2
      exact ⟨rfl, HB1.out⟩
    · have hcs := bag6_ok hb6
      have ev : passFitsS x0 x1 x2 x3 y0 y1 cs = (fitsB x1 x2 x3 (bagsS y0 y1) cs, 0) := by simp [passFitsS, passCodeS, hcode, hb6]
      have HLF := Lib.hid (left_fits (cs := cs) hps hst (fun j => by have := hcs.2 j; omega) hcs.1)
      have HXK := Lib.hid hxK
      have HLE := Lib.hid (fun wx (h : Below w.heap.size w wx) p q g0 g1 g2 g3 g4 g5 => l06Left_c K x1 x2 x3 y0 y1 a1 a2 a3 b0 b1 c1 c2 c3 d0 d1 wx (h1.below h) (h2.below h) (h3.below h) (k0.below h) (k1.below h) cs bc cc (kc.below h) p q g0 g1 g2 g3 g4 g5 hps hst hcs.1)
      rw [hb6] at HCO
      rw [ev]
      clear ev hcode hb6 hps hst hcs h1 h2 h3 k0 k1 kc hxK
      go_enter Try.func8, Try.ntmps8
      go_wp2_with fail
      refine HC.out.mono ?_
      rintro e w1 ⟨rfl, hb1⟩
      have f0 : w1.cell? ⟨w.heap.size, 0, none⟩ = some (.int .i64 x0) := by rw [bcell1 hb1 (by simp <;> omega)]; simp [go_sem]
      have f1 : w1.cell? ⟨w.heap.size, 1, none⟩ = some (.slice a1 x1.length c1) := by rw [bcell1 hb1 (by simp <;> omega)]; simp [go_sem]
      have f2 : w1.cell? ⟨w.heap.size, 2, none⟩ = some (.slice a2 x2.length c2) := by rw [bcell1 hb1 (by simp <;> omega)]; simp [go_sem]
      have f3 : w1.cell? ⟨w.heap.size, 3, none⟩ = some (.slice a3 x3.length c3) := by rw [bcell1 hb1 (by simp <;> omega)]; simp [go_sem]
      have e0 : w1.cell? ⟨w.heap.size + 1, 0, none⟩ = some (.slice b0 y0.length d0) := by rw [bcell1 hb1 (by simp <;> omega)]; simp [go_sem]
      have e1 : w1.cell? ⟨w.heap.size + 1, 1, none⟩ = some (.slice b1 y1.length d1) := by rw [bcell1 hb1 (by simp <;> omega)]; simp [go_sem]
      have HB1 := Lib.hid (HB0.out.trans (hb1.mono (by simp <;> omega)))
      clear hb1
      go_wp2_with fail
      refine (HCO.out w1 HB1.out f3).mono ?_
      rintro e w2 ⟨rfl, rfl⟩
      go_wp2_with fail
      refine (HLE.out w1 HB1.out w.heap.size (w.heap.size + 1) (by rw [f0, HXK.out]) f1 f2 f3 e0 e1).mono ?_
      rintro e w3 ⟨g, cg, rfl, hb3, hbl3⟩
      have HB3 := Lib.hid (bnext HB1.out hb3 (Nat.le_refl _))
      clear hb3 hbl3
      go_wp2
      go_ret2
      exact ⟨by rw [HLF.out]; rfl, HB3.out⟩
  · have ev : passFitsS x0 x1 x2 x3 y0 y1 cs = (false, stCode x0 x1 x2 x3 y0 y1) := by simp [passFitsS, passCodeS, hcode]
    have hc1' : (stCode x0 x1 x2 x3 y0 y1 != 0) = true := by simpa using hcode
    rw [ev]
    clear ev hcode h1 h2 h3 k0 k1 kc
    go_enter Try.func8, Try.ntmps8
    go_wp2_with fail
    refine HC.out.mono ?_
    rintro e w1 ⟨rfl, hb1⟩
    have HB1 := Lib.hid (HB0.out.trans (hb1.mono (by simp <;> omega)))
    clear hb1
    go_wp2
    go_ret2
    exact ⟨rfl, HB1.out⟩
end Go.Proofs.Ytkjmehpehopncaa
