/- What rules take and give: the reference's functions. -/
import Derived.Test.YtkoojiplfbcalaaPI
namespace Go.Proofs.Ytkoojiplfbcalaa
open Go.RowKit

/-- A call of which something is known, at a step of a region that draws its order. -/
theorem step_callG {P : Program} {ops : Array Oper} {o : Oper} {ac : Act} {w : World} {K : Act → World → Prop} {Q : Exit → Act → World → Prop} {X : Prop} (hgd : o.guard = none) (f : FuncId) (xs : Array Operand) (ts : Array TypeId)
    (ho : o.op = .call { callee := .value (.func f), args := xs, argTypes := ts }) (hrun : ∀ args w, (callFunc f args).run P w = .ok (.enter f args) w) (vs : Array Value) (hv : xs.map ac.eval = vs) {Post : Ending → World → Prop}
    (h : Calls P f vs w Post) (hK : ∀ e w', Post e w' → ∃ v, e = .returned v ∧ K (ac.put o.dst v) w') : if Region.wanted o (yielded ops ac.tmps) = true then Oper.wp P o ac w K Q else X := by
  have hw : Region.wanted o (yielded ops ac.tmps) = true := by simp [Region.wanted, hgd]
  rw [if_pos hw]
  unfold Oper.wp execOp
  simp only [ho, resolve, Act.eval, Deferred.ofValue, Sem.run_bind, Sem.run_pure, Result.andThen_ok, invoke, Array.append_empty]
  rw [show xs.map (Act.eval ac) = vs from hv]
  simp only [Array.empty_append, hrun, Oper.upon_enter]
  refine h.mono fun e w' hp => ?_
  obtain ⟨v, rfl, hk⟩ := hK e w' hp
  exact hk
theorem SlI.under {S : Nat → Prop} {w : World} {a : Option Addr} {xs : List Int} {B : Nat} (h : SlI S w a xs) (hB : w.heap.size ≤ B) : SlI (· < B) w a xs :=
  ⟨h.len, fun h0 => ⟨by have := World.block_lt_of_cell? w _ (h.cell 0 h0); simp only [adr] at this; omega, (h.ptr h0).2⟩, h.cell⟩
theorem SlB.under {S : Nat → Prop} {w : World} {a : Option Addr} {xs : List Bool} {B : Nat} (h : SlB S w a xs) (hB : w.heap.size ≤ B) : SlB (· < B) w a xs :=
  ⟨h.len, fun h0 => ⟨by have := World.block_lt_of_cell? w _ (h.cell 0 h0); simp only [adr] at this; omega, (h.ptr h0).2⟩, h.cell⟩
theorem SlI.low {w w' : World} {a : Option Addr} {xs : List Int} {B : Nat} (h : SlI (· < B) w a xs) (hb : Below B w w') : SlI (· < B) w' a xs :=
  ⟨h.len, h.ptr, fun i hi => (hb.cell (p := adr a i) (h.ptr (by omega)).1).trans (h.cell i hi)⟩
theorem SlB.low {w w' : World} {a : Option Addr} {xs : List Bool} {B : Nat} (h : SlB (· < B) w a xs) (hb : Below B w w') : SlB (· < B) w' a xs :=
  ⟨h.len, h.ptr, fun i hi => (hb.cell (p := adr a i) (h.ptr (by omega)).1).trans (h.cell i hi)⟩
theorem Bld.at_nth {E : Nat} {w : World} {B g n c : Nat} {xs : List Int} (h : Bld E w B (.slice (some ⟨g, 0, none⟩) n c) (xs.map (.int .i64))) {i : Nat} (hi : i < xs.length) : w.cell? ⟨g, i, none⟩ = some (.int .i64 (nth xs i)) := by
  refine h.cell ?_
  rw [List.getElem?_map, List.getElem?_eq_getElem hi, ← nth_lt hi]; rfl
theorem Bld.set_nth {E : Nat} {w : World} {B g n c : Nat} {xs : List Int} (h : Bld E w B (.slice (some ⟨g, 0, none⟩) n c) (xs.map (.int .i64))) (i : Nat) (x : Int) : Bld E (w.setCell ⟨g, i, none⟩ (.int .i64 x)) B (.slice (some ⟨g, 0, none⟩) n c) ((xs.set i x).map (.int .i64)) := by
  have := h.set i (.int .i64 x)
  rwa [← List.map_set] at this
def TakePost (B g n cg : Nat) (r : List Int × Bool) (e : Ending) (w' : World) : Prop := e = .returned (.bool r.2) ∧ Bld 2 w' B (.slice (some ⟨g, 0, none⟩) n cg) (r.1.map (.int .i64))
set_option maxHeartbeats 2000000 in
theorem l06At_c (K : Nat) (x1 : List Int) (a1 : Option Addr) (c1 p : Nat) (c : Int) (U : Nat) (w : World) (h1 : SlI Any w a1 x1) (hp0 : w.cell? ⟨p, 0, none⟩ = some (.int .i64 K)) (hp1 : w.cell? ⟨p, 1, none⟩ = some (.slice a1 x1.length c1))
    (hK8 : K ≤ 8) (hn : x1.length ≤ 4) (hc : 0 ≤ c ∧ c < x1.length) (hU : upS x1 c = U) (hpar : 0 < c → 0 ≤ nth x1 c.toNat) (h0 : nth x1 0 = -1) (hU4 : U ≤ 4) :
    Calls Try.prog 179 #[.pointer (some ⟨p, 0, none⟩), .int .i64 c] w (RetQ w (.int .i64 ((U * K : Nat) : Int))) := by
  have i1 := fun w' => h1.ix tabI.under tabI.size c1 c w' hc.1 hc.2
  have g1 := h1.cell c.toNat (by omega)
  have hm := small_mul (k := U) (K := K) (n := 4) hU4 hK8
  have HM := Lib.hid hm
  by_cases e : c = 0
  · subst e
    have hU' : (x1.length : Int) = U := by simpa [upS] using hU
    have hw : IntKind.i64.wrap ((x1.length : Int) * (K : Int)) = ((U * K : Nat) : Int) := by
      rw [hU', wrap_64, Int.natCast_mul]
      have : ((U * K : Nat) : Int) ≤ 32 := by omega
      rw [Int.natCast_mul] at this
      have h2 : 0 ≤ (U : Int) * (K : Int) := Int.mul_nonneg (by omega) (by omega)
      unfold wrap64; omega
    rw [Int.toNat_zero, h0] at g1
    clear h1 hU hU' hm
    go_enter Try.func179, Try.ntmps179
    go_wp2
    go_quiet (fail)
    go_wp2
    go_ret
    exact ⟨by first | rfl | rw [hw], _, rfl⟩
  · have hU' : nth x1 c.toNat = U := by simpa [upS, e] using hU
    have hpos := hpar (by omega)
    have hneg : ¬ nth x1 c.toNat < 0 := by omega
    have hw : IntKind.i64.wrap (nth x1 c.toNat * (K : Int)) = ((U * K : Nat) : Int) := by
      rw [hU', wrap_64, Int.natCast_mul]
      have : ((U * K : Nat) : Int) ≤ 32 := by omega
      rw [Int.natCast_mul] at this
      have h2 : 0 ≤ (U : Int) * (K : Int) := Int.mul_nonneg (by omega) (by omega)
      unfold wrap64; omega
    clear h1 hU hU' hm hpos hpar
    go_enter Try.func179, Try.ntmps179
    go_wp2
    go_quiet (fail)
    go_wp2
    go_ret
    exact ⟨by first | rfl | rw [hw], _, rfl⟩
set_option maxHeartbeats 8000000 in
set_option maxRecDepth 100000 in
theorem l06Take_c (K : Nat) (x1 : List Int) (x2 : List Bool) (r : PR) (n : Int) (xs : List Int) (a1 a2 u1 u2 : Option Addr) (c1 c2 d1 d2 : Nat) (p rb ro g cg B : Nat) (v3 : Value) (w : World) (h1 : SlI (· < B) w a1 x1) (h2 : SlB (· < B) w a2 x2) (k1 : SlI (· < B) w u1 r.out) (k2 : SlI (· < B) w u2 r.inn)
    (hp0 : w.cell? ⟨p, 0, none⟩ = some (.int .i64 K)) (hp1 : w.cell? ⟨p, 1, none⟩ = some (.slice a1 x1.length c1)) (hp2 : w.cell? ⟨p, 2, none⟩ = some (.slice a2 x2.length c2)) (_hp3 : w.cell? ⟨p, 3, none⟩ = some v3)
    (hr0 : w.cell? ⟨rb, ro, none⟩ = some (.int .i64 r.cell)) (hr1 : w.cell? ⟨rb, ro + 1, none⟩ = some (.slice u1 r.out.length d1)) (hr2 : w.cell? ⟨rb, ro + 2, none⟩ = some (.slice u2 r.inn.length d2)) (hpB : p < B) (hrB : rb < B)
    (hbl : Bld 2 w B (.slice (some ⟨g, 0, none⟩) xs.length cg) (xs.map (.int .i64))) (hBw : B ≤ w.heap.size) (hK1 : 1 ≤ K) (hK8 : K ≤ 8) (hn4 : x1.length ≤ 4) (hlen : xs.length = (x1.length + 1) * K) (hx2 : x2.length = K) (ho : r.out.length = K) (hi : r.inn.length = K)
    (hc : 0 ≤ r.cell ∧ r.cell < x1.length) (hUs : upS x1 r.cell = (upN x1 r : Int)) (hUl : upN x1 r ≤ x1.length) (hpar : 0 < r.cell → 0 ≤ nth x1 r.cell.toNat) (h0 : nth x1 0 = -1) :
    Calls Try.prog 133 #[.pointer (some ⟨p, 0, none⟩), .slice (some ⟨g, 0, none⟩) xs.length cg, .pointer (some ⟨rb, ro, none⟩), .int .i64 n] w (fun e w' => TakePost B g xs.length cg (takeF (cellN r * K) (upN x1 r * K) x2 r n xs K) e w' ∧ Below B w w') := by
  have hcn : r.cell = (cellN r : Int) := by unfold cellN; omega
  have hcl : cellN r < x1.length := by omega
  have ha := fun k (hk : k < K) => idx_lt (K := K) (k := k) (show cellN r ≤ x1.length by omega) hk
  have hb := fun k (hk : k < K) => idx_lt (K := K) (k := k) hUl hk
  have hmx := small_mul (k := x1.length + 1) (K := K) (n := 5) (by omega) hK8
  have hwo : IntKind.i64.wrap (r.cell * (K : Int)) = ((cellN r * K : Nat) : Int) := by
    rw [hcn, wrap_64, Int.natCast_mul]
    have h1 := ha 0 (by omega)
    have h3 : ((cellN r * K : Nat) : Int) ≤ 40 := by omega
    rw [Int.natCast_mul] at h3
    have h2 : 0 ≤ (cellN r : Int) * (K : Int) := Int.mul_nonneg (by omega) (by omega)
    unfold wrap64; omega
  have HAT := Lib.hid (fun x : Wd w => callsQ (l06At_c K x1 a1 c1 p r.cell (upN x1 r) (wat x) ((h1.below (wat_below x)).any) ((bcell1 (wat_below x) (World.block_lt_of_cell? w _ hp0)).trans hp0) ((bcell1 (wat_below x) (World.block_lt_of_cell? w _ hp0)).trans hp1) hK8 hn4 hc hUs hpar h0 (by omega)))
  obtain ⟨O, hO⟩ : ∃ O, O = cellN r * K := ⟨_, rfl⟩
  obtain ⟨U, hU⟩ : ∃ U, U = upN x1 r * K := ⟨_, rfl⟩
  have HOK := Lib.hid hO
  have HUK := Lib.hid hU
  rw [← hO] at hwo ha
  rw [← hU] at HAT hb
  have HA := Lib.hid ha
  have HBB := Lib.hid hb
  have HMX := Lib.hid hmx
  have H1 := Lib.hid h1
  have H2 := Lib.hid h2
  have K1 := Lib.hid k1
  have K2 := Lib.hid k2
  have HLEN := Lib.hid hlen
  have HX2 := Lib.hid hx2
  have HOL := Lib.hid ho
  have HIL := Lib.hid hi
  have HBL := Lib.hid hbl
  have HG := Lib.hid hbl.base
  have i1 := ix_of (P := Try.prog) tabI.under tabI.size (a := some ⟨g, 0, none⟩) (n := xs.length) (fun _ => ⟨g, 0, rfl⟩) cg
  simp only [Nat.mul_one, adr, blk, ofs, Nat.zero_add] at i1
  have i2 := k1.ix tabI.under tabI.size d1
  have i3 := k2.ix tabI.under tabI.size d2
  have i4 := h2.ix tabB.under tabB.size c2
  clear h1 h2 k1 k2 hlen hx2 ho hi hbl ha hb hmx hO hU hUs hUl hpar h0 hcn hcl
  rw [← HOK.out, ← HUK.out]
  have q0 := wat_cell hp0
  have q1 := wat_cell hp1
  have q2 := wat_cell hp2
  have r0 := wat_cell hr0
  have r1 := wat_cell hr1
  have r2 := wat_cell hr2
  go_enter Try.func133, Try.ntmps133
  go_wp2
  refine wp_quiet_wd (by kernel_rfl) (by kernel_rfl) ?_
  repeat (go_big_quiet_step (first | with_reducible exact wdV (HAT.out _)))
  refine wpQuiet_nil ?_
  rintro _ ⟨wq, rfl⟩
  have f0 := r0 wq
  go_wp2_with fail
  refine (HAT.out wq).mono ?_
  rintro e w2 ⟨rfl, hb2⟩
  have hbw := bnext (wat_below wq) hb2 (Nat.le_refl _)
  have HB0 := Lib.hid (hbw.mono hBw)
  have HL0 := Lib.hid (HBL.out.below hbw)
  clear q0 q1 q2 r0 r1 r2 f0 hb2 hbw
  go_wp2
  go_loopw [11, 12] (fun b k wr => ∃ j : Nat, j ≤ K ∧ k = .int .i64 j ∧ b = .bool (takeF O U x2 r n xs j).2 ∧ Below B w wr ∧ Bld 2 wr B (.slice (some ⟨g, 0, none⟩) xs.length cg) ((takeF O U x2 r n xs j).1.map (.int .i64))) (fun _ k _ => K - (intOf k).toNat)
  case atStart => exact ⟨0, Nat.zero_le _, rfl, rfl, HB0.out, HL0.out⟩
  case round =>
    obtain ⟨j, hj, rfl, rfl, hb, hbl⟩ := hrel
    have f0 := (bcell1 hb hpB).trans hp0
    have f2 := (bcell1 hb hpB).trans hp2
    have e0 := (bcell1 hb hrB).trans hr0
    have e1 := (bcell1 hb hrB).trans hr1
    have e2 := (bcell1 hb hrB).trans hr2
    by_cases hlt : j < K
    · have hl1 := takeF_len O U x2 r n xs j
      have hA := HA.out j hlt
      have hB2 := HBB.out j hlt
      have hLE := HLEN.out
      have hMX := HMX.out
      have HTK : Hid (takeF O U x2 r n xs (j + 1) = takeK O U r n (insK x2 r j) j (takeF O U x2 r n xs j)) := Lib.hid rfl
      have hlt1 : (j : Int) < r.out.length := by have := HOL.out; omega
      have hlt2 : (j : Int) < r.inn.length := by have := HIL.out; omega
      have hlt3 : (j : Int) < x2.length := by have := HX2.out; omega
      have g1 := (K1.out.low hb).cell j (by omega)
      have g2 := hbl.at_nth (i := O + j) (by omega)
      have z2 := hbl.free (O + j)
      have hwA : IntKind.i64.wrap ((O : Int) + (j : Int)) = (O : Int) + (j : Int) := by rw [wrap_64]; unfold wrap64; omega
      have hwU : IntKind.i64.wrap ((U : Int) + (j : Int)) = (U : Int) + (j : Int) := by rw [wrap_64]; unfold wrap64; omega
      have iA := fun w' => i1 ((O : Int) + (j : Int)) w' (by omega) (by omega)
      have iU := fun w' => i1 ((U : Int) + (j : Int)) w' (by omega) (by omega)
      rw [show ((O : Int) + (j : Int)).toNat = O + j by omega] at iA
      rw [show ((U : Int) + (j : Int)).toNat = U + j by omega] at iU
      generalize hS : takeF O U x2 r n xs j = S at *
      obtain ⟨xs1, ok⟩ := S
      dsimp only at *
      have HBr := Lib.hid hb
      have HLr := Lib.hid hbl
      have HS := Lib.hid hS
      have HL1 := Lib.hid hl1
      clear hb hbl hS hl1 i1 hLE

      go_wp2
      go_region
      all_goals
        clear f0 f2 e0 e1 e2 g1 g2 z2
        obtain ⟨w7, hw7⟩ : ∃ wz, wz = (wr.setCell ⟨g, O + j, none⟩ (.int .i64 (wrap64 (nth xs1 (O + j) - wrap64 (nth r.out j * n))))).drew := ⟨_, rfl⟩
        rw [← hw7]
        obtain ⟨xs2, hxs2⟩ : ∃ l, l = xs1.set (O + j) (wrap64 (nth xs1 (O + j) - wrap64 (nth r.out j * n))) := ⟨_, rfl⟩
        have hB7 : Below B w w7 := by rw [hw7]; exact (HBr.out.setCell HG.out.1 _).drew
        have hL7 : Bld 2 w7 B (.slice (some ⟨g, 0, none⟩) xs.length cg) (xs2.map (.int .i64)) := by rw [hw7, hxs2]; exact (HLr.out.set_nth (O + j) _).below (Below.refl _ _).drew
        have hl7 : xs2.length = xs.length := by rw [hxs2, List.length_set]; exact HL1.out
        have HXxs2 := Lib.hid hxs2
        have HLX7 := Lib.hid hl7
        have f0 := (bcell1 hB7 hpB).trans hp0
        have f2 := (bcell1 hB7 hpB).trans hp2
        have e0 := (bcell1 hB7 hrB).trans hr0
        have e1 := (bcell1 hB7 hrB).trans hr1
        have e2 := (bcell1 hB7 hrB).trans hr2
        have g2 := hL7.at_nth (i := O + j) (by have := HLEN.out; omega)
        have g3 := hL7.at_nth (i := U + j) (by have := HLEN.out; omega)
        have z3 := hL7.free (U + j)
        have g4 := (K2.out.low hB7).cell j (by omega)
        have g5 := (H2.out.low hB7).cell j (by omega)
        have HB7 := Lib.hid hB7
        have HL7 := Lib.hid hL7
        clear hw7 hxs2 hB7 hL7 hl7
        cases ok
        · skip
          by_cases hcl : 0 < r.cell
          rotate_left
          · cases hfr : nthB x2 j
            rotate_left
            · have hins : insK x2 r j = false := by simp [insK, hcl, hfr]
              rw [hfr] at g5
              have HR : Hid (takeF O U x2 r n xs (j + 1) = (xs2, false)) := Lib.hid (by rw [HTK.out]; simp only [takeK, hins, Bool.false_eq_true, if_false, ← HXxs2.out]; simp)
              clear hins hfr
              go_wp2
              go_roundw
              case rel => exact ⟨j + 1, by omega, by go_num, by rw [HR.out], HB7.out, by rw [HR.out]; exact HL7.out⟩
              case measure => simp [intOf]; omega
            · have hins : insK x2 r j = true := by simp [insK, hfr]
              rw [hfr] at g5
              have HI := Lib.hid hins
              clear hins hfr
              go_wp2
              go_region
              all_goals
                clear f0 f2 e0 e1 e2 g2 g3 z3 g4 g5
                obtain ⟨w8, hw8⟩ : ∃ wz, wz = (w7.setCell ⟨g, U + j, none⟩ (.int .i64 (wrap64 (nth xs2 (U + j) - wrap64 (nth r.inn j * n))))).drew := ⟨_, rfl⟩
                rw [← hw8]
                obtain ⟨xs3, hxs3⟩ : ∃ l, l = xs2.set (U + j) (wrap64 (nth xs2 (U + j) - wrap64 (nth r.inn j * n))) := ⟨_, rfl⟩
                have hB8 : Below B w w8 := by rw [hw8]; exact (HB7.out.setCell HG.out.1 _).drew
                have hL8 : Bld 2 w8 B (.slice (some ⟨g, 0, none⟩) xs.length cg) (xs3.map (.int .i64)) := by rw [hw8, hxs3]; exact (HL7.out.set_nth (U + j) _).below (Below.refl _ _).drew
                have hl8 : xs3.length = xs.length := by rw [hxs3, List.length_set]; exact HLX7.out
                have HXxs3 := Lib.hid hxs3
                have HLX8 := Lib.hid hl8
                have f0 := (bcell1 hB8 hpB).trans hp0
                have f2 := (bcell1 hB8 hpB).trans hp2
                have e0 := (bcell1 hB8 hrB).trans hr0
                have e1 := (bcell1 hB8 hrB).trans hr1
                have e2 := (bcell1 hB8 hrB).trans hr2
                have g6 := hL8.at_nth (i := U + j) (by have := HLEN.out; omega)
                have HB8 := Lib.hid hB8
                have HL8 := Lib.hid hL8
                clear hw8 hxs3 hB8 hL8 hl8
                have HR : Hid (takeF O U x2 r n xs (j + 1) = (xs3, false)) := Lib.hid (by rw [HTK.out]; simp only [takeK, HI.out, if_true, ← HXxs2.out, ← HXxs3.out]; simp)
                go_wp2
                go_roundw
                case rel => exact ⟨j + 1, by omega, by go_num, by rw [HR.out], HB8.out, by rw [HR.out]; exact HL8.out⟩
                case measure => simp [intOf]; omega
          · have hins : insK x2 r j = true := by simp [insK, hcl]
            have HI := Lib.hid hins
            clear hins
            go_wp2
            go_region
            all_goals
              clear f0 f2 e0 e1 e2 g2 g3 z3 g4 g5
              obtain ⟨w8, hw8⟩ : ∃ wz, wz = (w7.setCell ⟨g, U + j, none⟩ (.int .i64 (wrap64 (nth xs2 (U + j) - wrap64 (nth r.inn j * n))))).drew := ⟨_, rfl⟩
              rw [← hw8]
              obtain ⟨xs3, hxs3⟩ : ∃ l, l = xs2.set (U + j) (wrap64 (nth xs2 (U + j) - wrap64 (nth r.inn j * n))) := ⟨_, rfl⟩
              have hB8 : Below B w w8 := by rw [hw8]; exact (HB7.out.setCell HG.out.1 _).drew
              have hL8 : Bld 2 w8 B (.slice (some ⟨g, 0, none⟩) xs.length cg) (xs3.map (.int .i64)) := by rw [hw8, hxs3]; exact (HL7.out.set_nth (U + j) _).below (Below.refl _ _).drew
              have hl8 : xs3.length = xs.length := by rw [hxs3, List.length_set]; exact HLX7.out
              have HXxs3 := Lib.hid hxs3
              have HLX8 := Lib.hid hl8
              have f0 := (bcell1 hB8 hpB).trans hp0
              have f2 := (bcell1 hB8 hpB).trans hp2
              have e0 := (bcell1 hB8 hrB).trans hr0
              have e1 := (bcell1 hB8 hrB).trans hr1
              have e2 := (bcell1 hB8 hrB).trans hr2
              have g6 := hL8.at_nth (i := U + j) (by have := HLEN.out; omega)
              have HB8 := Lib.hid hB8
              have HL8 := Lib.hid hL8
              clear hw8 hxs3 hB8 hL8 hl8
              have HR : Hid (takeF O U x2 r n xs (j + 1) = (xs3, false)) := Lib.hid (by rw [HTK.out]; simp only [takeK, HI.out, if_true, ← HXxs2.out, ← HXxs3.out]; simp)
              go_wp2
              go_roundw
              case rel => exact ⟨j + 1, by omega, by go_num, by rw [HR.out], HB8.out, by rw [HR.out]; exact HL8.out⟩
              case measure => simp [intOf]; omega
        · by_cases h1 : 0 ≤ nth xs2 (O + j)
          · skip
            by_cases hcl : 0 < r.cell
            rotate_left
            · cases hfr : nthB x2 j
              rotate_left
              · have hins : insK x2 r j = false := by simp [insK, hcl, hfr]
                rw [hfr] at g5
                have HR : Hid (takeF O U x2 r n xs (j + 1) = (xs2, true)) := Lib.hid (by rw [HTK.out]; simp only [takeK, hins, Bool.false_eq_true, if_false, ← HXxs2.out]; simp [h1])
                clear hins hfr
                go_wp2
                go_roundw
                case rel => exact ⟨j + 1, by omega, by go_num, by rw [HR.out], HB7.out, by rw [HR.out]; exact HL7.out⟩
                case measure => simp [intOf]; omega
              · have hins : insK x2 r j = true := by simp [insK, hfr]
                rw [hfr] at g5
                have HI := Lib.hid hins
                clear hins hfr
                go_wp2
                go_region
                all_goals
                  clear f0 f2 e0 e1 e2 g2 g3 z3 g4 g5
                  obtain ⟨w8, hw8⟩ : ∃ wz, wz = (w7.setCell ⟨g, U + j, none⟩ (.int .i64 (wrap64 (nth xs2 (U + j) - wrap64 (nth r.inn j * n))))).drew := ⟨_, rfl⟩
                  rw [← hw8]
                  obtain ⟨xs3, hxs3⟩ : ∃ l, l = xs2.set (U + j) (wrap64 (nth xs2 (U + j) - wrap64 (nth r.inn j * n))) := ⟨_, rfl⟩
                  have hB8 : Below B w w8 := by rw [hw8]; exact (HB7.out.setCell HG.out.1 _).drew
                  have hL8 : Bld 2 w8 B (.slice (some ⟨g, 0, none⟩) xs.length cg) (xs3.map (.int .i64)) := by rw [hw8, hxs3]; exact (HL7.out.set_nth (U + j) _).below (Below.refl _ _).drew
                  have hl8 : xs3.length = xs.length := by rw [hxs3, List.length_set]; exact HLX7.out
                  have HXxs3 := Lib.hid hxs3
                  have HLX8 := Lib.hid hl8
                  have f0 := (bcell1 hB8 hpB).trans hp0
                  have f2 := (bcell1 hB8 hpB).trans hp2
                  have e0 := (bcell1 hB8 hrB).trans hr0
                  have e1 := (bcell1 hB8 hrB).trans hr1
                  have e2 := (bcell1 hB8 hrB).trans hr2
                  have g6 := hL8.at_nth (i := U + j) (by have := HLEN.out; omega)
                  have HB8 := Lib.hid hB8
                  have HL8 := Lib.hid hL8
                  clear hw8 hxs3 hB8 hL8 hl8
                  by_cases h2 : 0 ≤ nth xs3 (U + j)
                  · have HR : Hid (takeF O U x2 r n xs (j + 1) = (xs3, true)) := Lib.hid (by rw [HTK.out]; simp only [takeK, HI.out, if_true, ← HXxs2.out, ← HXxs3.out]; simp [h1, h2])
                    go_wp2
                    go_roundw
                    case rel => exact ⟨j + 1, by omega, by go_num, by rw [HR.out], HB8.out, by rw [HR.out]; exact HL8.out⟩
                    case measure => simp [intOf]; omega
                  · have HR : Hid (takeF O U x2 r n xs (j + 1) = (xs3, false)) := Lib.hid (by rw [HTK.out]; simp only [takeK, HI.out, if_true, ← HXxs2.out, ← HXxs3.out]; simp [h1, h2])
                    go_wp2
                    go_roundw
                    case rel => exact ⟨j + 1, by omega, by go_num, by rw [HR.out], HB8.out, by rw [HR.out]; exact HL8.out⟩
                    case measure => simp [intOf]; omega
            · have hins : insK x2 r j = true := by simp [insK, hcl]
              have HI := Lib.hid hins
              clear hins
              go_wp2
              go_region
              all_goals
                clear f0 f2 e0 e1 e2 g2 g3 z3 g4 g5
                obtain ⟨w8, hw8⟩ : ∃ wz, wz = (w7.setCell ⟨g, U + j, none⟩ (.int .i64 (wrap64 (nth xs2 (U + j) - wrap64 (nth r.inn j * n))))).drew := ⟨_, rfl⟩
                rw [← hw8]
                obtain ⟨xs3, hxs3⟩ : ∃ l, l = xs2.set (U + j) (wrap64 (nth xs2 (U + j) - wrap64 (nth r.inn j * n))) := ⟨_, rfl⟩
                have hB8 : Below B w w8 := by rw [hw8]; exact (HB7.out.setCell HG.out.1 _).drew
                have hL8 : Bld 2 w8 B (.slice (some ⟨g, 0, none⟩) xs.length cg) (xs3.map (.int .i64)) := by rw [hw8, hxs3]; exact (HL7.out.set_nth (U + j) _).below (Below.refl _ _).drew
                have hl8 : xs3.length = xs.length := by rw [hxs3, List.length_set]; exact HLX7.out
                have HXxs3 := Lib.hid hxs3
                have HLX8 := Lib.hid hl8
                have f0 := (bcell1 hB8 hpB).trans hp0
                have f2 := (bcell1 hB8 hpB).trans hp2
                have e0 := (bcell1 hB8 hrB).trans hr0
                have e1 := (bcell1 hB8 hrB).trans hr1
                have e2 := (bcell1 hB8 hrB).trans hr2
                have g6 := hL8.at_nth (i := U + j) (by have := HLEN.out; omega)
                have HB8 := Lib.hid hB8
                have HL8 := Lib.hid hL8
                clear hw8 hxs3 hB8 hL8 hl8
                by_cases h2 : 0 ≤ nth xs3 (U + j)
                · have HR : Hid (takeF O U x2 r n xs (j + 1) = (xs3, true)) := Lib.hid (by rw [HTK.out]; simp only [takeK, HI.out, if_true, ← HXxs2.out, ← HXxs3.out]; simp [h1, h2])
                  go_wp2
                  go_roundw
                  case rel => exact ⟨j + 1, by omega, by go_num, by rw [HR.out], HB8.out, by rw [HR.out]; exact HL8.out⟩
                  case measure => simp [intOf]; omega
                · have HR : Hid (takeF O U x2 r n xs (j + 1) = (xs3, false)) := Lib.hid (by rw [HTK.out]; simp only [takeK, HI.out, if_true, ← HXxs2.out, ← HXxs3.out]; simp [h1, h2])
                  go_wp2
                  go_roundw
                  case rel => exact ⟨j + 1, by omega, by go_num, by rw [HR.out], HB8.out, by rw [HR.out]; exact HL8.out⟩
                  case measure => simp [intOf]; omega
          · skip
            by_cases hcl : 0 < r.cell
            rotate_left
            · cases hfr : nthB x2 j
              rotate_left
              · have hins : insK x2 r j = false := by simp [insK, hcl, hfr]
                rw [hfr] at g5
                have HR : Hid (takeF O U x2 r n xs (j + 1) = (xs2, false)) := Lib.hid (by rw [HTK.out]; simp only [takeK, hins, Bool.false_eq_true, if_false, ← HXxs2.out]; simp [h1])
                clear hins hfr
                go_wp2
                go_roundw
                case rel => exact ⟨j + 1, by omega, by go_num, by rw [HR.out], HB7.out, by rw [HR.out]; exact HL7.out⟩
                case measure => simp [intOf]; omega
              · have hins : insK x2 r j = true := by simp [insK, hfr]
                rw [hfr] at g5
                have HI := Lib.hid hins
                clear hins hfr
                go_wp2
                go_region
                all_goals
                  clear f0 f2 e0 e1 e2 g2 g3 z3 g4 g5
                  obtain ⟨w8, hw8⟩ : ∃ wz, wz = (w7.setCell ⟨g, U + j, none⟩ (.int .i64 (wrap64 (nth xs2 (U + j) - wrap64 (nth r.inn j * n))))).drew := ⟨_, rfl⟩
                  rw [← hw8]
                  obtain ⟨xs3, hxs3⟩ : ∃ l, l = xs2.set (U + j) (wrap64 (nth xs2 (U + j) - wrap64 (nth r.inn j * n))) := ⟨_, rfl⟩
                  have hB8 : Below B w w8 := by rw [hw8]; exact (HB7.out.setCell HG.out.1 _).drew
                  have hL8 : Bld 2 w8 B (.slice (some ⟨g, 0, none⟩) xs.length cg) (xs3.map (.int .i64)) := by rw [hw8, hxs3]; exact (HL7.out.set_nth (U + j) _).below (Below.refl _ _).drew
                  have hl8 : xs3.length = xs.length := by rw [hxs3, List.length_set]; exact HLX7.out
                  have HXxs3 := Lib.hid hxs3
                  have HLX8 := Lib.hid hl8
                  have f0 := (bcell1 hB8 hpB).trans hp0
                  have f2 := (bcell1 hB8 hpB).trans hp2
                  have e0 := (bcell1 hB8 hrB).trans hr0
                  have e1 := (bcell1 hB8 hrB).trans hr1
                  have e2 := (bcell1 hB8 hrB).trans hr2
                  have g6 := hL8.at_nth (i := U + j) (by have := HLEN.out; omega)
                  have HB8 := Lib.hid hB8
                  have HL8 := Lib.hid hL8
                  clear hw8 hxs3 hB8 hL8 hl8
                  have HR : Hid (takeF O U x2 r n xs (j + 1) = (xs3, false)) := Lib.hid (by rw [HTK.out]; simp only [takeK, HI.out, if_true, ← HXxs2.out, ← HXxs3.out]; simp only [decide_eq_false (show ¬ 0 ≤ nth xs2 (O + j) by omega), Bool.and_false, Bool.false_and])
                  go_wp2
                  go_roundw
                  case rel => exact ⟨j + 1, by omega, by go_num, by rw [HR.out], HB8.out, by rw [HR.out]; exact HL8.out⟩
                  case measure => simp [intOf]; omega
            · have hins : insK x2 r j = true := by simp [insK, hcl]
              have HI := Lib.hid hins
              clear hins
              go_wp2
              go_region
              all_goals
                clear f0 f2 e0 e1 e2 g2 g3 z3 g4 g5
                obtain ⟨w8, hw8⟩ : ∃ wz, wz = (w7.setCell ⟨g, U + j, none⟩ (.int .i64 (wrap64 (nth xs2 (U + j) - wrap64 (nth r.inn j * n))))).drew := ⟨_, rfl⟩
                rw [← hw8]
                obtain ⟨xs3, hxs3⟩ : ∃ l, l = xs2.set (U + j) (wrap64 (nth xs2 (U + j) - wrap64 (nth r.inn j * n))) := ⟨_, rfl⟩
                have hB8 : Below B w w8 := by rw [hw8]; exact (HB7.out.setCell HG.out.1 _).drew
                have hL8 : Bld 2 w8 B (.slice (some ⟨g, 0, none⟩) xs.length cg) (xs3.map (.int .i64)) := by rw [hw8, hxs3]; exact (HL7.out.set_nth (U + j) _).below (Below.refl _ _).drew
                have hl8 : xs3.length = xs.length := by rw [hxs3, List.length_set]; exact HLX7.out
                have HXxs3 := Lib.hid hxs3
                have HLX8 := Lib.hid hl8
                have f0 := (bcell1 hB8 hpB).trans hp0
                have f2 := (bcell1 hB8 hpB).trans hp2
                have e0 := (bcell1 hB8 hrB).trans hr0
                have e1 := (bcell1 hB8 hrB).trans hr1
                have e2 := (bcell1 hB8 hrB).trans hr2
                have g6 := hL8.at_nth (i := U + j) (by have := HLEN.out; omega)
                have HB8 := Lib.hid hB8
                have HL8 := Lib.hid hL8
                clear hw8 hxs3 hB8 hL8 hl8
                have HR : Hid (takeF O U x2 r n xs (j + 1) = (xs3, false)) := Lib.hid (by rw [HTK.out]; simp only [takeK, HI.out, if_true, ← HXxs2.out, ← HXxs3.out]; simp only [decide_eq_false (show ¬ 0 ≤ nth xs2 (O + j) by omega), Bool.and_false, Bool.false_and])
                go_wp2
                go_roundw
                case rel => exact ⟨j + 1, by omega, by go_num, by rw [HR.out], HB8.out, by rw [HR.out]; exact HL8.out⟩
                case measure => simp [intOf]; omega
    · have e : j = K := by omega
      subst e
      have HBr := Lib.hid hb
      have HLr := Lib.hid hbl
      clear hb hbl i1
      go_wp2
      go_ret
      exact ⟨⟨rfl, HLr.out⟩, HBr.out⟩
