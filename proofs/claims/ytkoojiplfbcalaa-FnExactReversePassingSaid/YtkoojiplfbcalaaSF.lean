/- Whether counts fit: the program's functions. -/
import Derived.Test.YtkoojiplfbcalaaIP
namespace Go.Proofs.Ytkoojiplfbcalaa
open Go.RowKit

theorem SlI.other {w : World} {a : Option Addr} {xs : List Int} {g : Nat} (h : SlI Any w a xs) (hg : w.heap.size ≤ g) : SlI (· ≠ g) w a xs :=
  ⟨h.len, fun h0 => ⟨by have := World.block_lt_of_cell? w _ (h.cell 0 h0); simp only [adr] at this; omega, (h.ptr h0).2⟩, h.cell⟩
theorem SlI.agree {S : Nat → Prop} {w w' : World} {a : Option Addr} {xs : List Int} (h : SlI S w a xs) (ha : Agree S w w') : SlI S w' a xs := by
  obtain ⟨a', c', e, h'⟩ := Rd_I.1 (Rd.stable ha _ _ (Rd_I.2 ⟨a, 0, rfl, h⟩))
  cases e; exact h'
theorem SlI.set_other {w : World} {a : Option Addr} {xs : List Int} {g i : Nat} {u : Value} (h : SlI (· ≠ g) w a xs) : SlI (· ≠ g) (w.setCell ⟨g, i, none⟩ u) a xs :=
  h.agree (fun k hk => (Exc.setCell w ⟨g, i, none⟩ u).block k (by simp; exact hk))
/-- The bags are listed at g; the rows lie elsewhere. -/
structure Bgs (B : Nat) (wr : World) (g n c : Nat) (bags : List (List Int)) : Prop where
  len : bags.length = n
  row : ∃ vs : List Value, Bld 22 wr B (.slice (some ⟨g, 0, none⟩) n c) vs ∧ vs.length = n ∧ ∀ i, i < n → ∃ a cp, vs[i]? = some (.slice a (nthR bags i).length cp) ∧ SlI (· ≠ g) wr a (nthR bags i)
theorem Bgs.base {B : Nat} {wr : World} {g n c : Nat} {bags : List (List Int)} (h : Bgs B wr g n c bags) : B ≤ g ∧ g < wr.heap.size := by
  obtain ⟨vs, h1, _, _⟩ := h.row
  exact h1.base
theorem Bgs.cell {B : Nat} {wr : World} {g n c : Nat} {bags : List (List Int)} (h : Bgs B wr g n c bags) {i : Nat} (hi : i < n) : ∃ a cp, wr.cell? ⟨g, i, none⟩ = some (.slice a (nthR bags i).length cp) ∧ SlI (· ≠ g) wr a (nthR bags i) := by
  obtain ⟨vs, h1, _, h3⟩ := h.row
  obtain ⟨a, cp, h4, h5⟩ := h3 i hi
  exact ⟨a, cp, h1.cell h4, h5⟩
theorem Bgs.free {B : Nat} {wr : World} {g n c : Nat} {bags : List (List Int)} (h : Bgs B wr g n c bags) (i : Nat) : wr.frozen? ⟨g, i, none⟩ = false := by
  obtain ⟨vs, h1, _, _⟩ := h.row
  exact h1.free i
theorem Bgs.later {B : Nat} {wr w' : World} {g n c : Nat} {bags : List (List Int)} (h : Bgs B wr g n c bags) (hb : Below wr.heap.size wr w') : Bgs B w' g n c bags := by
  obtain ⟨vs, h1, h2, h3⟩ := h.row
  refine ⟨h.len, vs, h1.below hb, h2, fun i hi => ?_⟩
  obtain ⟨a, cp, h4, h5⟩ := h3 i hi
  exact ⟨a, cp, h4, h5.below hb⟩
theorem Bgs.set {B : Nat} {wr : World} {g n c : Nat} {bags : List (List Int)} (h : Bgs B wr g n c bags) {i : Nat} (hi : i < n) {a : Option Addr} {cp : Nat} {ys : List Int} (hy : SlI (· ≠ g) wr a ys) :
    Bgs B (wr.setCell ⟨g, i, none⟩ (.slice a ys.length cp)) g n c (bags.set i ys) := by
  obtain ⟨vs, h1, h2, h3⟩ := h.row
  have hl := h.len
  refine ⟨by simpa using hl, vs.set i (.slice a ys.length cp), h1.set i _, by simpa using h2, fun j hj => ?_⟩
  rw [nthR_set (by omega)]
  by_cases e : j = i
  · subst e
    rw [if_pos rfl]
    exact ⟨a, cp, by simp [h2, hj], hy.set_other⟩
  · rw [if_neg e]
    obtain ⟨a', cp', h4, h5⟩ := h3 j hj
    exact ⟨a', cp', by rw [List.getElem?_set_ne (by omega)]; exact h4, h5.set_other⟩
theorem Bgs.slII {B : Nat} {wr : World} {g n c : Nat} {bags : List (List Int)} (h : Bgs B wr g n c bags) (hn : n ≤ maxLen) : SlII Any wr (some ⟨g, 0, none⟩) bags := by
  have hl := h.len
  refine ⟨by omega, fun _ => ⟨trivial, g, 0, rfl⟩, fun i hi => ?_⟩
  obtain ⟨a, cp, h4, h5⟩ := h.cell (i := i) (by omega)
  exact ⟨a, cp, by simpa [adr, blk, ofs] using h4, h5.any⟩
/-- 'append(v, xs...)' of values. -/
theorem app_vals {P : Program} {ops : Array Oper} {rest : List Oper} {o : Oper} {ac : Act} {Q : Exit → Act → World → Prop} {w : World} (hgd : o.guard = none) (s x : Operand) (T : TypeId)
    (ho : o.op = .call { callee := .builtin .append, args := #[s, x], argTypes := #[T, T] }) {E bytes : Nat} {z : Value} (tab : Tab P T E z 1 bytes) (hzs : z.cells.size = 1) (hby : bytes ≤ 1024)
    (B : Nat) (v : Value) (vs : List Value) (hs : ac.eval s = v) (hown : Bld E w B v vs) (ad : Addr) (n c : Nat) (ys : List Value) (hx : ac.eval x = .slice (some ad) n c) (hn : ys.length = n) (hc : ∀ j u, ys[j]? = some u → w.cell? (ad.add j) = some u) (h1 : ∀ u ∈ ys, u.oneCell' = true) (hlen : vs.length + n < 4294967296) (hB : B ≤ w.heap.size)
    (K : ∀ v' w', Bld E w' B v' (vs ++ ys) → Below B w w' → wpList P ops Q rest (ac.put o.dst v') w') : wpList P ops Q (o :: rest) ac w := by
  obtain ⟨i0, hi, hz0, hz1, hz2⟩ := info_parts tab.info
  have hlt := hown.lt
  refine wpList_append_own w hgd s x T ho B E i0 z 1 bytes tab.under hi hz0 hz1 hz2 hzs (by decide) v vs.length vs hs hown ad n c ys hx (by rw [hn]; simp) hc h1 (by unfold maxLen; omega) (by
    have : (vs.length + n) * bytes ≤ 4294967296 * 1024 := Nat.mul_le_mul (by omega) hby
    omega) hB ?_
  intro v' w' h2 h3 _
  refine K v' w' (by simpa [Bld, hn] using h2) ?_
  exact (Below.refl B w).grown h3 hB fun k hk => (hlt k hk).1
set_option maxHeartbeats 400000 in
set_option maxRecDepth 100000 in
theorem cloneII_c (ad : Addr) (n c : Nat) (vs : List Value) (w : World) (hn : vs.length = n) (hc : ∀ j u, vs[j]? = some u → w.cell? (ad.add j) = some u) (h1 : ∀ u ∈ vs, u.oneCell' = true) (l1 : n < 4294967296) :
    Calls Try.prog 182 #[.slice (some ad) n c] w (fun e w' => ∃ v, e = .returned v ∧ Below w.heap.size w w' ∧ Bld 22 w' w.heap.size v vs) := by
  have hbl := Bld.empty 22 w w.heap.size (Nat.le_refl _)
  have hb0 := below_alloc w (.cells #[] 22)
  have hc' : ∀ j u, vs[j]? = some u → (w.alloc (.cells #[] 22)).cell? (ad.add j) = some u := fun j u hu => (hb0.cell (World.block_lt_of_cell? w _ (hc j u hu))).trans (hc j u hu)
  have heq := fun (w : World) => run_eql_some_nil (P := Try.prog) w ad n c tabII.under
  clear hc
  go_enter Try.func182, Try.ntmps182
  go_wp2_with (at_builtin; refine app_vals rfl _ _ 27 rfl tabII rfl (by decide) w.heap.size _ [] rfl hbl ad n c vs rfl hn hc' h1 (by simpa using l1) (by simp) ?_)
  intro v' w1 hbl1 hb1
  replace hbl1 : Bld 22 w1 w.heap.size v' vs := hbl1
  go_wp2
  go_ret
  exact ⟨v', rfl, (below_alloc _ _).trans hb1, hbl1⟩
set_option maxHeartbeats 400000 in
set_option maxRecDepth 100000 in
theorem cloneB_c (S : Nat → Prop) (ad : Addr) (c : Nat) (xs : List Int) (w : World) (hx : SlI S w (some ad) xs) (l1 : xs.length < 4294967296) :
    Calls Try.prog 107 #[.slice (some ad) xs.length c] w (RetB 2 w xs) := by
  have hbl := Bld.empty 2 w w.heap.size (Nat.le_refl _)
  have hx' := hx.below (below_alloc w (.cells #[] 2))
  have heq := fun (w : World) => run_eql_some_nil (P := Try.prog) w ad xs.length c tabI.under
  go_enter Try.func107, Try.ntmps107
  go_wp2_with (at_builtin; refine app_many rfl _ _ 22 rfl tabI rfl (by decide) w.heap.size _ [] rfl hbl S (some ad) c xs rfl hx' ⟨ad, rfl⟩ (by simpa using l1) (by simp) ?_)
  intro v' w1 hbl1 hb1
  replace hbl1 : Bld 2 w1 w.heap.size v' (xs.map (.int .i64)) := hbl1
  go_wp2
  go_ret
  exact ⟨v', rfl, (below_alloc _ _).trans hb1, hbl1⟩
/-- The first k objects without those that are free. -/
def bndS (free : List Bool) (xs : List Int) (k : Nat) : List Int := mixS (boundS free xs) xs k
theorem bndS_len (free : List Bool) (xs : List Int) (k : Nat) : (bndS free xs k).length = xs.length := mix_len _ _ _
theorem bndS_yes {free : List Bool} {xs : List Int} {k : Nat} (hk : k < xs.length) (h : nthB free k = true) : (bndS free xs k).set k 0 = bndS free xs (k + 1) := by
  have := mix_set (new := boundS free xs) (old := xs) hk
  rw [boundS_at hk, if_pos h] at this
  exact this
theorem bndS_no {free : List Bool} {xs : List Int} {k : Nat} (hk : k < xs.length) (h : nthB free k = false) : bndS free xs k = bndS free xs (k + 1) := nth_ext (by rw [bndS_len, bndS_len]) fun j hj => by
  rw [bndS_len] at hj
  unfold bndS
  rw [mix_at hj, mix_at hj]
  by_cases e : j = k
  · subst e; rw [if_neg (by omega), if_pos (by omega), boundS_at hk, h]; simp
  · by_cases e2 : j < k
    · rw [if_pos e2, if_pos (by omega)]
    · rw [if_neg e2, if_neg (by omega)]
set_option maxHeartbeats 1000000 in
theorem bound_c (x0 : Int) (v1 v3 : Value) (af ab : Option Addr) (cf cb : Nat) (free : List Bool) (xs : List Int) (w : World) (hf : SlB Any w af free) (hx : SlI Any w ab xs) (hl : free.length = xs.length) (h0 : 0 < xs.length) (h8 : xs.length ≤ 8) :
    Calls Try.prog 185 #[.agg #[.int .i64 x0, v1, .slice af free.length cf, v3], .slice ab xs.length cb] w (RetD w (dI (boundS free xs))) := by
  obtain ⟨ad, rfl⟩ := hx.addr h0
  have hb0 := below_alloc w (.cells #[.int .i64 x0, v1, .slice af free.length cf, v3] 36)
  have HC := Lib.hid (cloneB_c Any ad cb xs _ (hx.below hb0) (by omega))
  have l2 := hf.len
  unfold maxLen at l2
  have i2 := hf.ix tabB.under tabB.size cf
  have HF := Lib.hid hf
  have HB0 := Lib.hid hb0
  have HL := Lib.hid hl
  have hfl : free.length ≤ 8 := by omega
  clear hx hf hb0 hl
  go_enter Try.func185, Try.ntmps185
  go_wp2_with fail
  refine HC.out.mono ?_
  rintro e w1 ⟨v, rfl, hb1, hl1⟩
  obtain ⟨g, cg, rfl⟩ : ∃ g c, v = .slice (some ⟨g, 0, none⟩) xs.length c := by
    have := hl1.ptr (by simp; omega)
    simpa using this
  have hg := hl1.base
  have hgw : w.heap.size ≤ g := by have := hg.1; simp at this; omega
  have f2 : w1.cell? ⟨w.heap.size, 2, none⟩ = some (.slice af free.length cf) := by rw [bcell1 hb1 (by simp)]; simp [go_sem]
  have HB1 := Lib.hid (HB0.out.trans (hb1.mono (by simp <;> omega)))
  have HL1 : Hid (Bld 2 w1 (w.heap.size + 1) (.slice (some ⟨g, 0, none⟩) xs.length cg) ((bndS free xs 0).map (.int .i64))) := Lib.hid (by
    rw [bndS, mix_zero]
    simpa using hl1)
  have hg1 : w.heap.size + 1 ≤ g := by have := hg.1; simpa using this
  clear hb1 hl1 hg
  go_wp2
  go_loopw [6, 7, 13] (fun _ _ i wr => ∃ k : Nat, k ≤ free.length ∧ i = .int .i64 k ∧ Below w.heap.size w wr ∧ Bld 2 wr (w.heap.size + 1) (.slice (some ⟨g, 0, none⟩) xs.length cg) ((bndS free xs k).map (.int .i64))) (fun _ _ i _ => free.length - (intOf i).toNat)
  case atStart => exact ⟨0, Nat.zero_le _, rfl, HB1.out, HL1.out⟩
  case round =>
    obtain ⟨k, hk, rfl, hb, hbl⟩ := hrel
    by_cases hlt : k < free.length
    · have hkx : k < xs.length := by have := HL.out; omega
      have hkx2 : (k : Int) < xs.length := by omega
      have g1 := (HF.out.below hb).cell k hlt
      have g2 := hbl.at_nth (i := k) (by rw [bndS_len]; exact hkx)
      have z2 := hbl.free k
      have i3 := ix_of (P := Try.prog) tabI.under tabI.size (a := some ⟨g, 0, none⟩) (n := xs.length) (fun _ => ⟨g, 0, rfl⟩) cg
      simp only [Nat.mul_one, adr, blk, ofs, Nat.zero_add] at i3
      have HB := Lib.hid hb
      have HBL := Lib.hid hbl
      clear hb hbl
      cases hf : nthB free k
      · rw [hf] at g1
        have HE := Lib.hid (bndS_no hkx hf)
        clear hf
        go_wp2
        go_roundw
        case rel => exact ⟨k + 1, by omega, by go_num, HB.out, by rw [← HE.out]; exact HBL.out⟩
        case measure => simp [intOf]; omega
      · rw [hf] at g1
        have HE := Lib.hid (bndS_yes hkx hf)
        clear hf
        go_wp2
        go_roundw
        case rel => exact ⟨k + 1, by omega, by go_num, HB.out.setCell hgw _, by rw [← HE.out]; exact HBL.out.set_nth k 0⟩
        case measure => simp [intOf]; omega
    · have e : k = xs.length := by have := HL.out; omega
      have hfin : bndS free xs xs.length = boundS free xs := by unfold bndS; exact mix_full (boundS_len _ _)
      rw [e, hfin] at hbl
      have hbl' : Bld 2 _ w.heap.size (.slice (some ⟨g, 0, none⟩) xs.length cg) ((boundS free xs).map (.int .i64)) := hbl.lower (by omega)
      have HR := Lib.hid (RetD.ofBld hbl' (by rw [boundS_len]; unfold maxLen; omega) hb)
      clear hb hbl hbl' hfin
      go_wp2
      go_ret
      exact HR.out
/-- The least of the first k + 1. -/
def minTo (xs : List Int) : Nat → Int
  | 0 => nth xs 0
  | k + 1 => if nth xs (k + 1) < minTo xs k then nth xs (k + 1) else minTo xs k
theorem minTo_neg (xs : List Int) : ∀ k, minTo xs k < 0 ↔ ∃ j, j ≤ k ∧ nth xs j < 0
  | 0 => ⟨fun h => ⟨0, Nat.le_refl _, h⟩, fun ⟨j, hj, h⟩ => by rw [show j = 0 by omega] at h; exact h⟩
  | k + 1 => by
    have ih := minTo_neg xs k
    rw [minTo]
    constructor
    · intro h
      by_cases h2 : minTo xs k < 0
      · obtain ⟨j, hj, hn⟩ := ih.1 h2
        exact ⟨j, by omega, hn⟩
      · refine ⟨k + 1, Nat.le_refl _, ?_⟩
        split at h <;> omega
    · rintro ⟨j, hj, hn⟩
      by_cases e : j = k + 1
      · subst e; split <;> omega
      · have := ih.2 ⟨j, by omega, hn⟩; split <;> omega
theorem min_geB {xs : List Int} (h : 0 < xs.length) : decide (minTo xs (xs.length - 1) < 0) = !geB xs := by
  rw [Bool.eq_iff_iff]
  simp only [decide_eq_true_eq, Bool.not_eq_true', minTo_neg]
  constructor
  · rintro ⟨j, hj, hn⟩
    exact allB_false (k := j) (by omega) (by simpa using hn)
  · intro hf
    by_cases hh : ∃ j, j ≤ xs.length - 1 ∧ nth xs j < 0
    · exact hh
    · have : geB xs = true := allB_true fun j hj => by
        have : ¬ nth xs j < 0 := fun hn => hh ⟨j, by omega, hn⟩
        simpa using this
      rw [this] at hf; cases hf
set_option maxHeartbeats 400000 in
theorem minI_c (a : Option Addr) (c : Nat) (xs : List Int) (w : World) (hx : SlI Any w a xs) (h0 : 0 < xs.length) :
    Calls Try.prog 143 #[.slice a xs.length c] w (RetP w (.int .i64 (minTo xs (xs.length - 1)))) := by
  have l1 := hx.len
  unfold maxLen at l1
  have i1 := hx.ix tabI.under tabI.size c
  have g0 := hx.cell 0 h0
  have h00 : (0 : Int) < xs.length := by omega
  have i0 := fun w' => i1 0 w' (by omega) h00
  rw [Int.toNat_zero] at i0
  go_enter Try.func143, Try.ntmps143
  go_wp2
  go_loopw [3, 4] (fun m i wr => ∃ k : Nat, k + 1 ≤ xs.length ∧ i = .int .i64 ((k : Int) + 1) ∧ m = .int .i64 (minTo xs k) ∧ w = wr) (fun _ i _ => xs.length - (intOf i).toNat)
  case atStart => exact ⟨0, by omega, rfl, rfl, rfl⟩
  case round =>
    obtain ⟨k, hk, rfl, rfl, rfl⟩ := hrel
    by_cases hlt : k + 1 < xs.length
    · have g1 := hx.cell (k + 1) hlt
      have hlt' : (k : Int) + 1 < xs.length := by omega
      have i2 := fun w' => i1 ((k : Int) + 1) w' (by omega) hlt'
      rw [show ((k : Int) + 1).toNat = k + 1 from by omega] at i2
      go_wp2
      go_roundw
      case rel => exact ⟨k + 1, by omega, by go_num, (by first | rfl | (rw [minTo])), trivial⟩
      case measure => simp [intOf]; omega
    · have e : k = xs.length - 1 := by omega
      have hlt' : ¬ (k : Int) + 1 < xs.length := by omega
      have HE := Lib.hid (show minTo xs k = minTo xs (xs.length - 1) by rw [e])
      clear e
      go_wp2
      go_ret
      exact ⟨ret_int HE.out, rfl⟩
theorem fits1_c (a : Option Addr) (c : Nat) (xs : List Int) (w : World) (hx : SlI Any w a xs) (h0 : 0 < xs.length) :
    Calls Try.prog 142 #[.slice a xs.length c] w (RetP w (.bool (!geB xs))) := by
  have HM := Lib.hid (minI_c a c xs w hx h0)
  have HG := Lib.hid (min_geB h0)
  go_enter Try.func142, Try.ntmps142
  go_wp2_with fail
  refine HM.out.mono ?_
  rintro e w' ⟨rfl, rfl⟩
  go_wp2
  go_ret
  exact ⟨ret_bool HG.out, rfl⟩
end Go.Proofs.Ytkoojiplfbcalaa
