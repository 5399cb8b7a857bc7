/- Contracts of the functions that compare and copy programs. -/
import Derived.Test.YtkeoidapcajlbaaR
namespace Go.Proofs.Ytkeoidapcajlbaa
open Go.RowKit

set_option maxHeartbeats 1000000 in
theorem slicesEqualO_c (S : Nat → Prop) (a b : Option Addr) (c c' : Nat) (xs ys : List Ord) (w : World) (hx : SlO S w a xs) (hy : SlO S w b ys) :
    Calls Try.prog 68 #[.slice a xs.length c, .slice b ys.length c'] w (RetQ w (.bool (eqOS xs ys))) := by
  have l1 := hx.len
  have l2 := hy.len
  unfold maxLen at l1 l2
  cases hl : ((xs.length : Int) != ys.length)
  · have hq : xs.length = ys.length := by simp at hl; omega
    have HQ := Lib.hid hq
    clear hq
    have i1 := ixO hx c
    have i2 := ixO hy c'
    go_enter Try.func68, Try.ntmps68
    go_wp2
    go_loopw [5, 13] (fun _ i wr => ∃ k n : Nat, k ≤ xs.length ∧ i = .int .i64 k ∧ wr = w.drewN n ∧ (∀ j, j < k → ordB (nthO xs j) (nthO ys j) = true)) (fun _ i _ => xs.length - (intOf i).toNat)
    case atStart => exact ⟨0, 0, Nat.zero_le _, rfl, rfl, by omega⟩
    case round =>
        obtain ⟨k, n, hk, rfl, rfl, hj⟩ := hrel
        have HJ := Lib.hid hj
        clear hj
        by_cases hlt : k < xs.length
        · have hlt2 : k < ys.length := by have := HQ.out; omega
          have k2 : (k : Int) < ys.length := by omega
          have g0 := hx.c0 k hlt
          have g1 := hx.c1 k hlt
          have g2 := hx.c2 k hlt
          have g3 := hx.c3 k hlt
          have f0 := hy.c0 k hlt2
          have f1 := hy.c1 k hlt2
          have f2 := hy.c2 k hlt2
          have f3 := hy.c3 k hlt2
          cases hp : ordB (nthO xs k) (nthO ys k)
          · have HP := Lib.hid hp
            have hd : (¬ (nthO xs k).op = (nthO ys k).op) ∨ ((nthO xs k).op = (nthO ys k).op ∧ ¬ (nthO xs k).reg = (nthO ys k).reg) ∨ ((nthO xs k).op = (nthO ys k).op ∧ (nthO xs k).reg = (nthO ys k).reg ∧ ¬ (nthO xs k).to = (nthO ys k).to) ∨ ((nthO xs k).op = (nthO ys k).op ∧ (nthO xs k).reg = (nthO ys k).reg ∧ (nthO xs k).to = (nthO ys k).to ∧ ¬ (nthO xs k).els = (nthO ys k).els) := by
              by_cases a0 : (nthO xs k).op = (nthO ys k).op <;> by_cases a1 : (nthO xs k).reg = (nthO ys k).reg <;> by_cases a2 : (nthO xs k).to = (nthO ys k).to <;> by_cases a3 : (nthO xs k).els = (nthO ys k).els <;> simp_all [ordB]
            clear hp
            rcases hd with a0 | ⟨a0, a1⟩ | ⟨a0, a1, a2⟩ | ⟨a0, a1, a2, a3⟩
            all_goals
              go_wp2
              go_quiet (fail)
              go_wp2
              go_ret
              exact ⟨ret_bool (eqOS_false hlt HP.out).symm, _, by rw [World.drewN_drewN]⟩
          · have HP := Lib.hid hp
            have hd : (nthO xs k).op = (nthO ys k).op ∧ (nthO xs k).reg = (nthO ys k).reg ∧ (nthO xs k).to = (nthO ys k).to ∧ (nthO xs k).els = (nthO ys k).els := by simpa [ordB, and_assoc] using hp
            obtain ⟨a0, a1, a2, a3⟩ := hd
            clear hp
            rw [a0] at g0
            rw [a1] at g1
            rw [a2] at g2
            rw [a3] at g3
            clear a0 a1 a2 a3
            go_wp2
            go_quiet (fail)
            go_wp2
            go_roundw
            case rel => exact ⟨k + 1, _, by omega, by go_num, rfl, upto HJ.out HP.out⟩
            case measure => simp [intOf]; omega
        · go_wp2
          go_ret
          have e : k = xs.length := by omega
          exact ⟨ret_bool (eqOS_true HQ.out (e ▸ HJ.out)).symm, n, rfl⟩
  · have hq : ¬ xs.length = ys.length := by simp at hl; omega
    have HQ := Lib.hid hq
    clear hq
    go_enter Try.func68, Try.ntmps68
    go_wp2
    go_ret
    exact ⟨ret_bool (eqOS_len HQ.out).symm, 0, rfl⟩
theorem implSameProgram_c (R Q : Int) (S : Nat → Prop) (a b : Option Addr) (c c' : Nat) (xs ys : List Ord) (w : World) (hx : SlO S w a xs) (hy : SlO S w b ys) :
    Calls Try.prog 28 #[.agg #[.int .i64 R, .slice a xs.length c], .agg #[.int .i64 Q, .slice b ys.length c']] w (RetV w (.bool (samePS R xs Q ys))) := by
  have hb : Below w.heap.size w ((w.alloc (.cells #[.int .i64 R, .slice a xs.length c] 40)).alloc (.cells #[.int .i64 Q, .slice b ys.length c'] 40)) := ((Below.refl _ _).alloc (Nat.le_refl _) _).alloc (by simp) _
  have HC := Lib.hid (slicesEqualO_c S a b c c' xs ys _ (hx.below hb) (hy.below hb))
  have HB := Lib.hid hb
  clear hb
  cases h : (R == Q)
  · have e : samePS R xs Q ys = false := by simp [samePS, h]
    rw [e]; clear e
    go_enter Try.func28, Try.ntmps28
    go_wp2
    go_ret
    exact ⟨rfl, HB.out⟩
  · have e : samePS R xs Q ys = eqOS xs ys := by simp [samePS, h]
    rw [e]; clear e
    go_enter Try.func28, Try.ntmps28
    go_wp2_with fail
    refine HC.out.mono ?_
    rintro e w' ⟨rfl, n, rfl⟩
    go_wp2
    go_ret
    exact ⟨rfl, HB.out.trans (below_drewN _ _ _)⟩
set_option maxHeartbeats 1000000 in
theorem specSameProgram_c (R Q : Int) (S : Nat → Prop) (a b : Option Addr) (c c' : Nat) (xs ys : List Ord) (w : World) (hx0 : SlO S w a xs) (hy0 : SlO S w b ys) :
    Calls Try.prog 26 #[.agg #[.int .i64 R, .slice a xs.length c], .agg #[.int .i64 Q, .slice b ys.length c']] w (RetV w (.bool (samePS R xs Q ys))) := by
  have hb : Below w.heap.size w ((w.alloc (.cells #[.int .i64 R, .slice a xs.length c] 40)).alloc (.cells #[.int .i64 Q, .slice b ys.length c'] 40)) := ((Below.refl _ _).alloc (Nat.le_refl _) _).alloc (by simp) _
  have hx := hx0.below hb
  have hy := hy0.below hb
  have HB := Lib.hid hb
  have l1 := hx.len
  have l2 := hy.len
  unfold maxLen at l1 l2
  clear hb hx0 hy0
  cases h : (R != Q)
  · have hRQ : (R == Q) = true := by simpa using h
    have e : samePS R xs Q ys = eqOS xs ys := by simp [samePS, hRQ]
    rw [e]; clear e hRQ
    cases hl : ((xs.length : Int) != ys.length)
    · have hq : xs.length = ys.length := by simp at hl; omega
      have HQ := Lib.hid hq
      clear hq
      have i1 := ixO hx c
      have i2 := ixO hy c'
      go_enter Try.func26, Try.ntmps26
      go_wp2
      go_loopw [5] (fun i wr => ∃ k n : Nat, k ≤ xs.length ∧ i = .int .i64 k ∧ wr = ((w.alloc (.cells #[.int .i64 R, .slice a xs.length c] 40)).alloc (.cells #[.int .i64 Q, .slice b ys.length c'] 40)).drewN n ∧ (∀ j, j < k → ordB (nthO xs j) (nthO ys j) = true)) (fun i _ => xs.length - (intOf i).toNat)
      case atStart => exact ⟨0, 0, Nat.zero_le _, rfl, rfl, by omega⟩
      case round =>
        obtain ⟨k, n, hk, rfl, rfl, hj⟩ := hrel
        have HJ := Lib.hid hj
        clear hj
        by_cases hlt : k < xs.length
        · have hlt2 : k < ys.length := by have := HQ.out; omega
          have k2 : (k : Int) < ys.length := by omega
          have g0 := hx.c0 k hlt
          have g1 := hx.c1 k hlt
          have g2 := hx.c2 k hlt
          have g3 := hx.c3 k hlt
          have f0 := hy.c0 k hlt2
          have f1 := hy.c1 k hlt2
          have f2 := hy.c2 k hlt2
          have f3 := hy.c3 k hlt2
          cases hp : ordB (nthO xs k) (nthO ys k)
          · have HP := Lib.hid hp
            have hd : (¬ (nthO xs k).op = (nthO ys k).op) ∨ ((nthO xs k).op = (nthO ys k).op ∧ ¬ (nthO xs k).reg = (nthO ys k).reg) ∨ ((nthO xs k).op = (nthO ys k).op ∧ (nthO xs k).reg = (nthO ys k).reg ∧ ¬ (nthO xs k).to = (nthO ys k).to) ∨ ((nthO xs k).op = (nthO ys k).op ∧ (nthO xs k).reg = (nthO ys k).reg ∧ (nthO xs k).to = (nthO ys k).to ∧ ¬ (nthO xs k).els = (nthO ys k).els) := by
              by_cases a0 : (nthO xs k).op = (nthO ys k).op <;> by_cases a1 : (nthO xs k).reg = (nthO ys k).reg <;> by_cases a2 : (nthO xs k).to = (nthO ys k).to <;> by_cases a3 : (nthO xs k).els = (nthO ys k).els <;> simp_all [ordB]
            clear hp
            rcases hd with a0 | ⟨a0, a1⟩ | ⟨a0, a1, a2⟩ | ⟨a0, a1, a2, a3⟩
            all_goals
              go_wp2
              go_quiet (fail)
              go_wp2
              go_ret
              exact ⟨ret_bool (eqOS_false hlt HP.out).symm, HB.out.trans ((below_drewN _ _ _).trans (below_drewN _ _ _))⟩
          · have HP := Lib.hid hp
            have hd : (nthO xs k).op = (nthO ys k).op ∧ (nthO xs k).reg = (nthO ys k).reg ∧ (nthO xs k).to = (nthO ys k).to ∧ (nthO xs k).els = (nthO ys k).els := by simpa [ordB, and_assoc] using hp
            obtain ⟨a0, a1, a2, a3⟩ := hd
            clear hp
            rw [a0] at g0
            rw [a1] at g1
            rw [a2] at g2
            rw [a3] at g3
            clear a0 a1 a2 a3
            go_wp2
            go_quiet (fail)
            go_wp2
            go_roundw
            case rel => exact ⟨k + 1, _, by omega, by go_num, rfl, upto HJ.out HP.out⟩
            case measure => simp [intOf]; omega
        · go_wp2
          go_ret
          have e : k = xs.length := by omega
          exact ⟨ret_bool (eqOS_true HQ.out (e ▸ HJ.out)).symm, HB.out.trans (below_drewN _ _ _)⟩
    · have hq : ¬ xs.length = ys.length := by simp at hl; omega
      have HQ := Lib.hid hq
      clear hq
      go_enter Try.func26, Try.ntmps26
      go_wp2
      go_ret
      exact ⟨ret_bool (eqOS_len HQ.out).symm, HB.out⟩
  · have hRQ : (R == Q) = false := by simpa using h
    have e : samePS R xs Q ys = false := by simp [samePS, hRQ]
    rw [e]; clear e hRQ
    go_enter Try.func26, Try.ntmps26
    go_wp2
    go_ret
    exact ⟨rfl, HB.out⟩
theorem toOrder_c (o : Ord) (w : World) : Calls Try.prog 106 #[Ord.val o] w (RetV w (Ord.val o)) := by
  unfold Ord.val
  obtain ⟨op, reg, to, els⟩ := o
  go_enter Try.func106, Try.ntmps106
  go_wp2
  refine bodyPost_end (v := .agg #[.int .i64 op, .int .i64 reg, .int .i64 to, .int .i64 els]) (by simp [results, Try.results106, go_sem]) rfl ⟨rfl, ?_⟩
  exact (((Below.refl _ _).alloc (Nat.le_refl _) _).alloc (by simp) _).alloc (by simp; omega) _
theorem eqOrder_c (o : Ord) (w : World) : Calls Try.prog 107 #[Ord.val o, Ord.val o] w (RetV w (.bool true)) := by
  unfold Ord.val
  obtain ⟨op, reg, to, els⟩ := o
  go_enter Try.func107, Try.ntmps107
  go_wp2
  go_ret
  exact ⟨rfl, ((Below.refl _ _).alloc (Nat.le_refl _) _).alloc (by simp) _⟩
theorem szOrderS_c (a : Option Addr) (n c : Nat) (left : Int) (w : World) (hn : n ≤ maxLen) (h0 : 0 ≤ left) (h1 : left ≤ 1048576) :
    Calls Try.prog 66 #[.slice a n c, .int .i64 left] w (RetP w (.int .i64 (if left < n then -1 else left - n))) := by
  unfold maxLen at hn
  by_cases h : left < n
  · rw [if_pos h]
    go_enter Try.func66, Try.ntmps66
    go_wp2
    go_ret
    exact ⟨rfl, rfl⟩
  · rw [if_neg h]
    go_enter Try.func66, Try.ntmps66
    go_wp2
    go_ret
    exact ⟨rfl, rfl⟩
theorem szProgram_c (R : Int) (a : Option Addr) (n c : Nat) (left : Int) (w : World) (hn : n ≤ maxLen) (h0 : 0 ≤ left) (h1 : left ≤ 1048576) :
    Calls Try.prog 25 #[.agg #[.int .i64 R, .slice a n c], .int .i64 left] w (RetV w (.int .i64 (if left < n then -1 else left - n))) := by
  have HN := Lib.hid hn
  clear hn
  by_cases h : left < n
  · have HC := Lib.hid (szOrderS_c a n c left (w.alloc (.cells #[.int .i64 R, .slice a n c] 35)) HN.out h0 h1)
    rw [if_pos h] at HC ⊢
    go_enter Try.func25, Try.ntmps25
    go_wp2_with fail
    refine HC.out.mono ?_
    rintro e w' ⟨rfl, rfl⟩
    go_wp2
    go_ret
    exact ⟨rfl, below_alloc _ _⟩
  · have HC := Lib.hid (szOrderS_c a n c left (w.alloc (.cells #[.int .i64 R, .slice a n c] 35)) HN.out h0 h1)
    rw [if_neg h] at HC ⊢
    go_enter Try.func25, Try.ntmps25
    go_wp2_with fail
    refine HC.out.mono ?_
    rintro e w' ⟨rfl, rfl⟩
    go_wp2
    go_ret
    exact ⟨rfl, below_alloc _ _⟩
theorem tabOL : Tab Try.prog 33 96 (.agg #[.int .i64 0, .int .i64 0, .int .i64 0, .int .i64 0]) 4 32 := ⟨by kernel_rfl, by kernel_rfl⟩
theorem fil_start {w w' : World} {E : TypeId} {os : List Ord} {cs : List Value} (h : w'.ownsRow w.heap.size E 4 (.slice (some ⟨w.heap.size, 0, none⟩) os.length os.length) os.length cs) (hg : w.grownBy w' none) : FilO w w' w.heap.size os 0 := by
  have hb : Below w.heap.size w w' := ⟨hg.os, hg.tape, hg.output, hg.size, fun k hk => hg.block k hk (by simp)⟩
  refine ⟨hb, Nat.le_refl _, fun i hi => ?_, fun i => ?_, fun i hi => absurd hi (by omega), fun i hi => absurd hi (by omega), fun i hi => absurd hi (by omega), fun i hi => absurd hi (by omega)⟩
  · have hl := h.1
    have := World.ownsRow.cells (g := w.heap.size) h rfl i cs[i] (by simp [hl, hi])
    rw [Addr.add_lit, Nat.zero_add] at this
    rw [this]; rfl
  · rcases h.2 with ⟨h1, _⟩ | ⟨g', cap, cur, h1, _, hg', _⟩
    · cases h1
    · cases h1; simp [World.frozen?, hg']
theorem FilO.carry {w wr w' : World} {g : Nat} {os : List Ord} {k : Nat} (h : FilO w wr g os k) (hg : g < wr.heap.size) (hb : Below wr.heap.size wr w') : FilO w w' g os k := by
  have e : ∀ i, w'.cell? ⟨g, i, none⟩ = wr.cell? ⟨g, i, none⟩ := fun i => hb.cell (p := ⟨g, i, none⟩) hg
  exact ⟨bnext h.below hb (Nat.le_refl _), h.base, fun i hi => by rw [e]; exact h.hass i hi, fun i => by rw [hb.frozen (p := ⟨g, i, none⟩) hg]; exact h.free i,
    fun i hi => by rw [e]; exact h.d0 i hi, fun i hi => by rw [e]; exact h.d1 i hi, fun i hi => by rw [e]; exact h.d2 i hi, fun i hi => by rw [e]; exact h.d3 i hi⟩
set_option maxHeartbeats 1000000 in
theorem toOrderS_c (S : Nat → Prop) (a : Option Addr) (c : Nat) (os : List Ord) (w : World) (hx : SlO S w a os) (l1 : os.length ≤ 4294967296) :
    Calls Try.prog 67 #[.slice a os.length c] w (RetD w (dO os)) := by
  have i1 := ix_of (P := Try.prog) tabOL.under tabOL.size (a := a) (n := os.length) (fun h0 => (hx.ptr h0).2) c
  obtain ⟨i0, hi, hz0, hz1, hz2⟩ := info_parts tabO.info
  go_enter Try.func67, Try.ntmps67
  go_wp2_with (at_make; refine wpList_make_full w rfl _ _ 38 rfl w.heap.size 73 i0 _ 4 tabO.under hi hz0 hz1 _ _ _ _ os.length rfl rfl rfl rfl ?b2 ?b3 (Nat.le_refl _) ?_)
  case b2 => rw [hz2]; omega
  case b3 => unfold maxLen; omega
  intro w0 hown hgr
  have hfil := fil_start (os := os) hown hgr
  clear hown hgr hi hz0 hz1 hz2
  go_wp2
  go_loopw [4] (fun i wr => ∃ k : Nat, k ≤ os.length ∧ i = .int .i64 k ∧ FilO w wr w.heap.size os k) (fun i _ => os.length - (intOf i).toNat)
  case atStart => exact ⟨0, Nat.zero_le _, rfl, hfil⟩
  case round =>
      obtain ⟨k, hk, rfl, hf⟩ := hrel
      clear hfil
      by_cases hlt : k < os.length
      · have hx' := hx.below hf.below
        have g0 := hx'.c0 k hlt
        have g1 := hx'.c1 k hlt
        have g2 := hx'.c2 k hlt
        have g3 := hx'.c3 k hlt
        have HF := Lib.hid hf
        clear hf hx'
        go_wp2_with fail
        refine (toOrder_c (nthO os k) wr).mono ?_
        rintro e w' ⟨rfl, hb'⟩
        unfold Ord.val
        have hgl : w.heap.size < wr.heap.size := by
          obtain ⟨u, hu⟩ := Option.isSome_iff_exists.1 (HF.out.hass 0 (by omega))
          exact World.block_lt_of_cell? wr _ hu
        have hf' := HF.out.carry hgl hb'
        have HN := Lib.hid (hf'.next hlt)
        obtain ⟨v0, e0⟩ := Option.isSome_iff_exists.1 (hf'.hass (k * 4) (by omega))
        obtain ⟨v1, e1⟩ := Option.isSome_iff_exists.1 (hf'.hass (k * 4 + 1) (by omega))
        obtain ⟨v2, e2⟩ := Option.isSome_iff_exists.1 (hf'.hass (k * 4 + 2) (by omega))
        obtain ⟨v3, e3⟩ := Option.isSome_iff_exists.1 (hf'.hass (k * 4 + 3) (by omega))
        have z0 := hf'.free (k * 4)
        have z1 := hf'.free (k * 4 + 1)
        have z2 := hf'.free (k * 4 + 2)
        have z3 := hf'.free (k * 4 + 3)
        clear hf' g0 g1 g2 g3 hb'
        go_wp2
        go_roundw
        case rel => exact ⟨k + 1, by omega, by go_num, HN.out⟩
        case measure => simp [intOf]; omega
      · have HF := Lib.hid hf
        clear hf
        go_wp2
        go_ret
        obtain rfl : k = os.length := by omega
        exact HF.out.ret (by unfold maxLen; omega)
/-- The call returns a program whose orders lie in memory of its own. -/
def RetPr (w : World) (R : Int) (os : List Ord) (e : Ending) (w' : World) : Prop := ∃ v F, e = .returned (.agg #[.int .i64 R, v]) ∧ Below w.heap.size w w' ∧ Ow w' (dO os) v F ∧ F.Nodup ∧ ∀ g, g ∈ F → w.heap.size ≤ g
set_option maxHeartbeats 1000000 in
theorem toProgram_c (R : Int) (S : Nat → Prop) (a : Option Addr) (c : Nat) (os : List Ord) (w : World) (hx : SlO S w a os) (l1 : os.length ≤ 4294967296) :
    Calls Try.prog 27 #[.agg #[.int .i64 R, .slice a os.length c]] w (RetPr w R os) := by
  have HC := Lib.hid (fun (wx : World) (hb : Below w.heap.size w wx) => toOrderS_c S a c os wx (hx.below hb) l1)
  go_enter Try.func27, Try.ntmps27
  go_wp2_with fail
  refine (HC.out _ (by repeat (first | exact Below.refl _ _ | refine Below.alloc ?_ (by simp; try omega) _ | refine Below.setCell ?_ (by simp; try omega) _))).mono ?_
  rintro e w1 ⟨v, F, rfl, hb, ho, hn, hF⟩
  obtain ⟨a1, c1, ev⟩ : ∃ a1 c1, v = .slice a1 os.length c1 := by
    obtain ⟨a1, c1, e, _⟩ := Rd_O.1 (Ow.rd _ _ _ ho)
    exact ⟨a1, c1, e⟩
  subst ev
  have hb0 : Below w.heap.size w w1 := bnext (by repeat (first | exact Below.refl _ _ | refine Below.alloc ?_ (by simp; try omega) _ | refine Below.setCell ?_ (by simp; try omega) _)) hb (by simp; try omega)
  obtain ⟨hc, hf⟩ := bcell hb
  have HB := Lib.hid hb0
  have HF := Lib.hid hF
  have HO := Lib.hid ho
  have hz : w.heap.size + 2 < w1.heap.size := by have := hb.size; simp at this; omega
  clear hb hb0 hF ho
  go_wp2
  refine bodyPost_end (v := .agg #[.int .i64 R, .slice a1 os.length c1]) (by simp [results, Try.results27, go_sem, hc]) rfl ?_
  refine ⟨_, F, rfl, ?_, ?_, hn, fun g hg => ?_⟩
  · repeat (first | exact HB.out | refine Below.setCell ?_ (by simp; try omega) _)
  · have hF' := HF.out
    repeat (first | exact HO.out | refine Ow.setCell ?_ (by intro hg; have := hF' _ hg; simp at this; try omega) _)
  · have := HF.out g hg; simp at this; omega
set_option maxHeartbeats 1000000 in
theorem eqOrderS_c (S T : Nat → Prop) (a b : Option Addr) (c c' : Nat) (xs : List Ord) (w : World) (hx : SlO S w a xs) (hy : SlO T w b xs) :
    Calls Try.prog 69 #[.slice a xs.length c, .slice b xs.length c'] w (RetV w (.bool true)) := by
  have l1 := hx.len
  unfold maxLen at l1
  have i1 := ixO hx c
  have i2 := ixO hy c'
  go_enter Try.func69, Try.ntmps69
  go_wp2
  go_loopw [5] (fun i wr => ∃ k : Nat, k ≤ xs.length ∧ i = .int .i64 k ∧ Below w.heap.size w wr) (fun i _ => xs.length - (intOf i).toNat)
  case atStart => exact ⟨0, Nat.zero_le _, rfl, Below.refl _ _⟩
  case round =>
      obtain ⟨k, hk, rfl, hb⟩ := hrel
      by_cases hlt : k < xs.length
      · have hx' := hx.below hb
        have hy' := hy.below hb
        have g0 := hx'.c0 k hlt
        have g1 := hx'.c1 k hlt
        have g2 := hx'.c2 k hlt
        have g3 := hx'.c3 k hlt
        have f0 := hy'.c0 k hlt
        have f1 := hy'.c1 k hlt
        have f2 := hy'.c2 k hlt
        have f3 := hy'.c3 k hlt
        have HB := Lib.hid hb
        clear hx' hy' hb
        go_wp2_with fail
        go_region_with (go_at_call 107; refine (eqOrder_c (nthO xs k) _).mono ?_; rintro e w' ⟨rfl, hb'⟩)
        all_goals
          have hbb := bnext HB.out.drew hb' (Nat.le_refl _)
          go_wp2
          go_roundw
          case rel => exact ⟨k + 1, by omega, by go_num, hbb⟩
          case measure => simp [intOf]; omega
      · have HB := Lib.hid hb
        clear hb
        go_wp2
        go_ret
        exact ⟨rfl, HB.out⟩
theorem eqProgram_c (R : Int) (a b : Option Addr) (c c' : Nat) (xs : List Ord) (w : World) (hx : SlO Any w a xs) (hy : SlO Any w b xs) :
    Calls Try.prog 29 #[.agg #[.int .i64 R, .slice a xs.length c], .agg #[.int .i64 R, .slice b xs.length c']] w (RetV w (.bool true)) := by
  have hb : Below w.heap.size w ((w.alloc (.cells #[.int .i64 R, .slice a xs.length c] 40)).alloc (.cells #[.int .i64 R, .slice b xs.length c'] 40)) := ((Below.refl _ _).alloc (Nat.le_refl _) _).alloc (by simp) _
  have HC := Lib.hid (eqOrderS_c Any Any a b c c' xs _ (hx.below hb) (hy.below hb))
  have HB := Lib.hid hb
  clear hb
  go_enter Try.func29, Try.ntmps29
  go_wp2_with fail
  refine HC.out.mono ?_
  rintro e w' ⟨rfl, hb2⟩
  go_wp2
  go_ret
  exact ⟨rfl, bnext HB.out hb2 (Nat.le_refl _)⟩
end Go.Proofs.Ytkeoidapcajlbaa
