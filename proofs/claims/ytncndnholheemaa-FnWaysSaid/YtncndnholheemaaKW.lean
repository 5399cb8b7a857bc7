/- What a small program can halt with: the plain law, and the law's function on configs. Written by mkwl.py. -/
import Derived.Test.YtncndnholheemaaKG
import Derived.Test.YtncndnholheemaaHZ
import Derived.Test.YtncndnholheemaaAVW
namespace Go.Proofs.Ytncndnholheemaa
open Go.RowKit

theorem rawTo_mem (os : List Ord) (all : List Cfg) (y : Int) : ∀ k, y ∈ rawTo os all k ↔ ∃ j, j < k ∧ haltS os (nthCfg all j).pc = true ∧ nth (nthCfg all j).regs 0 = y
  | 0 => by simp [rawTo]
  | k + 1 => by
    have ih := rawTo_mem os all y k
    unfold rawTo
    split
    · rename_i h
      rw [List.mem_append, ih, List.mem_singleton]
      constructor
      · rintro (⟨j, h1, h2⟩ | h1)
        · exact ⟨j, by omega, h2⟩
        · exact ⟨k, by omega, h, h1.symm⟩
      · rintro ⟨j, h1, h2, h3⟩
        by_cases e : j = k
        · subst e; exact .inr h3.symm
        · exact .inl ⟨j, by omega, h2, h3⟩
    · rename_i h
      rw [ih]
      constructor
      · rintro ⟨j, h1, h2⟩; exact ⟨j, by omega, h2⟩
      · rintro ⟨j, h1, h2, h3⟩
        by_cases e : j = k
        · subst e; exact absurd h2 h
        · exact ⟨j, by omega, h2, h3⟩
theorem val_more {os : List Ord} {regs : List Int} {n : Nat} (h0 : (rndTo os regs n).2.2 = 0) (h1 : (rndTo os regs (n + 1)).2.2 = 0) {y : Int} (hy : y ∈ valTo os (rndTo os regs n).1 (rndTo os regs n).1.length) : y ∈ valTo os (rndTo os regs (n + 1)).1 (rndTo os regs (n + 1)).1.length := by
  rw [valTo_mem, rawTo_mem] at *
  obtain ⟨j, hj, h2, h3⟩ := hy
  have hx : (expTo os (rndTo os regs n).1 (rndTo os regs n).2.1 ((rndTo os regs n).1.length - (rndTo os regs n).2.1)).2 = 0 := by
    rcases expTo_code os (rndTo os regs n).1 (rndTo os regs n).2.1 ((rndTo os regs n).1.length - (rndTo os regs n).2.1) with h | h
    · exact h
    · rw [rndTo, if_pos h0, if_neg (by rw [h]; decide)] at h1
      exact absurd h1 (by decide)
  obtain ⟨t, ht⟩ := expTo_pre _ _ _ _ hx
  rw [rndTo_step h0 hx]
  simp only [ht]
  exact ⟨j, by rw [List.length_append]; omega, by rw [nthCfg_app hj]; exact h2, by rw [nthCfg_app hj]; exact h3⟩
theorem rnd_still {os : List Ord} {regs : List Int} (h : haltS os 0 = true) : ∀ n, (rndTo os regs n).2.2 = 0 ∧ (rndTo os regs n).1 = [⟨0, regs⟩]
  | 0 => ⟨rfl, rfl⟩
  | n + 1 => by
    have hn : nextS os 0 regs = ([], 0) := by unfold nextS; rw [if_pos h]
    have e1 : expTo os [⟨0, regs⟩] 0 1 = ([⟨0, regs⟩], 0) := by
      have := expTo_step (os := os) (all := [⟨0, regs⟩]) (fr := 0) (i := 0) rfl (by simp [nthCfg, hn]) (by simp [nthCfg, hn, addTo, expTo])
      rw [this]; simp [nthCfg, hn, addTo, expTo]
    have s1 : rndTo os regs 1 = ([⟨0, regs⟩], 1, 0) := by
      have := rndTo_step (os := os) (regs := regs) (n := 0) rfl (by show (expTo os [⟨0, regs⟩] 0 1).2 = 0; rw [e1])
      rw [this]
      show ((expTo os [⟨0, regs⟩] 0 1).1, 1, (0 : Int)) = _
      rw [e1]
    have := rndTo_rest (os := os) (regs := regs) (n := 1) (by rw [s1]) (by rw [s1]; rfl) n
    rw [Nat.add_comm, this, s1]; exact ⟨rfl, rfl⟩
/-- The law's facts. -/
structure WaysL (R : Int) (os : List Ord) (regs : List Int) (s : Nat) : Prop where
  few : (haltValuesS R os regs s).2 = 0
  many : (haltValuesS R os regs (s + 1 : Nat)).2 = 0
  one : ∀ i, i < (haltValuesS R os regs s).1.length → (haltValuesS R os regs (s + 1 : Nat)).1.count (nth (haltValuesS R os regs s).1 i) = 1
  stop : (nextConfigsS R os 0 regs).1.length = 0 → (haltValuesS R os regs (s + 1 : Nat)).1 = [nth regs 0]
  len1 : (haltValuesS R os regs s).1.length ≤ 200
  len2 : (haltValuesS R os regs (s + 1 : Nat)).1.length ≤ 200
theorem ways_law {R : Int} {os : List Ord} {regs : List Int} (hd : Drawn R os) (hl : (regs.length : Int) = R) (hv : ∀ j, 0 ≤ nth regs j ∧ nth regs j ≤ 3) {s : Nat} (hs : s ≤ 7) : WaysL R os regs s := by
  have hvp := hd.valid
  have hok : ∀ k, k < os.length → okOrd R os.length (nthO os k) = true := fun k hk => (hd.ok k hk).1
  have hrg : regsOk R regs = true := by
    simp only [regsOk, Bool.and_eq_true, beq_iff_eq]
    refine ⟨hl, allB_true fun j hj => ?_⟩
    have := hv j
    simp [cntOk, inRg]; omega
  have hw := fun n (h : n ≤ 8) => ways_ok hd.r hd.n.2 hok hl hv h
  have ha : ∀ n : Nat, n ≤ 8 → askRun R os regs n = 0 := fun n hn => askRun_zero hvp hrg (by simp [inRg]; omega)
  have hval : ∀ n : Nat, n ≤ 8 → haltValuesS R os regs n = (valTo os (rndTo os regs n).1 (rndTo os regs n).1.length, 0) := fun n hn => by
    rw [haltValuesS, if_pos (ha n hn), Int.toNat_natCast, if_pos (hw n hn)]
  have hlen : ∀ n : Nat, n ≤ 8 → (haltValuesS R os regs n).1.length ≤ 200 := fun n hn => by
    rw [hval n hn]
    have h1 := valTo_len os (rndTo os regs n).1 (rndTo os regs n).1.length
    have h2 := (rndTo_ok hvp hrg n).len
    simp only; omega
  refine ⟨by rw [hval s (by omega)], by rw [hval (s + 1) (by omega)], fun i hi => ?_, fun h0 => ?_, hlen s (by omega), hlen (s + 1) (by omega)⟩
  · rw [hval s (by omega)] at hi ⊢
    rw [hval (s + 1) (by omega)]
    simp only at hi ⊢
    have hm : nth (valTo os (rndTo os regs s).1 (rndTo os regs s).1.length) i ∈ valTo os (rndTo os regs s).1 (rndTo os regs s).1.length := by rw [nth_lt hi]; exact List.getElem_mem hi
    have hm2 := val_more (hw s (by omega)) (hw (s + 1) (by omega)) hm
    have hnd : (valTo os (rndTo os regs (s + 1)).1 (rndTo os regs (s + 1)).1.length).Nodup := (valTo_up os _ _).imp (fun h e => by omega)
    rw [hnd.count, if_pos hm2]
  · have hst : confOk R os.length 0 regs = true := start_ok hrg
    have hnx : nextConfigsS R os 0 regs = nextS os 0 regs := by rw [nextConfigsS, if_pos hvp, if_pos hst]
    rw [hnx] at h0
    have hc0 : (nextS os 0 regs).2 = 0 := by
      rcases nextS_code os 0 regs with h | ⟨_, h⟩
      · exact h
      · have h1 := hw 1 (by omega)
        have h2 : (expTo os [⟨0, regs⟩] 0 1).2 = 3 := expTo_stuck (by simp only [nthCfg]; show ¬ (nextS os 0 regs).2 = 0; rw [h]; decide)
        have h3 := rnd_fall (os := os) (regs := regs) (k := 0) (n := 1) (fr := 0) (i := 1) (all := [⟨0, regs⟩]) rfl (by omega) (by simp) h2
        rw [h1] at h3; exact absurd h3 (by decide)
    have hh : haltS os 0 = true := by
      cases hh : haltS os 0 with
      | true => rfl
      | false => have := nextS_some hh hc0; omega
    obtain ⟨_, h2⟩ := rnd_still (regs := regs) hh (s + 1)
    rw [hval (s + 1) (by omega), h2]
    show valTo os [⟨0, regs⟩] 1 = _
    simp [valTo, nthCfg, hh, putS]
set_option maxHeartbeats 1000000 in
theorem f6config_c (S T : Nat → Prop) (x : Cfg) (a b : Option Addr) (c c' : Nat) (w : World) (hx : SlI S w a x.regs) (hy : SlI T w b x.regs) :
    Calls Try.prog 83 #[.agg #[.int .i64 x.pc, .slice a x.regs.length c], .agg #[.int .i64 x.pc, .slice b x.regs.length c']] w (RetV w (.bool true)) := by
  have hb0 : Below w.heap.size w ((w.alloc (.cells #[.int .i64 x.pc, .slice a x.regs.length c] 68)).alloc (.cells #[.int .i64 x.pc, .slice b x.regs.length c'] 68)) := (below_alloc _ _).alloc (by simp) _
  have HE := Lib.hid (f6ints_c a b c c' x.regs _ (hx.below hb0).any (hy.below hb0).any)
  have HB := Lib.hid hb0
  clear hb0 hx hy
  go_enter Try.func83, Try.ntmps83
  go_wp2_with fail
  refine HE.out.mono ?_
  rintro e w' ⟨rfl, hb⟩
  have HB2 := Lib.hid (bnext HB.out hb (Nat.le_refl _))
  clear hb
  go_wp2
  go_ret
  exact ⟨rfl, HB2.out⟩
set_option maxHeartbeats 2000000 in
theorem f6configs_c (a b : Option Addr) (c d : Nat) (cs : List Cfg) (w : World) (h1 : Rd Any w (dCS cs) (.slice a cs.length c)) (h2 : Rd Any w (dCS cs) (.slice b cs.length d)) :
    Calls Try.prog 34 #[.slice a cs.length c, .slice b cs.length d] w (RetV w (.bool true)) := by
  obtain ⟨_, _, e1, hx⟩ := Rd_CS h1
  cases e1
  obtain ⟨_, _, e2, hy⟩ := Rd_CS h2
  cases e2
  have l1 := hx.len
  unfold maxLen at l1
  have i1 := ix_of (P := Try.prog) tabConfigSM.under tabConfigSM.size hx.ptr c
  have i2 := ix_of (P := Try.prog) tabConfigSM.under tabConfigSM.size hy.ptr d
  have H1 := Lib.hid h1
  have H2 := Lib.hid h2
  clear hx hy h1 h2
  go_enter Try.func34, Try.ntmps34
  go_wp2
  go_loopw [5] (fun i wr => ∃ k : Nat, k ≤ cs.length ∧ i = .int .i64 k ∧ Hid (Below w.heap.size w wr)) (fun i _ => cs.length - (intOf i).toNat)
  case atStart => exact ⟨0, Nat.zero_le _, rfl, Lib.hid (Below.refl _ _)⟩
  case round =>
    obtain ⟨k, hk, rfl, HB⟩ := hrel
    by_cases hlt : k < cs.length
    · have hki : (k : Int) < cs.length := by omega
      obtain ⟨_, _, e1, hx⟩ := Rd_CS (H1.out.below HB.out)
      cases e1
      obtain ⟨_, _, e2, hy⟩ := Rd_CS (H2.out.below HB.out)
      cases e2
      have j1 := fun w' => i1 (k : Int) w' (by omega) hki
      have j2 := fun w' => i2 (k : Int) w' (by omega) hki
      simp only [Int.toNat_natCast] at j1 j2
      have d0 := wat_cell (hx.c0 k hlt)
      obtain ⟨a1, n1, d1, s1⟩ := hx.c1 k hlt
      have g0 := wat_cell (hy.c0 k hlt)
      obtain ⟨a2, n2, g1, s2⟩ := hy.c1 k hlt
      replace d1 := wat_cell d1
      replace g1 := wat_cell g1
      have HS := Lib.hid (fun x : Wd wr => f6config_c Any Any (nthCfg cs k) a1 a2 n1 n2 (wat x) (s1.below (wat_below x)) (s2.below (wat_below x)))
      obtain ⟨cc, hcc⟩ : ∃ x, x = nthCfg cs k := ⟨_, rfl⟩
      rw [← hcc] at d0 d1 g0 g1 HS
      clear hx hy s1 s2 hcc
      go_wp2
      refine wp_quiet_wd (by kernel_rfl) (by kernel_rfl) ?_
      repeat (go_big_quiet_step (with_reducible exact wdV (HS.out _)))
      refine wpQuiet_nil ?_
      rintro _ ⟨wq, rfl⟩
      have HB2 := Lib.hid (bnext HB.out (wat_below wq) (Nat.le_refl _))
      go_wp2
      go_roundw
      case rel => exact ⟨k + 1, by omega, by go_num, HB2⟩
      case measure => simp [intOf]; omega
    · obtain rfl : k = cs.length := by omega
      go_wp2
      go_ret
      exact ⟨rfl, HB.out⟩
end Go.Proofs.Ytncndnholheemaa
