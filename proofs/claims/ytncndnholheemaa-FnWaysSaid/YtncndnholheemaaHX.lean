/- Configs that are looked for, numbers that are put in order: both programs' small functions. -/
import Derived.Test.YtncndnholheemaaHW
import Derived.Test.YtncndnholheemaaSL
namespace Go.Proofs.Ytncndnholheemaa
open Go.RowKit

set_option maxHeartbeats 1000000 in
theorem sameC_c (S T : Nat → Prop) (x y : Cfg) (a b : Option Addr) (c c' : Nat) (w : World) (hx : SlI S w a x.regs) (hy : SlI T w b y.regs) :
    Calls Try.prog 68 #[.agg #[.int .i64 x.pc, .slice a x.regs.length c], .agg #[.int .i64 y.pc, .slice b y.regs.length c']] w (RetV w (.bool (eqC x y))) := by
  have hb0 : Below w.heap.size w ((w.alloc (.cells #[.int .i64 x.pc, .slice a x.regs.length c] 68)).alloc (.cells #[.int .i64 y.pc, .slice b y.regs.length c'] 68)) := (below_alloc _ _).alloc (by simp) _
  have HE := Lib.hid (slicesEqualI_c S T a b c c' x.regs y.regs _ (hx.below hb0) (hy.below hb0))
  have HB := Lib.hid hb0
  clear hb0 hx hy
  cases h : (x.pc == y.pc)
  · have e : eqC x y = false := by simp [eqC, h]
    rw [e]
    clear e
    go_enter Try.func68, Try.ntmps68
    go_wp2
    go_ret
    exact ⟨rfl, HB.out⟩
  · have e : eqC x y = eqI x.regs y.regs := by simp [eqC, h]
    rw [e]
    clear e
    go_enter Try.func68, Try.ntmps68
    go_wp2_with fail
    refine HE.out.mono ?_
    rintro e w' ⟨rfl, n, rfl⟩
    go_wp2
    go_ret
    exact ⟨rfl, HB.out.trans (below_drewN _ _ _)⟩
set_option maxHeartbeats 1000000 in
theorem foundC_c (S T : Nat → Prop) (x y : Cfg) (a b : Option Addr) (c c' f q : Nat) (w : World) (hx : SlI S w a x.regs) (hy : SlI T w b y.regs) (hf : w.cell? ⟨f, 0, none⟩ = some (.func (.func 68) #[] #[])) (hq0 : w.cell? ⟨q, 0, none⟩ = some (.int .i64 y.pc)) (hq1 : w.cell? ⟨q, 1, none⟩ = some (.slice b y.regs.length c')) :
    Calls Try.prog 73 #[.agg #[.int .i64 x.pc, .slice a x.regs.length c], .pointer (some ⟨f, 0, none⟩), .pointer (some ⟨q, 0, none⟩)] w (RetV w (.bool (eqC x y))) := by
  have hb0 : Below w.heap.size w (w.alloc (.cells #[.int .i64 x.pc, .slice a x.regs.length c] 68)) := below_alloc _ _
  have HS := Lib.hid (sameC_c S T x y a b c c' _ (hx.below hb0) (hy.below hb0))
  have f0 := (bcell1 hb0 (World.block_lt_of_cell? w _ hf)).trans hf
  have q0 := (bcell1 hb0 (World.block_lt_of_cell? w _ hq0)).trans hq0
  have q1 := (bcell1 hb0 (World.block_lt_of_cell? w _ hq1)).trans hq1
  have hrun := callFunc_run (P := Try.prog) Try.func68 (by kernel_rfl) rfl
  have HB := Lib.hid hb0
  clear hb0 hx hy hf hq0 hq1
  go_enter Try.func73, Try.ntmps73
  go_wp2_with fail
  refine HS.out.mono ?_
  rintro e w' ⟨rfl, hb⟩
  go_wp2
  go_ret
  exact ⟨rfl, bnext HB.out hb (Nat.le_refl _)⟩
set_option maxHeartbeats 1000000 in
theorem indexFuncC_c (f : FuncId) (caps : Array Value) (p : Cfg → Bool) (hcall : ∀ args w, (callFunc f args).run Try.prog w = .ok (.enter f args) w)
   (S : Nat → Prop) (g c : Nat) (cs : List Cfg) (w : World) (hv : VwC w S g cs) (hl : cs.length ≤ 1000)
   (hf : Hid (∀ w' i a n, i < cs.length → Below w.heap.size w w' → SlI S w' a (nthCfg cs i).regs → Calls Try.prog f (#[.agg #[.int .i64 (nthCfg cs i).pc, .slice a (nthCfg cs i).regs.length n]] ++ caps) w' (RetV w' (.bool (p (nthCfg cs i)))))) :
    Calls Try.prog 118 #[.slice (some ⟨g, 0, none⟩) cs.length c, .func (.func f) #[] caps] w (RetV w (.int .i64 (idxC p cs))) := by
  have i1 := ix_of (P := Try.prog) tabConfigSM.under tabConfigSM.size (a := some ⟨g, 0, none⟩) (n := cs.length) (fun _ => ⟨g, 0, rfl⟩) c
  simp only [adr, blk, ofs, Nat.zero_add] at i1
  have HV := Lib.hid hv
  clear hv
  go_enter Try.func118, Try.ntmps118
  go_wp2
  go_loopw [5, 8] (fun _ i wr => ∃ k : Nat, k ≤ cs.length ∧ i = .int .i64 k ∧ Hid (Below w.heap.size w wr) ∧ Hid (∀ j, j < k → p (nthCfg cs j) = false)) (fun _ i _ => cs.length - (intOf i).toNat)
  case atStart => exact ⟨0, Nat.zero_le _, rfl, Lib.hid (Below.refl _ _), Lib.hid (by omega)⟩
  case round =>
      obtain ⟨k, hk, rfl, HBR, HJ⟩ := hrel
      by_cases hlt : k < cs.length
      · have hki : (k : Int) < cs.length := by omega
        have i2 := fun w' => i1 (k : Int) w' (by omega) hki
        simp only [Int.toNat_natCast] at i2
        have hvr := HV.out.below HBR.out
        have d0 := hvr.c0 k hlt
        obtain ⟨a, n, d1, hs⟩ := hvr.c1 k hlt
        have HF := Lib.hid (hf.out wr k a n hlt HBR.out hs)
        clear hvr hs
        go_wp2_with fail
        refine HF.out.mono ?_
        rintro e w' ⟨rfl, hb⟩
        have HB2 := Lib.hid (bnext HBR.out hb (Nat.le_refl _))
        clear hb
        cases hp : p (nthCfg cs k)
        · have hp' := Lib.hid hp
          clear hp
          go_wp2
          go_roundw
          case rel => exact ⟨k + 1, by omega, by go_num, HB2, Lib.hid (upto HJ.out hp'.out)⟩
          case measure => simp [intOf]; omega
        · go_wp2
          go_ret
          exact ⟨ret_int (idxC_at hlt HJ.out hp).symm, HB2.out⟩
      · go_wp2
        go_ret
        have e : k = cs.length := by omega
        exact ⟨ret_int (idxC_none (e ▸ HJ.out)).symm, HBR.out⟩
theorem containsFuncC_c (f : FuncId) (caps : Array Value) (p : Cfg → Bool) (hcall : ∀ args w, (callFunc f args).run Try.prog w = .ok (.enter f args) w)
   (S : Nat → Prop) (g c : Nat) (cs : List Cfg) (w : World) (hv : VwC w S g cs) (hl : cs.length ≤ 1000)
   (hf : Hid (∀ w' i a n, i < cs.length → Below w.heap.size w w' → SlI S w' a (nthCfg cs i).regs → Calls Try.prog f (#[.agg #[.int .i64 (nthCfg cs i).pc, .slice a (nthCfg cs i).regs.length n]] ++ caps) w' (RetV w' (.bool (p (nthCfg cs i)))))) :
    Calls Try.prog 72 #[.slice (some ⟨g, 0, none⟩) cs.length c, .func (.func f) #[] caps] w (RetV w (.bool (cs.any p))) := by
  have HI := Lib.hid (indexFuncC_c f caps p hcall S g c cs w hv hl hf)
  clear hv hf
  go_enter Try.func72, Try.ntmps72
  go_wp2_with fail
  refine HI.out.mono ?_
  rintro e w' ⟨rfl, hb⟩
  have HB := Lib.hid hb
  clear hb
  go_wp2
  go_ret
  exact ⟨ret_bool (idxC_any p cs), HB.out⟩
set_option maxHeartbeats 2000000 in
theorem l05Find_c (S T : Nat → Prop) (g c q r : Nat) (cs : List Cfg) (d : Cfg) (b : Option Addr) (c' : Nat) (w : World) (hv : VwC w S g cs) (hl : cs.length ≤ 1000) (hq0 : w.cell? ⟨q, r, none⟩ = some (.int .i64 d.pc)) (hq1 : w.cell? ⟨q, r + 1, none⟩ = some (.slice b d.regs.length c')) (hd : SlI T w b d.regs) :
    Calls Try.prog 63 #[.slice (some ⟨g, 0, none⟩) cs.length c, .pointer (some ⟨q, r, none⟩)] w (RetV w (.int .i64 (idxC (fun x => eqC x d) cs))) := by
  have i1 := ix_of (P := Try.prog) tabConfigSM.under tabConfigSM.size (a := some ⟨g, 0, none⟩) (n := cs.length) (fun _ => ⟨g, 0, rfl⟩) c
  simp only [adr, blk, ofs, Nat.zero_add] at i1
  have HV := Lib.hid hv
  have HD := Lib.hid hd
  have hql := World.block_lt_of_cell? w _ hq0
  clear hv hd
  go_enter Try.func63, Try.ntmps63
  go_wp2
  go_loopw [5] (fun i wr => ∃ k : Nat, k ≤ cs.length ∧ i = .int .i64 k ∧ Hid (Below w.heap.size w wr) ∧ Hid (∀ j, j < k → eqC (nthCfg cs j) d = false)) (fun i _ => cs.length - (intOf i).toNat)
  case atStart => exact ⟨0, Nat.zero_le _, rfl, Lib.hid (Below.refl _ _), Lib.hid (by omega)⟩
  case round =>
      obtain ⟨k, hk, rfl, HBR, HJ⟩ := hrel
      by_cases hlt : k < cs.length
      · have hki : (k : Int) < cs.length := by omega
        have i2 := fun w' => i1 (k : Int) w' (by omega) hki
        simp only [Int.toNat_natCast] at i2
        have hvr := HV.out.below HBR.out
        have e0 := wat_cell (hvr.c0 k hlt)
        obtain ⟨a, n, d1, hs⟩ := hvr.c1 k hlt
        have e1 := wat_cell d1
        have g0 := wat_cell ((bcell1 HBR.out hql).trans hq0)
        have g1 := wat_cell ((bcell1 HBR.out hql).trans hq1)
        have HS := Lib.hid (fun x : Wd wr => callsQ (l00Same_c S T a b n c' (nthCfg cs k).regs d.regs (wat x) (hs.below (wat_below x)) ((HD.out.below HBR.out).below (wat_below x))))
        clear hvr hs d1
        cases hp : eqC (nthCfg cs k) d
        · have hp' := Lib.hid hp
          cases h1 : ((nthCfg cs k).pc == d.pc)
          · clear hp
            go_wp2
            refine wp_quiet_wd (by kernel_rfl) (by kernel_rfl) ?_
            repeat (go_big_quiet_step (with_reducible exact wdV (HS.out _)))
            refine wpQuiet_nil ?_
            rintro _ ⟨wq, rfl⟩
            have HB2 := Lib.hid (bnext HBR.out (wat_below wq) (Nat.le_refl _))
            go_wp2
            go_roundw
            case rel => exact ⟨k + 1, by omega, by go_num, HB2, Lib.hid (upto HJ.out hp'.out)⟩
            case measure => simp [intOf]; omega
          · have h2 : eqI (nthCfg cs k).regs d.regs = false := by simpa [eqC, h1] using hp
            rw [h2] at HS
            clear hp h2
            go_wp2
            refine wp_quiet_wd (by kernel_rfl) (by kernel_rfl) ?_
            repeat (go_big_quiet_step (with_reducible exact wdV (HS.out _)))
            refine wpQuiet_nil ?_
            rintro _ ⟨wq, rfl⟩
            have HB2 := Lib.hid (bnext HBR.out (wat_below wq) (Nat.le_refl _))
            go_wp2
            go_roundw
            case rel => exact ⟨k + 1, by omega, by go_num, HB2, Lib.hid (upto HJ.out hp'.out)⟩
            case measure => simp [intOf]; omega
        · have h1 : ((nthCfg cs k).pc == d.pc) = true := by simp only [eqC, Bool.and_eq_true] at hp; exact hp.1
          have h2 : eqI (nthCfg cs k).regs d.regs = true := by simp only [eqC, Bool.and_eq_true] at hp; exact hp.2
          rw [h2] at HS
          have hp' := Lib.hid hp
          clear hp h2
          go_wp2
          refine wp_quiet_wd (by kernel_rfl) (by kernel_rfl) ?_
          repeat (go_big_quiet_step (with_reducible exact wdV (HS.out _)))
          refine wpQuiet_nil ?_
          rintro _ ⟨wq, rfl⟩
          have HB2 := Lib.hid (bnext HBR.out (wat_below wq) (Nat.le_refl _))
          go_wp2
          go_ret
          exact ⟨ret_int (idxC_at (p := fun x => eqC x d) hlt HJ.out hp'.out).symm, HB2.out⟩
      · go_wp2
        go_ret
        have e : k = cs.length := by omega
        exact ⟨ret_int (idxC_none (p := fun x => eqC x d) (e ▸ HJ.out)).symm, HBR.out⟩
/-- What the numbers are that have been put so far. -/
def putTo (xs : List Int) (n : Int) (k : Nat) : List Int := if (xs.take k).any (fun x => decide (n ≤ x)) = true then putS (xs.take k) n else xs.take k
theorem putS_app_done : ∀ (l : List Int) (n x : Int), l.any (fun y => decide (n ≤ y)) = true → putS (l ++ [x]) n = putS l n ++ [x]
  | [], n, x, h => by simp at h
  | y :: l, n, x, h => by
    by_cases hy : n ≤ y
    · simp only [List.cons_append, putS, if_pos hy]
      split <;> simp
    · have h2 : l.any (fun y => decide (n ≤ y)) = true := by simpa [hy] using h
      simp only [List.cons_append, putS, if_neg hy, putS_app_done l n x h2]
theorem putS_app_new : ∀ (l : List Int) (n x : Int), l.any (fun y => decide (n ≤ y)) = false → n ≤ x → putS (l ++ [x]) n = (if n < x then l ++ [n] else l) ++ [x]
  | [], n, x, _, hx => by
    simp only [List.nil_append, putS, if_pos hx]
    split <;> simp
  | y :: l, n, x, h, hx => by
    have hy : ¬ n ≤ y := fun e => by simp [e] at h
    have h2 : l.any (fun y => decide (n ≤ y)) = false := by simpa [hy] using h
    simp only [List.cons_append, putS, if_neg hy, putS_app_new l n x h2 hx]
    split <;> simp
theorem putS_none : ∀ (l : List Int) (n : Int), l.any (fun y => decide (n ≤ y)) = false → putS l n = l ++ [n]
  | [], n, _ => rfl
  | y :: l, n, h => by
    have hy : ¬ n ≤ y := fun e => by simp [e] at h
    have h2 : l.any (fun y => decide (n ≤ y)) = false := by simpa [hy] using h
    simp only [putS, if_neg hy, putS_none l n h2, List.cons_append]
def doneTo (xs : List Int) (n : Int) (k : Nat) : Bool := (xs.take k).any fun x => decide (n ≤ x)
theorem take_nth {xs : List Int} {k : Nat} (h : k < xs.length) : xs.take (k + 1) = xs.take k ++ [nth xs k] := by rw [List.take_succ_eq_append_getElem h, nth_lt h]
theorem putTo_done {xs : List Int} {n : Int} {k : Nat} (hk : k < xs.length) (h : doneTo xs n k = true) : doneTo xs n (k + 1) = true ∧ putTo xs n (k + 1) = putTo xs n k ++ [nth xs k] := by
  unfold doneTo at h
  refine ⟨by unfold doneTo; rw [take_nth hk, List.any_append, h]; rfl, ?_⟩
  unfold putTo
  rw [take_nth hk, if_pos h, if_pos (by rw [List.any_append, h]; rfl), putS_app_done _ _ _ h]
theorem putTo_wait {xs : List Int} {n : Int} {k : Nat} (hk : k < xs.length) (h : doneTo xs n k = false) (hx : ¬ n ≤ nth xs k) : doneTo xs n (k + 1) = false ∧ putTo xs n (k + 1) = putTo xs n k ++ [nth xs k] := by
  unfold doneTo at h
  have e : (xs.take k ++ [nth xs k]).any (fun x => decide (n ≤ x)) = false := by rw [List.any_append, h]; simp; omega
  refine ⟨by unfold doneTo; rw [take_nth hk]; exact e, ?_⟩
  unfold putTo
  rw [take_nth hk]
  simp only [e, h, Bool.false_eq_true, if_false]
theorem putTo_now {xs : List Int} {n : Int} {k : Nat} (hk : k < xs.length) (h : doneTo xs n k = false) (hx : n ≤ nth xs k) : doneTo xs n (k + 1) = true ∧ putTo xs n (k + 1) = (if n < nth xs k then putTo xs n k ++ [n] else putTo xs n k) ++ [nth xs k] := by
  unfold doneTo at h
  have e : (xs.take k ++ [nth xs k]).any (fun x => decide (n ≤ x)) = true := by rw [List.any_append]; simp [hx]
  refine ⟨by unfold doneTo; rw [take_nth hk]; exact e, ?_⟩
  unfold putTo
  rw [take_nth hk]
  simp only [e, h, Bool.false_eq_true, if_false, if_true, putS_app_new _ _ _ h hx]
theorem putTo_end {xs : List Int} {n : Int} : putS xs n = if doneTo xs n xs.length = true then putTo xs n xs.length else putTo xs n xs.length ++ [n] := by
  unfold putTo doneTo
  rw [List.take_length]
  split
  · rfl
  · rename_i h
    exact putS_none _ _ (by simpa using h)
theorem putTo_len (xs : List Int) (n : Int) (k : Nat) : (putTo xs n k).length ≤ k + 1 := by
  have h1 : (xs.take k).length ≤ k := by simp; omega
  unfold putTo
  split
  · have := putS_len (xs.take k) n; omega
  · omega
set_option maxHeartbeats 4000000 in
set_option maxRecDepth 100000 in
theorem l00Put_c (S : Nat → Prop) (a : Option Addr) (c : Nat) (xs : List Int) (n : Int) (w : World) (hx : SlI S w a xs) (hl : xs.length ≤ 1000) :
    Calls Try.prog 65 #[.slice a xs.length c, .int .i64 n] w (RetD w (dI (putS xs n))) := by
  have i1 := hx.ix tabI.under tabI.size c
  have HX := Lib.hid hx
  clear hx
  go_enter Try.func65, Try.ntmps65
  go_wp2
  go_loopw [5, 6, 7] (fun o d i wr => ∃ k : Nat, k ≤ xs.length ∧ i = .int .i64 k ∧ d = .bool (doneTo xs n k) ∧ Hid (Below w.heap.size w wr) ∧ Hid (Bld 2 wr w.heap.size o ((putTo xs n k).map (.int .i64)))) (fun _ _ i _ => xs.length - (intOf i).toNat)
  case atStart => exact ⟨0, Nat.zero_le _, rfl, by simp [doneTo], Lib.hid (below_alloc _ _), Lib.hid (by simpa [putTo] using Bld.empty 2 w w.heap.size (Nat.le_refl _))⟩
  case round =>
    obtain ⟨k, hk, rfl, rfl, HBR, HBL⟩ := hrel
    have hpl := putTo_len xs n k
    by_cases hlt : k < xs.length
    · have hki : (k : Int) < xs.length := by omega
      have i2 := fun w' => i1 (k : Int) w' (by omega) hki
      simp only [Int.toNat_natCast] at i2
      have g1 := (HBR.out.cell (World.block_lt_of_cell? w _ (HX.out.cell k hlt))).trans (HX.out.cell k hlt)
      have k1 := fun ob => ((below_alloc wr ob).cell (World.block_lt_of_cell? wr _ g1)).trans g1
      obtain ⟨x, hxx⟩ : ∃ x, x = nth xs k := ⟨_, rfl⟩
      rw [← hxx] at g1 k1
      obtain ⟨P, hP⟩ : ∃ P, P = putTo xs n k := ⟨_, rfl⟩
      rw [← hP] at hpl HBL
      have HXX := Lib.hid hxx
      have HPP := Lib.hid hP
      clear hxx hP
      cases hd : doneTo xs n k
      · by_cases hnx : n ≤ x
        · by_cases hn2 : n < x
          · have HQ : Hid (doneTo xs n (k + 1) = true ∧ putTo xs n (k + 1) = (P ++ [n]) ++ [x]) := Lib.hid (by
              have h := putTo_now hlt hd (by rw [← HXX.out]; exact hnx)
              rw [← HXX.out, ← HPP.out, if_pos hn2] at h; exact h)
            clear hd
            go_wp2_with (at_builtin; refine app_one rfl _ _ 24 rfl tabI rfl (by decide) w.heap.size _ (P.map (.int .i64)) rfl (HBL.out.below (below_alloc _ _)) _ (.int .i64 n) rfl rfl (by simp [go_sem]) (by simp; omega) (by have := HBR.out.size; simp; omega) ?_)
            intro v3 w3 hbl3 hb3
            have HB3 := Lib.hid ((HBR.out.alloc HBR.out.size _).trans hb3)
            have HL3 : Hid (Bld 2 w3 w.heap.size v3 ((P ++ [n]).map (.int .i64))) := Lib.hid (by have h := hbl3; simpa using h)
            clear hbl3 hb3
            have g3 := (HB3.out.cell (World.block_lt_of_cell? w _ (HX.out.cell k hlt))).trans (HX.out.cell k hlt)
            rw [← HXX.out] at g3
            go_wp2_with (at_builtin; refine app_one rfl _ _ 24 rfl tabI rfl (by decide) w.heap.size _ ((P ++ [n]).map (.int .i64)) rfl (HL3.out.below (below_alloc _ _)) _ (.int .i64 x) rfl rfl (by simp [go_sem]) (by simp; omega) (by have := HB3.out.size; simp; omega) ?_)
            intro v4 w4 hbl4 hb4
            have HB4 := Lib.hid ((HB3.out.alloc HB3.out.size _).trans hb4)
            have HL4 : Hid (Bld 2 w4 w.heap.size v4 (((P ++ [n]) ++ [x]).map (.int .i64))) := Lib.hid (by have h := hbl4; simpa using h)
            clear hbl4 hb4
            have HLF : Hid (Bld 2 w4 w.heap.size v4 ((putTo xs n (k + 1)).map (.int .i64))) := Lib.hid (by rw [HQ.out.2]; exact HL4.out)
            go_wp2
            go_roundw
            case rel => first | exact ⟨k + 1, by omega, by go_num, by rw [HQ.out.1], HB4, HLF⟩ | ((repeat apply Exists.intro); refine ⟨?_, rfl⟩; exact ⟨k + 1, by omega, by go_num, by rw [HQ.out.1], HB4, HLF⟩)
            case measure => simp [intOf]; omega
          · have HQ : Hid (doneTo xs n (k + 1) = true ∧ putTo xs n (k + 1) = P ++ [x]) := Lib.hid (by
              have h := putTo_now hlt hd (by rw [← HXX.out]; exact hnx)
              rw [← HXX.out, ← HPP.out, if_neg hn2] at h; exact h)
            clear hd
            go_wp2_with (at_builtin; refine app_one rfl _ _ 24 rfl tabI rfl (by decide) w.heap.size _ (P.map (.int .i64)) rfl (HBL.out.below (below_alloc _ _)) _ (.int .i64 x) rfl rfl (by simp [go_sem]) (by simp; omega) (by have := HBR.out.size; simp; omega) ?_)
            intro v4 w4 hbl4 hb4
            have HB4 := Lib.hid ((HBR.out.alloc HBR.out.size _).trans hb4)
            have HL4 : Hid (Bld 2 w4 w.heap.size v4 ((P ++ [x]).map (.int .i64))) := Lib.hid (by have h := hbl4; simpa using h)
            clear hbl4 hb4
            have HLF : Hid (Bld 2 w4 w.heap.size v4 ((putTo xs n (k + 1)).map (.int .i64))) := Lib.hid (by rw [HQ.out.2]; exact HL4.out)
            go_wp2
            go_roundw
            case rel => first | exact ⟨k + 1, by omega, by go_num, by rw [HQ.out.1], HB4, HLF⟩ | ((repeat apply Exists.intro); refine ⟨?_, rfl⟩; exact ⟨k + 1, by omega, by go_num, by rw [HQ.out.1], HB4, HLF⟩)
            case measure => simp [intOf]; omega
        · have HQ : Hid (doneTo xs n (k + 1) = false ∧ putTo xs n (k + 1) = P ++ [x]) := Lib.hid (by
            have h := putTo_wait hlt hd (by rw [← HXX.out]; exact hnx)
            rw [← HXX.out, ← HPP.out] at h; exact h)
          clear hd
          go_wp2_with (at_builtin; refine app_one rfl _ _ 24 rfl tabI rfl (by decide) w.heap.size _ (P.map (.int .i64)) rfl (HBL.out.below (below_alloc _ _)) _ (.int .i64 x) rfl rfl (by simp [go_sem]) (by simp; omega) (by have := HBR.out.size; simp; omega) ?_)
          intro v4 w4 hbl4 hb4
          have HB4 := Lib.hid ((HBR.out.alloc HBR.out.size _).trans hb4)
          have HL4 : Hid (Bld 2 w4 w.heap.size v4 ((P ++ [x]).map (.int .i64))) := Lib.hid (by have h := hbl4; simpa using h)
          clear hbl4 hb4
          have HLF : Hid (Bld 2 w4 w.heap.size v4 ((putTo xs n (k + 1)).map (.int .i64))) := Lib.hid (by rw [HQ.out.2]; exact HL4.out)
          go_wp2
          go_roundw
          case rel => first | exact ⟨k + 1, by omega, by go_num, by rw [HQ.out.1], HB4, HLF⟩ | ((repeat apply Exists.intro); refine ⟨?_, rfl⟩; exact ⟨k + 1, by omega, by go_num, by rw [HQ.out.1], HB4, HLF⟩)
          case measure => simp [intOf]; omega
      · have HQ : Hid (doneTo xs n (k + 1) = true ∧ putTo xs n (k + 1) = P ++ [x]) := Lib.hid (by
          have h := putTo_done hlt hd
          rw [← HXX.out, ← HPP.out] at h; exact h)
        clear hd
        go_wp2_with (at_builtin; refine app_one rfl _ _ 24 rfl tabI rfl (by decide) w.heap.size _ (P.map (.int .i64)) rfl (HBL.out.below (below_alloc _ _)) _ (.int .i64 x) rfl rfl (by simp [go_sem]) (by simp; omega) (by have := HBR.out.size; simp; omega) ?_)
        intro v4 w4 hbl4 hb4
        have HB4 := Lib.hid ((HBR.out.alloc HBR.out.size _).trans hb4)
        have HL4 : Hid (Bld 2 w4 w.heap.size v4 ((P ++ [x]).map (.int .i64))) := Lib.hid (by have h := hbl4; simpa using h)
        clear hbl4 hb4
        have HLF : Hid (Bld 2 w4 w.heap.size v4 ((putTo xs n (k + 1)).map (.int .i64))) := Lib.hid (by rw [HQ.out.2]; exact HL4.out)
        go_wp2
        go_roundw
        case rel => first | exact ⟨k + 1, by omega, by go_num, by rw [HQ.out.1], HB4, HLF⟩ | ((repeat apply Exists.intro); refine ⟨?_, rfl⟩; exact ⟨k + 1, by omega, by go_num, by rw [HQ.out.1], HB4, HLF⟩)
        case measure => simp [intOf]; omega
    · have e : k = xs.length := by omega
      have HE := Lib.hid (putTo_end (xs := xs) (n := n))
      have hpl2 := putS_len xs n
      rw [e] at HBL hpl ⊢
      clear e hk hlt
      cases hd : doneTo xs n xs.length
      · have HQ : Hid (putS xs n = putTo xs n xs.length ++ [n]) := Lib.hid (by rw [HE.out, hd]; rfl)
        clear hd HE
        go_wp2_with (at_builtin; refine app_one rfl _ _ 24 rfl tabI rfl (by decide) w.heap.size _ ((putTo xs n xs.length).map (.int .i64)) rfl (HBL.out.below (below_alloc _ _)) _ (.int .i64 n) rfl rfl (by simp [go_sem]) (by simp; omega) (by have := HBR.out.size; simp; omega) ?_)
        intro v4 w4 hbl4 hb4
        have HB4 := Lib.hid ((HBR.out.alloc HBR.out.size _).trans hb4)
        have HL4 : Hid (Bld 2 w4 w.heap.size v4 ((putTo xs n xs.length ++ [n]).map (.int .i64))) := Lib.hid (by have h := hbl4; simpa using h)
        clear hbl4 hb4
        go_wp2
        go_ret
        rw [HQ.out]
        exact RetD.ofBld HL4.out (by rw [← HQ.out]; unfold maxLen; omega) HB4.out
      · have HQ : Hid (putS xs n = putTo xs n xs.length) := Lib.hid (by rw [HE.out, hd]; rfl)
        clear hd HE
        go_wp2
        go_ret
        rw [HQ.out]
        exact RetD.ofBld HBL.out (by rw [← HQ.out]; unfold maxLen; omega) HBR.out
set_option maxHeartbeats 1000000 in
theorem sorted_c (B g c : Nat) (l : List Int) (w : World) (h : Bld 2 w B (.slice (some ⟨g, 0, none⟩) l.length c) (l.map (.int .i64))) (hl : l.length ≤ 1000) (hB : B ≤ w.heap.size) :
    Calls Try.prog 75 #[.slice (some ⟨g, 0, none⟩) l.length c] w (fun e w' => ∃ v F, e = .returned v ∧ Below B w w' ∧ Ow w' (dI (Lib.compact (l.mergeSort fun x y => decide (x ≤ y)))) v F ∧ F.Nodup ∧ ∀ x, x ∈ F → B ≤ x) := by
  obtain ⟨s, hs⟩ : ∃ s, s = l.mergeSort fun x y => decide (x ≤ y) := ⟨_, rfl⟩
  have hsl : s.length = l.length := by rw [hs]; exact List.length_mergeSort _
  have hlen : (Lib.compact s).length ≤ s.length := by
    rw [Lib.compact, Lib.compactUpTo, List.length_map]
    exact Nat.le_trans (List.length_filter_le _ _) (by simp)
  have hrow := h
  obtain ⟨_, h2⟩ := h
  rcases h2 with ⟨h1, _⟩ | ⟨g', cap, cur, h1, hBg, hg, hn, hcap, hsz, htake⟩
  · cases h1
  rw [List.length_map] at h1
  cases h1
  simp only [List.length_map, Nat.mul_one] at hn hsz htake
  have hgl : g < w.heap.size := (Array.getElem?_eq_some_iff.1 hg).1
  have HS := Lib.hid (AnyM.slices_Sort_int Try.sortL g 0 c l w (holds_of_blockI hg htake) hgl (by omega))
  have HSS : Hid (∀ n os, World.ownsRow (Sort.grow (Sort.putRow (Value.int .i64) (Sort.ahead w n) g 0 s.toArray) os) B 2 1 (.slice (some ⟨g, 0, none⟩) l.length c) l.length (s.map (.int .i64))) := Lib.hid (fun n os => ownsRow_sortedI hsl hBg hg hn hcap (by rw [hsz, Nat.mul_one]))
  have HBS : Hid (∀ n os, Below B w (Sort.grow (Sort.putRow (Value.int .i64) (Sort.ahead w n) g 0 s.toArray) os)) := Lib.hid (fun n os => (grown_chg (v := .slice (some ⟨g, 0, none⟩) l.length c) (grownBy_sortedI _)).below hB (fun x hx => by have := mem_ob.1 hx; simp [Value.ownBlock] at this; omega))
  rw [← hs] at HS ⊢
  have HSL := Lib.hid hsl
  have HLN := Lib.hid hlen
  clear hs hsl hlen htake hg hsz hrow
  go_enter Try.func75, Try.ntmps75
  go_wp2_with fail
  refine HS.out.mono ?_
  rintro e w1 ⟨rfl, n1, os1, rfl⟩
  have hr1 := HSS.out n1 os1
  have hb1 := HBS.out n1 os1
  obtain ⟨w1, hw1⟩ : ∃ wz, wz = Sort.grow (Sort.putRow (Value.int .i64) (Sort.ahead w n1) g 0 s.toArray) os1 := ⟨_, rfl⟩
  rw [← hw1] at hr1 hb1 ⊢
  clear hw1 HSS HBS
  rcases hr1.2 with ⟨h1, _⟩ | ⟨g', cap, cur1, h1, hBg1, hg1, hn1, hcap1, hsz1, htake1⟩
  · cases h1
  cases h1
  simp only [Nat.mul_one] at hsz1 htake1
  have HC := Lib.hid (AnyG.slices_Compact_int Try.compactL g 0 c s w1 (holds_of_blockI hg1 (by rw [HSL.out]; exact htake1)) (by have := HSL.out; omega) (by have := HSL.out; omega))
  rw [HSL.out] at HC
  have HR2 : Hid (∀ q, World.ownsRow (Sort.putRow (Value.int .i64) (Sort.ahead w1 q) g 0 (Lib.compact s ++ List.replicate (l.length - (Lib.compact s).length) 0).toArray) B 2 1 (.slice (some ⟨g, 0, none⟩) l.length c) l.length ((Lib.compact s ++ List.replicate (l.length - (Lib.compact s).length) 0).map (.int .i64))) := Lib.hid (fun q => by
    have h := ownsRow_sortedI (n := q) (os := #[]) (ss := l) (ts := Lib.compact s ++ List.replicate (l.length - (Lib.compact s).length) 0) (by have := HLN.out; have := HSL.out; simp; omega) hBg1 hg1 hn1 hcap1 (by rw [hsz1, Nat.mul_one])
    rwa [Sort.grow_empty] at h)
  have HB2 : Hid (∀ q, Below B w (Sort.putRow (Value.int .i64) (Sort.ahead w1 q) g 0 (Lib.compact s ++ List.replicate (l.length - (Lib.compact s).length) 0).toArray)) := Lib.hid (fun q => by
    have h := (grown_chg (v := .slice (some ⟨g, 0, none⟩) l.length c) (grownBy_sortedI (w := w1) (n := q) (os := #[]) (Lib.compact s ++ List.replicate (l.length - (Lib.compact s).length) 0).toArray)).below (Nat.le_trans hB hb1.size) (fun x hx => by have := mem_ob.1 hx; simp [Value.ownBlock] at this; omega)
    rw [Sort.grow_empty] at h
    exact hb1.trans h)
  clear hr1 hg1 hsz1 htake1
  go_wp2_with fail
  refine HC.out.mono ?_
  rintro e w2 ⟨rfl, q, rfl⟩
  have hr2 := HR2.out q
  have hb2 := HB2.out q
  rw [List.map_append] at hr2
  have hle : (Lib.compact s).length ≤ l.length := by have := HLN.out; have := HSL.out; omega
  have hbd : Bld 2 (Sort.putRow (Value.int .i64) (Sort.ahead w1 q) g 0 (Lib.compact s ++ List.replicate (l.length - (Lib.compact s).length) 0).toArray) B (.slice (some ⟨g, 0, none⟩) l.length c) ((Lib.compact s).map (Value.int .i64) ++ (List.replicate (l.length - (Lib.compact s).length) 0).map (Value.int .i64)) := by
    have e : ((Lib.compact s).map (Value.int .i64) ++ (List.replicate (l.length - (Lib.compact s).length) 0).map (Value.int .i64)).length = l.length := by simp; omega
    unfold Bld
    rw [e]
    exact hr2
  obtain ⟨a, c2, F, e2, ho, hnd, hF⟩ := hbd.first.ow (by unfold maxLen; omega)
  have e3 : Value.slice (some ⟨g, 0, none⟩) ((Lib.compact s).map (Value.int .i64)).length c = .slice (some ⟨g, 0, none⟩) (Lib.compact s).length c := by rw [List.length_map]
  rw [e3] at e2
  cases e2
  have HO := Lib.hid ho
  have HB3 := Lib.hid hb2
  have HF := Lib.hid hF
  clear HR2 HB2 hr2 hb2 ho hF e3 hbd hle
  go_wp2
  go_ret
  exact ⟨_, F, rfl, HB3.out, HO.out, hnd, HF.out⟩
end Go.Proofs.Ytncndnholheemaa
