/- Contracts of the functions on programs: valid, equal, copied, compared. -/
import Derived.Test.YtbnikblhnibgiaaDoorD
import Derived.Test.YtbnikblhnibgiaaDoorP
namespace Go.Proofs.YtbnikblhnibgiaaDoor
open Go.RowKit

theorem tabO : Tab Tryd.prog 34 60 (.agg #[.int .i64 0, .int .i64 0, .int .i64 0, .int .i64 0]) 4 32 := ⟨by kernel_rfl, by kernel_rfl⟩
theorem ixO {S : Nat → Prop} {w : World} {a : Option Addr} {os : List Ord} (h : SlO S w a os) (c : Nat) (i : Int) (w' : World) (h0 : 0 ≤ i) (h1 : i < os.length) :
    (Instr.indexAt 34 (.slice a os.length c) (.int .i64 i)).run Tryd.prog w' = .ok (.pointer (some (adr a (i.toNat * 4)))) w' := ix_of (P := Tryd.prog) tabO.under tabO.size (fun h0 => (h.ptr h0).2) c i w' h0 h1
theorem size_ord_c (a : Option Addr) (n c : Nat) (w : World) (_hn : n ≤ maxLen) : Calls Tryd.prog 80 #[.slice a n c] w (RetP w (.int .i64 n)) := by
  unfold maxLen at _hn
  go_enter Tryd.func80, Tryd.ntmps80
  go_wp2
  go_ret
  exact ⟨rfl, rfl⟩
set_option maxHeartbeats 400000 in
theorem indexFuncO_c (f : FuncId) (caps : Array Value) (p : Ord → Bool) (hcall : ∀ args w, (callFunc f args).run Tryd.prog w = .ok (.enter f args) w)
   (S : Nat → Prop) (a : Option Addr) (c : Nat) (xs : List Ord) (w : World) (hx : SlO S w a xs)
   (hf : Hid (∀ x wx, Below w.heap.size w wx → Calls Tryd.prog f (#[Ord.val x] ++ caps) wx (RetV wx (.bool (p x))))) :
    Calls Tryd.prog 95 #[.slice a xs.length c, .func (.func f) #[] caps] w (RetV w (.int .i64 (idxO p xs))) := by
  have l1 := hx.len
  unfold maxLen at l1
  have i1 := ixO hx c
  go_enter Tryd.func95, Tryd.ntmps95
  go_wp2
  go_loopw [5, 8] (fun _ i wr => ∃ k : Nat, k ≤ xs.length ∧ i = .int .i64 k ∧ Below w.heap.size w wr ∧ (∀ j, j < k → p (nthO xs j) = false)) (fun _ i _ => xs.length - (intOf i).toNat)
  case atStart => exact ⟨0, Nat.zero_le _, rfl, Below.refl _ _, by omega⟩
  case round =>
      obtain ⟨k, hk, rfl, hb, hj⟩ := hrel
      have HJ := Lib.hid hj
      clear hj
      by_cases hlt : k < xs.length
      · have hx' := hx.below hb
        have g0 := hx'.c0 k hlt
        have g1 := hx'.c1 k hlt
        have g2 := hx'.c2 k hlt
        have g3 := hx'.c3 k hlt
        go_wp2_with fail
        refine (hf.out (nthO xs k) wr hb).mono ?_
        rintro e w' ⟨rfl, hb'⟩
        have hbb := bnext hb hb' (Nat.le_refl _)
        clear g0 g1 g2 g3 hx'
        cases hp : p (nthO xs k)
        · have hp' := Lib.hid hp
          clear hp
          go_wp2
          go_roundw
          case rel => exact ⟨k + 1, by omega, by go_num, hbb, upto HJ.out hp'.out⟩
          case measure => simp [intOf]; omega
        · go_wp2
          go_ret
          exact ⟨ret_int (idxO_at hlt HJ.out hp).symm, hbb⟩
      · go_wp2
        go_ret
        have e : k = xs.length := by omega
        exact ⟨ret_int (idxO_none (e ▸ HJ.out)).symm, hb⟩
theorem containsFuncO_c (f : FuncId) (caps : Array Value) (p : Ord → Bool) (hcall : ∀ args w, (callFunc f args).run Tryd.prog w = .ok (.enter f args) w)
   (S : Nat → Prop) (a : Option Addr) (c : Nat) (xs : List Ord) (w : World) (hx : SlO S w a xs)
   (hf : Hid (∀ x wx, Below w.heap.size w wx → Calls Tryd.prog f (#[Ord.val x] ++ caps) wx (RetV wx (.bool (p x))))) :
    Calls Tryd.prog 81 #[.slice a xs.length c, .func (.func f) #[] caps] w (RetV w (.bool (anyO p xs))) := by
  go_enter Tryd.func81, Tryd.ntmps81
  go_wp2_with fail
  refine (indexFuncO_c f caps p hcall S a c xs w hx hf).mono ?_
  rintro e w' ⟨rfl, hb⟩
  go_wp2
  go_ret
  exact ⟨ret_bool (idxO_any p xs), hb⟩
set_option maxHeartbeats 800000 in
theorem validProgram1_c (R : Int) (n : Nat) (o : Ord) (p q : Nat) (w : World) (hR : 1 ≤ R ∧ R ≤ 3) (_hn : n ≤ 6) (hp0 : w.cell? ⟨p, 0, none⟩ = some (.int .i64 R)) (hq : w.cell? ⟨q, 0, none⟩ = some (.int .i64 n)) :
    Calls Tryd.prog 82 #[.agg #[.int .i64 o.op, .int .i64 o.reg, .int .i64 o.to, .int .i64 o.els], .pointer (some ⟨p, 0, none⟩), .pointer (some ⟨q, 0, none⟩)] w (RetV w (.bool (!okOrd R n o))) := by
  obtain ⟨op, reg, to, els⟩ := o
  have hpl : p < w.heap.size := World.block_lt_of_cell? w _ hp0
  have hql : q < w.heap.size := World.block_lt_of_cell? w _ hq
  by_cases h : op = 1 ∨ op = 2
  · have h' : (op == 1) = true ∨ ((op == 1) = false ∧ (op == 2) = true) := by
      rcases h with rfl | rfl
      · exact .inl rfl
      · exact .inr ⟨rfl, rfl⟩
    cases b1 : inRg reg 0 (R - 1) <;> cases b2 : inRg to 0 n <;> cases b3 : inRg els 0 n
    all_goals
      have B1 := Lib.hid b1
      have B2 := Lib.hid b2
      have B3 := Lib.hid b3
      have e : okOrd R n ⟨op, reg, to, els⟩ = (inRg reg 0 (R - 1) && inRg to 0 n && inRg els 0 n) := by simp [okOrd, h]
      rw [e, b1, b2, b3]
      clear e b1 b2 b3 h
      rcases h' with h1 | ⟨h1, h2⟩
      all_goals
        go_enter Tryd.func82, Tryd.ntmps82
        go_wp2_with fail
        refine (inRange_c _ _ _ _).mono ?_
        rintro e w' ⟨rfl, rfl⟩
        rw [B1.out]
        go_wp2_with fail
        first
          | (go_ret; exact ⟨rfl, below_alloc _ _⟩)
          | (refine (inRange_c _ _ _ _).mono ?_
             rintro e w' ⟨rfl, rfl⟩
             rw [B2.out]
             go_wp2_with fail
             first
               | (go_ret; exact ⟨rfl, below_alloc _ _⟩)
               | (refine (inRange_c _ _ _ _).mono ?_
                  rintro e w' ⟨rfl, rfl⟩
                  rw [B3.out]
                  go_wp2
                  go_ret
                  exact ⟨rfl, below_alloc _ _⟩))
  · have h1 : (op == 1) = false := by simp; omega
    have h2 : (op == 2) = false := by simp; omega
    have e : okOrd R n ⟨op, reg, to, els⟩ = decide (op = 3 ∧ reg = 0 ∧ to = 0 ∧ els = 0) := by simp [okOrd, h]
    rw [e]
    clear e h
    go_enter Tryd.func82, Tryd.ntmps82
    go_wp2
    all_goals
      go_ret
      refine ⟨ret_bool ?_, below_alloc _ _⟩
      symm
      simp [*]
set_option maxHeartbeats 800000 in
theorem implValidProgram_c (R : Int) (S : Nat → Prop) (a : Option Addr) (c : Nat) (os : List Ord) (w : World) (hx : SlO S w a os) :
    Calls Tryd.prog 64 #[.agg #[.int .i64 R, .slice a os.length c]] w (RetV w (.bool (validProgS R os))) := by
  have l1 := hx.len
  have L1 := Lib.hid l1
  unfold maxLen at l1
  cases h1 : inRg R 1 3
  · have H1 := Lib.hid h1
    have e : validProgS R os = false := by simp [validProgS, h1]
    rw [e]; clear e h1
    go_enter Tryd.func64, Tryd.ntmps64
    go_wp2_with fail
    refine (size_ord_c _ _ _ _ L1.out).mono ?_
    rintro e w' ⟨rfl, rfl⟩
    go_wp2_with fail
    refine (inRange_c _ _ _ _).mono ?_
    rintro e w' ⟨rfl, rfl⟩
    rw [H1.out]
    go_wp2
    go_ret
    exact ⟨rfl, ((Below.refl _ _).alloc (Nat.le_refl _) _).alloc (by simp) _⟩
  · have H1 := Lib.hid h1
    cases h2 : inRg os.length 1 6
    · have H2 := Lib.hid h2
      have e : validProgS R os = false := by simp [validProgS, h2]
      rw [e]; clear e h1 h2
      go_enter Tryd.func64, Tryd.ntmps64
      go_wp2_with fail
      refine (size_ord_c _ _ _ _ L1.out).mono ?_
      rintro e w' ⟨rfl, rfl⟩
      go_wp2_with fail
      refine (inRange_c _ _ _ _).mono ?_
      rintro e w' ⟨rfl, rfl⟩
      rw [H1.out]
      go_wp2_with fail
      refine (inRange_c _ _ _ _).mono ?_
      rintro e w' ⟨rfl, rfl⟩
      rw [H2.out]
      go_wp2
      go_ret
      exact ⟨rfl, ((Below.refl _ _).alloc (Nat.le_refl _) _).alloc (by simp) _⟩
    · have H2 := Lib.hid h2
      have hR : 1 ≤ R ∧ R ≤ 3 := by simpa [inRg] using h1
      have hn : os.length ≤ 6 := by simp [inRg] at h2; omega
      have e : validProgS R os = allO (okOrd R os.length) os := by simp [validProgS, h1, h2]
      rw [e]; clear e h1 h2
      have hb1 : Below w.heap.size w ((w.alloc (.cells #[.int .i64 R, .slice a os.length c] 36)).alloc (.cells #[.int .i64 os.length] 2)) := ((Below.refl _ _).alloc (Nat.le_refl _) _).alloc (by simp) _
      have HC := containsFuncO_c 82 #[.pointer (some ⟨w.heap.size, 0, none⟩), .pointer (some ⟨w.heap.size + 1, 0, none⟩)] (fun o => !okOrd R os.length o) (callFunc_run Tryd.func82 (by kernel_rfl) rfl) S a c os _ (hx.below hb1)
        (Lib.hid fun x wx hb => validProgram1_c R os.length x w.heap.size (w.heap.size + 1) wx hR hn (by rw [hb.cell (p := ⟨w.heap.size, 0, none⟩) (by simp; omega)]; simp [go_sem]) (by rw [hb.cell (p := ⟨w.heap.size + 1, 0, none⟩) (by simp)]; simp [go_sem]))
      rw [anyO_not] at HC
      have HCl := Lib.hid HC
      have HB := Lib.hid hb1
      clear HC hb1 hR
      go_enter Tryd.func64, Tryd.ntmps64
      go_wp2_with fail
      refine (size_ord_c _ _ _ _ L1.out).mono ?_
      rintro e w' ⟨rfl, rfl⟩
      go_wp2_with fail
      refine (inRange_c _ _ _ _).mono ?_
      rintro e w' ⟨rfl, rfl⟩
      rw [H1.out]
      go_wp2_with fail
      refine (inRange_c _ _ _ _).mono ?_
      rintro e w' ⟨rfl, rfl⟩
      rw [H2.out]
      go_wp2_with fail
      refine HCl.out.mono ?_
      rintro e w' ⟨rfl, hb2⟩
      go_wp2
      go_ret
      exact ⟨ret_bool (by simp), bnext HB.out hb2 (Nat.le_refl _)⟩
end Go.Proofs.YtbnikblhnibgiaaDoor
