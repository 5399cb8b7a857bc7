/- Contracts of the functions on bags that look at two bags, add, scale and weigh. -/
import Derived.Test.YtdcpdipakglnnaaC
import Derived.Test.YtdcpdipakglnnaaG
namespace Go.Proofs.Ytdcpdipakglnnaa
open Go.RowKit

set_option maxHeartbeats 400000 in
theorem isWithin_c (S : Nat → Prop) (a b : Option Addr) (c c' : Nat) (xs ys : List Int) (w : World) (hx : SlI S w a xs) (hy : SlI S w b ys) (hl : xs.length ≤ ys.length) :
    Calls Try.prog 185 #[.slice a xs.length c, .slice b ys.length c'] w (RetP w (.bool (withinS xs ys))) := by
  have l1 := hx.len
  unfold maxLen at l1
  have i1 := hx.ix tabI.under tabI.size c
  have i2 := hy.ix tabI.under tabI.size c'
  go_enter Try.func185, Try.ntmps185
  go_wp2
  go_loopw [5, 6, 9] (fun _ _ i wr => ∃ k : Nat, k ≤ xs.length ∧ i = .int .i64 k ∧ w = wr ∧ (∀ j, j < k → nth xs j ≤ nth ys j)) (fun _ _ i _ => xs.length - (intOf i).toNat)
  case atStart => exact ⟨0, Nat.zero_le _, rfl, rfl, by omega⟩
  case round =>
      obtain ⟨k, hk, rfl, rfl, hj⟩ := hrel
      have HJ := Lib.hid hj
      clear hj
      by_cases hlt : k < xs.length
      · have g1 := hx.cell k hlt
        have g2 := hy.cell k (by omega)
        have k2 : (k : Int) < ys.length := by omega
        by_cases hc : nth ys k < nth xs k
        · go_wp2
          go_ret
          exact ⟨ret_bool (withinS_false hlt hc).symm, rfl⟩
        · go_wp2
          go_roundw
          case rel => exact ⟨k + 1, by omega, by go_num, trivial, upto HJ.out (by omega)⟩
          case measure => simp [intOf]; omega
      · go_wp2
        go_ret
        have e : k = xs.length := by omega
        exact ⟨ret_bool (withinS_true (e ▸ HJ.out)).symm, rfl⟩
set_option maxHeartbeats 400000 in
theorem l01Within_c (S : Nat → Prop) (a b : Option Addr) (c c' : Nat) (xs ys : List Int) (w : World) (hx : SlI S w a xs) (hy : SlI S w b ys) (hl : xs.length ≤ ys.length) :
    Calls Try.prog 209 #[.slice a xs.length c, .slice b ys.length c'] w (RetQ w (.bool (withinS xs ys))) := by
  have l1 := hx.len
  unfold maxLen at l1
  have i1 := hx.ix tabI.under tabI.size c
  have i2 := hy.ix tabI.under tabI.size c'
  go_enter Try.func209, Try.ntmps209
  go_wp2
  go_loopw [5] (fun i wr => ∃ k n : Nat, k ≤ xs.length ∧ i = .int .i64 k ∧ wr = w.drewN n ∧ (∀ j, j < k → nth xs j ≤ nth ys j)) (fun i _ => xs.length - (intOf i).toNat)
  case atStart => exact ⟨0, 0, Nat.zero_le _, rfl, rfl, by omega⟩
  case round =>
      obtain ⟨k, n, hk, rfl, rfl, hj⟩ := hrel
      have HJ := Lib.hid hj
      clear hj
      by_cases hlt : k < xs.length
      · have g1 := hx.cell k hlt
        have g2 := hy.cell k (by omega)
        have k2 : (k : Int) < ys.length := by omega
        by_cases hc : nth ys k < nth xs k
        · go_wp2
          go_quiet (fail)
          go_wp2
          go_ret
          exact ⟨ret_bool (withinS_false hlt hc).symm, _, by rw [World.drewN_drewN]⟩
        · go_wp2
          go_quiet (fail)
          go_wp2
          go_roundw
          case rel => exact ⟨k + 1, _, by omega, by go_num, rfl, upto HJ.out (by omega)⟩
          case measure => simp [intOf]; omega
      · go_wp2
        go_ret
        have e : k = xs.length := by omega
        exact ⟨ret_bool (withinS_true (e ▸ HJ.out)).symm, n, rfl⟩
set_option maxHeartbeats 400000 in
theorem both_c (f : FuncId) (caps : Array Value) (g : Int → Int → Int) (hcall : ∀ args w, (callFunc f args).run Try.prog w = .ok (.enter f args) w)
   (S : Nat → Prop) (a b : Option Addr) (c c' : Nat) (xs ys : List Int) (w : World) (hx : SlI S w a xs) (hy : SlI S w b ys) (hl : xs.length ≤ ys.length) (l1 : xs.length ≤ 4294967296)
   (hf : Hid (∀ x y w', Below w.heap.size w w' → Calls Try.prog f (#[.int .i64 x, .int .i64 y] ++ caps) w' (RetP w' (.int .i64 (g x y))))) :
    Calls Try.prog 150 #[.slice a xs.length c, .slice b ys.length c', .func (.func f) #[] caps] w (RetD w (dI (zipF g xs ys xs.length))) := by
  have i1 := hx.ix tabI.under tabI.size c
  have i2 := hy.ix tabI.under tabI.size c'
  go_enter Try.func150, Try.ntmps150
  go_wp2
  go_loopw [7, 8, 9, 13] (fun v _ _ i wr => ∃ k : Nat, k ≤ xs.length ∧ i = .int .i64 k ∧ Below w.heap.size w wr ∧ Bld 2 wr w.heap.size v ((zipF g xs ys k).map (.int .i64))) (fun _ _ _ i _ => xs.length - (intOf i).toNat)
  case atStart => exact ⟨0, Nat.zero_le _, rfl, (Below.refl _ _).alloc (Nat.le_refl _) _, Bld.empty 2 w _ (Nat.le_refl _)⟩
  case round =>
      obtain ⟨k, hk, rfl, hb, hbl⟩ := hrel
      by_cases hlt : k < xs.length
      · have g1 := (hx.below hb).cell k hlt
        have g2 := (hy.below hb).cell k (by omega)
        have k2 : (k : Int) < ys.length := by omega
        go_wp2_with fail
        refine (hf.out _ _ _ hb).mono ?_
        rintro e w' ⟨rfl, rfl⟩
        have hbl' := hbl.below (below_alloc wr (.cells #[.int .i64 (g (nth xs k) (nth ys k))] 2))
        have hz := hb.size
        have HB := Lib.hid hb
        clear g1 g2 hb
        go_wp2_with (at_builtin; refine app_one rfl _ _ 23 rfl tabI rfl (by decide) w.heap.size _ _ rfl hbl' wr.heap.size (.int .i64 (g (nth xs k) (nth ys k))) rfl rfl ?c1 ?c2 ?c3 ?_)
        case c1 => simp
        case c2 => simp [zipF_len]; omega
        case c3 => simp; omega
        intro v' w1 hbl1 hb1
        rw [zipF_succ] at hbl1
        go_wp2
        go_roundw
        case rel => exact ⟨k + 1, by omega, by go_num, (HB.out.alloc hz _).trans hb1, hbl1⟩
        case measure => simp [intOf]; omega
      · go_wp2
        go_ret
        obtain rfl : k = xs.length := by omega
        exact RetD.ofBld hbl (by rw [zipF_len]; unfold maxLen; omega) hb
theorem plus1_c (x y f : Int) (p : Addr) (w : World) (h : w.cell? p = some (.int .i64 f)) : Calls Try.prog 151 #[.int .i64 x, .int .i64 y, .pointer (some p)] w (RetP w (.int .i64 (addW f x y))) := by
  go_enter Try.func151, Try.ntmps151
  go_wp2
  go_ret
  exact ⟨rfl, rfl⟩
set_option maxHeartbeats 400000 in
theorem plus_c (S : Nat → Prop) (a b : Option Addr) (c c' : Nat) (xs ys : List Int) (f : Int) (w : World) (hx : SlI S w a xs) (hy : SlI S w b ys) (hl : xs.length ≤ ys.length) (l1 : xs.length ≤ 4294967296) :
    Calls Try.prog 85 #[.slice a xs.length c, .slice b ys.length c', .int .i64 f] w (RetD w (dI (plusS xs ys f))) := by
  have hb0 := below_alloc w (.cells #[.int .i64 f] 2)
  have HC := Lib.hid (both_c 151 #[.pointer (some ⟨w.heap.size, 0, none⟩)] (addW f) (callFunc_run Try.func151 (by kernel_rfl) rfl) S a b c c' xs ys _ (hx.below hb0) (hy.below hb0) hl l1
    (Lib.hid fun x y w' hb => plus1_c x y f ⟨w.heap.size, 0, none⟩ w' (by rw [hb.cell (p := ⟨w.heap.size, 0, none⟩) (by simp)]; simp)))
  have HB := Lib.hid hb0
  clear hb0
  go_enter Try.func85, Try.ntmps85
  go_wp2_with fail
  refine HC.out.mono ?_
  intro e w' h
  have h' := RetD.from HB.out h
  obtain ⟨v, F, rfl, h1⟩ := h'
  have H1 := Lib.hid h1
  clear h1 h
  go_wp2
  go_ret
  exact ⟨v, F, rfl, H1.out⟩
set_option maxHeartbeats 400000 in
theorem l01Plus_c (S : Nat → Prop) (a b : Option Addr) (c c' : Nat) (xs ys : List Int) (f : Int) (w : World) (hx : SlI S w a xs) (hy : SlI S w b ys) (hl : xs.length ≤ ys.length) (l1 : xs.length ≤ 4294967296) :
    Calls Try.prog 145 #[.slice a xs.length c, .slice b ys.length c', .int .i64 f] w (RetD w (dI (plusS xs ys f))) := by
  have i1 := hx.ix tabI.under tabI.size c
  have i2 := hy.ix tabI.under tabI.size c'
  go_enter Try.func145, Try.ntmps145
  go_wp2
  go_loopw [7, 8] (fun v i wr => ∃ k : Nat, k ≤ xs.length ∧ i = .int .i64 k ∧ Below w.heap.size w wr ∧ Bld 2 wr w.heap.size v ((zipF (addW f) xs ys k).map (.int .i64))) (fun _ i _ => xs.length - (intOf i).toNat)
  case atStart => exact ⟨0, Nat.zero_le _, rfl, (Below.refl _ _).alloc (Nat.le_refl _) _, Bld.empty 2 w _ (Nat.le_refl _)⟩
  case round =>
      obtain ⟨k, hk, rfl, hb, hbl⟩ := hrel
      by_cases hlt : k < xs.length
      · have g1 := (hx.below hb).cell k hlt
        have g2 := (hy.below hb).cell k (by omega)
        have k2 : (k : Int) < ys.length := by omega
        have hz := hb.size
        have HB := Lib.hid hb
        have HL := Lib.hid hbl
        clear hb hbl
        go_wp2_with fail
        have hbl' := fun o => HL.out.below (w' := wr.drew.alloc o) ((Below.refl _ _).drew.alloc (Nat.le_refl _) _)
        have hcl : (zipF (addW f) xs ys k).length < 4294967296 := by rw [zipF_len]; omega
        go_region_law (refine step_app rfl (.tmp 16) (.tmp 28) 23 rfl tabI rfl (by decide) w.heap.size _ _ rfl (hbl' _) wr.heap.size _ rfl rfl (by simp; rfl) (by simpa using hcl) (by simp; omega) ?_; intro v' w1 hbl1 hb1)
        all_goals
          rw [wrap_64, wrap_64, Int.mul_comm, show wrap64 (nth xs k + wrap64 (f * nth ys k)) = addW f (nth xs k) (nth ys k) from rfl, zipF_succ (addW f)] at hbl1
          clear hbl' g1 g2
          go_wp2
          go_roundw
          case rel => exact ⟨k + 1, by omega, by go_num, (HB.out.drew.alloc hz _).trans hb1, hbl1⟩
          case measure => simp [intOf]; omega
      · go_wp2
        go_ret
        obtain rfl : k = xs.length := by omega
        exact RetD.ofBld (xs := plusS xs ys f) hbl (by rw [plusS, zipF_len]; unfold maxLen; omega) hb
end Go.Proofs.Ytdcpdipakglnnaa
