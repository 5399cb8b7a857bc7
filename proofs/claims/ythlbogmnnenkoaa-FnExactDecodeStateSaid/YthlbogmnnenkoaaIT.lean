/- Whether a state is one of a program's system; IsTrapped: contracts. -/
import Derived.Test.YthlbogmnnenkoaaMI
namespace Go.Proofs.Ythlbogmnnenkoaa
open Go.RowKit

/-- A state of one living cell and so many kinds. -/
def staOk (K : Int) (al : List Bool) (bs : List (List Int)) (ar : List Int) : Bool := decide (al.length = 1) && nthB al 0 && decide (bs.length = 1) && regsOk K (nthR bs 0) && regsOk K ar
theorem staOk_ok {K : Int} {al : List Bool} {bs : List (List Int)} {ar : List Int} (h : staOk K al bs ar = true) : al.length = 1 ∧ bs.length = 1 ∧ ((nthR bs 0).length : Int) = K ∧ (ar.length : Int) = K ∧ small (nthR bs 0) ∧ small ar := by
  simp only [staOk, Bool.and_eq_true, decide_eq_true_eq] at h
  obtain ⟨⟨⟨⟨h1, _⟩, h2⟩, h3⟩, h4⟩ := h
  have a := regsOk_ok h3
  have b := regsOk_ok h4
  exact ⟨h1, h2, a.1, b.1, a.2, b.2⟩
theorem anyII_two (p : List Int → Bool) (x y : List Int) : anyII p [x, y] = (p x || p y) := by simp [anyII]
set_option maxHeartbeats 400000 in
theorem indexFuncII_w (f : FuncId) (caps : Array Value) (p : List Int → Bool) (hcall : ∀ args w, (callFunc f args).run Try.prog w = .ok (.enter f args) w)
   (S : Nat → Prop) (a : Option Addr) (c : Nat) (xs : List (List Int)) (w : World) (hx : SlII S w a xs)
   (hf : Hid (∀ j, j < xs.length → ∀ a' c' w', Below w.heap.size w w' → SlI S w' a' (nthR xs j) → Calls Try.prog f (#[.slice a' (nthR xs j).length c'] ++ caps) w' (RetV w' (.bool (p (nthR xs j)))))) :
    Calls Try.prog 254 #[.slice a xs.length c, .func (.func f) #[] caps] w (RetV w (.int .i64 (idxII p xs))) := by
  have l1 := hx.len
  unfold maxLen at l1
  have i1 := hx.ix tabII.under tabII.size c
  go_enter Try.func254, Try.ntmps254
  go_wp2
  go_loopw [5, 8] (fun _ i wr => ∃ k : Nat, k ≤ xs.length ∧ i = .int .i64 k ∧ Below w.heap.size w wr ∧ (∀ j, j < k → p (nthR xs j) = false)) (fun _ i _ => xs.length - (intOf i).toNat)
  case atStart => exact ⟨0, Nat.zero_le _, rfl, Below.refl _ _, by omega⟩
  case round =>
      obtain ⟨k, hk, rfl, hb, hj⟩ := hrel
      have HJ := Lib.hid hj
      have HB := Lib.hid hb
      clear hj hb
      by_cases hlt : k < xs.length
      · obtain ⟨a', c', g1, hs⟩ := (hx.below HB.out).cell k hlt
        have HC := Lib.hid (hf.out k hlt a' c' wr HB.out hs)
        clear hs
        go_wp2_with fail
        refine HC.out.mono ?_
        rintro e w' ⟨rfl, hb2⟩
        have HB2 := Lib.hid (bnext HB.out hb2 (Nat.le_refl _))
        clear hb2
        cases hp : p (nthR xs k)
        · have hp' := Lib.hid hp
          clear hp
          go_wp2
          go_roundw
          case rel => exact ⟨k + 1, by omega, by go_num, HB2.out, upto HJ.out hp'.out⟩
          case measure => simp [intOf]; omega
        · have HP := Lib.hid hp
          clear hp
          go_wp2
          go_ret
          exact ⟨ret_int (idxII_at hlt HJ.out HP.out).symm, HB2.out⟩
      · go_wp2
        go_ret
        have e : k = xs.length := by omega
        exact ⟨ret_int (idxII_none (e ▸ HJ.out)).symm, HB.out⟩
theorem containsFuncII_w (f : FuncId) (caps : Array Value) (p : List Int → Bool) (hcall : ∀ args w, (callFunc f args).run Try.prog w = .ok (.enter f args) w)
   (S : Nat → Prop) (a : Option Addr) (c : Nat) (xs : List (List Int)) (w : World) (hx : SlII S w a xs)
   (hf : Hid (∀ j, j < xs.length → ∀ a' c' w', Below w.heap.size w w' → SlI S w' a' (nthR xs j) → Calls Try.prog f (#[.slice a' (nthR xs j).length c'] ++ caps) w' (RetV w' (.bool (p (nthR xs j)))))) :
    Calls Try.prog 211 #[.slice a xs.length c, .func (.func f) #[] caps] w (RetV w (.bool (anyII p xs))) := by
  go_enter Try.func211, Try.ntmps211
  go_wp2_with fail
  refine (indexFuncII_w f caps p hcall S a c xs w hx hf).mono ?_
  rintro e w' ⟨rfl, hb⟩
  go_wp2
  go_ret
  exact ⟨ret_bool (idxII_any p xs), hb⟩
theorem isState11_c (n : Int) (w : World) : Calls Try.prog 220 #[.int .i64 n] w (RetP w (.bool (!cntOk n))) := by
  go_enter Try.func220, Try.ntmps220
  go_wp2_with fail
  refine (inRange_c _ _ _ _).mono ?_
  rintro e w' ⟨rfl, rfl⟩
  go_wp2
  go_ret
  exact ⟨rfl, rfl⟩

set_option maxHeartbeats 1000000 in
theorem isState1_c (R : Nat) (ao : Option Addr) (co : Nat) (os : List Ord) (mode : Int) (p q : Nat) (a : Option Addr) (c : Nat) (xs : List Int) (w : World) (ho : SlO Any w ao os) (hc : os.length ≤ co) (hpg : PgOk R os) (hx : SlI Any w a xs)
    (hp0 : w.cell? ⟨p, 0, none⟩ = some (.int .i64 R)) (hp1 : w.cell? ⟨p, 1, none⟩ = some (.slice ao os.length co)) (hq0 : w.cell? ⟨q, 0, none⟩ = some (.int .i64 mode)) :
    Calls Try.prog 218 #[.slice a xs.length c, .pointer (some ⟨p, 0, none⟩), .pointer (some ⟨q, 0, none⟩)] w (RetV w (.bool (!regsOk (kindsN R os mode : Nat) xs))) := by
  have l1 := hx.len
  have HS := Lib.hid (fun x : Wd w => callsP (size_int_c a xs.length c (wat x) l1))
  have HK := Lib.hid (fun x : Wd w => kinds_c R ao co os mode (wat x) (ho.below (wat_below x)) hc hpg)
  have HC := Lib.hid (fun x : Wd w => callsP (containsFuncI_c 220 #[] (fun n => !cntOk n) (callFunc_run Try.func220 (by kernel_rfl) rfl) Any a c xs (wat x) (hx.below (wat_below x)) (Lib.hid fun n => isState11_c n (wat x))))
  rw [anyB_not] at HC
  have q0 := wat_cell hp0
  have q1 := wat_cell hp1
  have q2 := wat_cell hq0
  obtain ⟨K, hK⟩ : ∃ K, K = kindsN R os mode := ⟨_, rfl⟩
  rw [← hK] at HK ⊢
  clear hx hp0 hp1 hq0 l1 hK ho hpg
  cases b1 : ((xs.length : Int) == (K : Int))
  · have e : (!regsOk K xs) = true := by simp [regsOk, b1]
    have b2 : ((xs.length : Int) != K) = true := by simpa using b1
    rw [e]
    clear e
    go_enter Try.func218, Try.ntmps218
    go_wp2
    refine wp_quiet_wd (by kernel_rfl) (by kernel_rfl) ?_
    repeat (go_big_quiet_step (first | with_reducible exact wdV (HS.out _) | with_reducible exact wdV (HK.out _) | with_reducible exact wdV (HC.out _)))
    refine wpQuiet_nil ?_
    rintro _ ⟨wq, rfl⟩
    go_wp2
    go_ret
    exact ⟨rfl, wat_below wq⟩
  · have e : (!regsOk K xs) = !allB cntOk xs := by simp [regsOk, b1]
    have b2 : ((xs.length : Int) != K) = false := by simpa using b1
    rw [e]
    clear e
    go_enter Try.func218, Try.ntmps218
    go_wp2
    refine wp_quiet_wd (by kernel_rfl) (by kernel_rfl) ?_
    repeat (go_big_quiet_step (first | with_reducible exact wdV (HS.out _) | with_reducible exact wdV (HK.out _) | with_reducible exact wdV (HC.out _)))
    refine wpQuiet_nil ?_
    rintro _ ⟨wq, rfl⟩
    go_wp2
    go_ret
    exact ⟨rfl, wat_below wq⟩
set_option maxHeartbeats 2000000 in
set_option maxRecDepth 100000 in
theorem isState_c (R : Nat) (ao : Option Addr) (co : Nat) (os : List Ord) (mode : Int) (aa ab ar : Option Addr) (ca cb cr : Nat) (al : List Bool) (bs : List (List Int)) (xs : List Int) (w : World) (ho : SlO Any w ao os) (hc : os.length ≤ co) (hpg : PgOk R os) (ha : SlB Any w aa al) (hb : SlII Any w ab bs) (hx : SlI Any w ar xs) :
    Calls Try.prog 121 #[.agg #[.int .i64 R, .slice ao os.length co], .int .i64 mode, .agg #[.slice aa al.length ca, .slice ab bs.length cb, .slice ar xs.length cr]] w (RetV w (.bool (staOk (kindsN R os mode : Nat) al bs xs))) := by
  have la := ha.len
  have lb := hb.len
  have lx := hx.len
  unfold maxLen at la lb
  have ia := ha.ix tabB.under tabB.size ca
  have ib := hb.ix tabII.under tabII.size cb
  by_cases n1 : al.length = 1
  rotate_left
  · have e : staOk (kindsN R os mode : Nat) al bs xs = false := by simp [staOk, n1]
    have b1 : ((al.length : Int) != 1) = true := by simp; omega
    rw [e]
    clear e ho hpg ha hb hx n1
    have hb0 : Below w.heap.size w (((w.alloc (.cells #[.int .i64 R, .slice ao os.length co] 30)).alloc (.cells #[.int .i64 mode] 2)).alloc (.cells #[.slice aa al.length ca, .slice ab bs.length cb, .slice ar xs.length cr] 64)) := ((((Below.refl _ _).alloc (Nat.le_refl _) _).alloc (by simp) _).alloc (by simp; omega) _)
    have HB0 := Lib.hid hb0
    clear hb0
    go_enter Try.func121, Try.ntmps121
    go_wp2
    go_ret
    exact ⟨rfl, HB0.out⟩
  obtain ⟨x0, rfl⟩ : ∃ x, al = [x] := by match al, n1 with | [x], _ => exact ⟨x, rfl⟩
  have ga := ha.cell 0 (by simp)
  have e0 : nthB [x0] 0 = x0 := rfl
  rw [e0] at ga
  have hga := World.block_lt_of_cell? w _ ga
  have ga0 : (((w.alloc (.cells #[.int .i64 R, .slice ao os.length co] 30)).alloc (.cells #[.int .i64 mode] 2)).alloc (.cells #[.slice aa 1 ca, .slice ab bs.length cb, .slice ar xs.length cr] 64)).cell? (adr aa 0) = _ := (Below.cell (p := adr aa 0) (((((Below.refl _ _).alloc (Nat.le_refl _) _).alloc (by simp) _).alloc (by simp; omega) _)) hga).trans ga
  simp only [List.length_singleton] at ia
  clear e0 n1
  cases x0
  · have e : staOk (kindsN R os mode : Nat) [false] bs xs = false := by simp [staOk, nthB]
    rw [e]
    clear e ho hpg ha hb hx
    have hb0 : Below w.heap.size w (((w.alloc (.cells #[.int .i64 R, .slice ao os.length co] 30)).alloc (.cells #[.int .i64 mode] 2)).alloc (.cells #[.slice aa 1 ca, .slice ab bs.length cb, .slice ar xs.length cr] 64)) := ((((Below.refl _ _).alloc (Nat.le_refl _) _).alloc (by simp) _).alloc (by simp; omega) _)
    have HB0 := Lib.hid hb0
    clear hb0
    go_enter Try.func121, Try.ntmps121
    go_wp2
    go_ret
    exact ⟨rfl, HB0.out⟩
  by_cases n2 : bs.length = 1
  rotate_left
  · have e : staOk (kindsN R os mode : Nat) [true] bs xs = false := by simp [staOk, n2]
    have b1 : ((bs.length : Int) != 1) = true := by simp; omega
    rw [e]
    clear e ho hpg ha hb hx n2
    have hb0 : Below w.heap.size w (((w.alloc (.cells #[.int .i64 R, .slice ao os.length co] 30)).alloc (.cells #[.int .i64 mode] 2)).alloc (.cells #[.slice aa 1 ca, .slice ab bs.length cb, .slice ar xs.length cr] 64)) := ((((Below.refl _ _).alloc (Nat.le_refl _) _).alloc (by simp) _).alloc (by simp; omega) _)
    have HB0 := Lib.hid hb0
    clear hb0
    go_enter Try.func121, Try.ntmps121
    go_wp2
    go_ret
    exact ⟨rfl, HB0.out⟩
  obtain ⟨b0, rfl⟩ : ∃ x, bs = [x] := by match bs, n2 with | [x], _ => exact ⟨x, rfl⟩
  simp only [List.length_singleton] at ib
  obtain ⟨a0, c0, gb, hb0⟩ := hb.cell 0 (by simp)
  have e0 : nthR [b0] 0 = b0 := rfl
  rw [e0] at gb hb0
  have hgb := World.block_lt_of_cell? w _ gb
  have e : staOk (kindsN R os mode : Nat) [true] [b0] xs = !anyII (fun l => !regsOk (kindsN R os mode : Nat) l) [b0, xs] := by rw [anyII_two]; simp [staOk, nthB, nthR]
  rw [e]
  have lb0 := hb0.len
  have HCF := Lib.hid (fun (wx : World) (g : Nat) (hbx : Below w.heap.size w wx) (p0 : wx.cell? ⟨w.heap.size, 0, none⟩ = some (.int .i64 R)) (p1 : wx.cell? ⟨w.heap.size, 1, none⟩ = some (.slice ao os.length co)) (p2 : wx.cell? ⟨w.heap.size + 1, 0, none⟩ = some (.int .i64 mode))
      (k0 : wx.cell? ⟨g, 0, none⟩ = some (.slice a0 b0.length c0)) (k1 : wx.cell? ⟨g, 1, none⟩ = some (.slice ar xs.length cr)) =>
    containsFuncII_w 218 #[.pointer (some ⟨w.heap.size, 0, none⟩), .pointer (some ⟨w.heap.size + 1, 0, none⟩)] (fun l => !regsOk (kindsN R os mode : Nat) l) (callFunc_run Try.func218 (by kernel_rfl) rfl) Any (some ⟨g, 0, none⟩) 2 [b0, xs] wx
      ⟨by simp [maxLen], fun _ => ⟨trivial, g, 0, rfl⟩, fun i hi => by
        match i, hi with
        | 0, _ => exact ⟨a0, c0, k0, hb0.below hbx⟩
        | 1, _ => exact ⟨ar, cr, k1, hx.below hbx⟩⟩
      (Lib.hid fun j hj a' c' w' hbb h => isState1_c R ao co os mode w.heap.size (w.heap.size + 1) a' c' _ w' (ho.below (bnext hbx hbb (Nat.le_refl _))) hc hpg h ((bcell1 hbb (World.block_lt_of_cell? wx _ p0)).trans p0) ((bcell1 hbb (World.block_lt_of_cell? wx _ p1)).trans p1) ((bcell1 hbb (World.block_lt_of_cell? wx _ p2)).trans p2)))
  obtain ⟨ANY, hANY⟩ : ∃ b, b = anyII (fun l => !regsOk (kindsN R os mode : Nat) l) [b0, xs] := ⟨_, rfl⟩
  rw [← hANY] at HCF ⊢
  have HCL : Hid (∀ v w0 R, Calls Try.prog 211 v w0 R → Calls Try.prog 211 v w0 R) := Lib.hid (fun _ _ _ h => h)
  have hrun : Hid (∀ args w, (callFunc 211 args).run Try.prog w = .ok (.enter 211 args) w) := Lib.hid (callFunc_run Try.func211 (by kernel_rfl) rfl)
  have hb0' : Below w.heap.size w (((w.alloc (.cells #[.int .i64 R, .slice ao os.length co] 30)).alloc (.cells #[.int .i64 mode] 2)).alloc (.cells #[.slice aa 1 ca, .slice ab 1 cb, .slice ar xs.length cr] 64)) := ((((Below.refl _ _).alloc (Nat.le_refl _) _).alloc (by simp) _).alloc (by simp; omega) _)
  have ga1 := (hb0'.cell (p := adr aa 0) hga).trans ga
  have gb1 := (hb0'.cell (p := adr ab 0) hgb).trans gb
  have hW : (((w.alloc (.cells #[.int .i64 R, .slice ao os.length co] 30)).alloc (.cells #[.int .i64 mode] 2)).alloc (.cells #[.slice aa 1 ca, .slice ab 1 cb, .slice ar xs.length cr] 64)).heap.size = w.heap.size + 3 := by simp
  have HB0 := Lib.hid hb0'
  have p0 : (((w.alloc (.cells #[.int .i64 R, .slice ao os.length co] 30)).alloc (.cells #[.int .i64 mode] 2)).alloc (.cells #[.slice aa 1 ca, .slice ab 1 cb, .slice ar xs.length cr] 64)).cell? ⟨w.heap.size, 0, none⟩ = some (.int .i64 R) := by simp [go_sem]
  have p1 : (((w.alloc (.cells #[.int .i64 R, .slice ao os.length co] 30)).alloc (.cells #[.int .i64 mode] 2)).alloc (.cells #[.slice aa 1 ca, .slice ab 1 cb, .slice ar xs.length cr] 64)).cell? ⟨w.heap.size, 1, none⟩ = some (.slice ao os.length co) := by simp [go_sem]
  have p2 : (((w.alloc (.cells #[.int .i64 R, .slice ao os.length co] 30)).alloc (.cells #[.int .i64 mode] 2)).alloc (.cells #[.slice aa 1 ca, .slice ab 1 cb, .slice ar xs.length cr] 64)).cell? ⟨w.heap.size + 1, 0, none⟩ = some (.int .i64 mode) := by simp [go_sem]
  have p3 : (((w.alloc (.cells #[.int .i64 R, .slice ao os.length co] 30)).alloc (.cells #[.int .i64 mode] 2)).alloc (.cells #[.slice aa 1 ca, .slice ab 1 cb, .slice ar xs.length cr] 64)).cell? ⟨w.heap.size + 2, 1, none⟩ = some (.slice ab 1 cb) := by simp [go_sem]
  have p4 : (((w.alloc (.cells #[.int .i64 R, .slice ao os.length co] 30)).alloc (.cells #[.int .i64 mode] 2)).alloc (.cells #[.slice aa 1 ca, .slice ab 1 cb, .slice ar xs.length cr] 64)).cell? ⟨w.heap.size + 2, 2, none⟩ = some (.slice ar xs.length cr) := by simp [go_sem]
  have hs0 : ((((w.alloc (.cells #[.int .i64 R, .slice ao os.length co] 30)).alloc (.cells #[.int .i64 mode] 2)).alloc (.cells #[.slice aa 1 ca, .slice ab 1 cb, .slice ar xs.length cr] 64))).drew.cell? ⟨w.heap.size + 2, 1, none⟩ = some (.slice ab 1 cb) ∧ ((((w.alloc (.cells #[.int .i64 R, .slice ao os.length co] 30)).alloc (.cells #[.int .i64 mode] 2)).alloc (.cells #[.slice aa 1 ca, .slice ab 1 cb, .slice ar xs.length cr] 64))).drew.cell? ⟨w.heap.size + 2, 2, none⟩ = some (.slice ar xs.length cr) ∧ ((((w.alloc (.cells #[.int .i64 R, .slice ao os.length co] 30)).alloc (.cells #[.int .i64 mode] 2)).alloc (.cells #[.slice aa 1 ca, .slice ab 1 cb, .slice ar xs.length cr] 64))).drew.cell? (adr ab 0) = some (.slice a0 b0.length c0) := ⟨p3, p4, gb1⟩
  clear e e0 n2 ho hpg ha hb hx hb0 hb0' hANY ga ga0
  go_enter Try.func121, Try.ntmps121
  go_wp2
  refine wp_region_C (n := 11) (l := #[false, false, false, false, false, false, false, false, false, false, false]) (fun wx => wx.cell? ⟨w.heap.size + 2, 1, none⟩ = some (.slice ab 1 cb) ∧ wx.cell? ⟨w.heap.size + 2, 2, none⟩ = some (.slice ar xs.length cr) ∧ wx.cell? (adr ab 0) = some (.slice a0 b0.length c0)) [] (by kernel_rfl) rfl rfl ?_
  refine wpC_take (i := 0) (v := ?v0_1) (l' := #[true, false, false, false, false, false, false, false, false, false, false]) [1, 2, 3, 6, 8, 9, 10] rfl (by kernel_rfl) (by kernel_rfl) (by kernel_rfl) (by kernel_rfl) (by kernel_rfl) rfl (fun _ _ _ h => h) (by rfl) (fun wx hS => ?q0_1) (by assumption) ?_
  case q0_1 => (go_simp; try with_reducible rfl)
  try simp only [List.getElem_toArray, List.getElem_cons_zero, Act.put, List.setIfInBounds_toArray, List.set_cons_zero, List.set_cons_succ]
  refine wpC_take (i := 1) (v := ?v1_2) (l' := #[true, true, false, false, false, false, false, false, false, false, false]) [2, 3, 6, 8, 9, 10] rfl (by kernel_rfl) (by kernel_rfl) (by kernel_rfl) (by kernel_rfl) (by kernel_rfl) rfl (fun _ _ _ h => h) (by rfl) (fun wx hS => ?q1_2) (by assumption) ?_
  case q1_2 => ((try dsimp only at hS); obtain ⟨hS1, hS2, hS3⟩ := hS; go_simp; try with_reducible rfl)
  try simp only [List.getElem_toArray, List.getElem_cons_succ, List.getElem_cons_zero, Act.put, List.setIfInBounds_toArray, List.set_cons_zero, List.set_cons_succ]
  refine wpC_take (i := 2) (v := ?v2_3) (l' := #[true, true, true, false, false, false, false, false, false, false, false]) [3, 6, 8, 9, 10] rfl (by kernel_rfl) (by kernel_rfl) (by kernel_rfl) (by kernel_rfl) (by kernel_rfl) rfl (fun _ _ _ h => h) (by rfl) (fun wx hS => ?q2_3) (by assumption) ?_
  case q2_3 => (go_simp; try with_reducible rfl)
  try simp only [List.getElem_toArray, List.getElem_cons_succ, List.getElem_cons_zero, Act.put, List.setIfInBounds_toArray, List.set_cons_zero, List.set_cons_succ]
  refine wpC_take (i := 3) (v := ?v3_4) (l' := #[true, true, true, true, false, false, false, false, false, false, false]) [6, 8, 9, 10] rfl (by kernel_rfl) (by kernel_rfl) (by kernel_rfl) (by kernel_rfl) (by kernel_rfl) rfl (fun _ _ _ h => h) (by rfl) (fun wx hS => ?q3_4) (by assumption) ?_
  case q3_4 => ((try dsimp only at hS); obtain ⟨hS1, hS2, hS3⟩ := hS; go_simp; try with_reducible rfl)
  try simp only [List.getElem_toArray, List.getElem_cons_succ, List.getElem_cons_zero, Act.put, List.setIfInBounds_toArray, List.set_cons_zero, List.set_cons_succ]
  refine wpC_take (i := 4) (v := ?v4_5) (l' := #[true, true, true, true, true, false, false, false, false, false, false]) [5, 6, 8, 9, 10] rfl (by kernel_rfl) (by kernel_rfl) (by kernel_rfl) (by kernel_rfl) (by kernel_rfl) rfl (fun _ _ _ h => h) (by rfl) (fun wx hS => ?q4_5) (by assumption) ?_
  case q4_5 => (go_simp; try with_reducible rfl)
  try simp only [List.getElem_toArray, List.getElem_cons_succ, List.getElem_cons_zero, Act.put, List.setIfInBounds_toArray, List.set_cons_zero, List.set_cons_succ]
  refine wpC_take (i := 5) (v := ?v5_6) (l' := #[true, true, true, true, true, true, false, false, false, false, false]) [6, 8, 9, 10] rfl (by kernel_rfl) (by kernel_rfl) (by kernel_rfl) (by kernel_rfl) (by kernel_rfl) rfl (fun _ _ _ h => h) (by rfl) (fun wx hS => ?q5_6) (by assumption) ?_
  case q5_6 => ((try dsimp only at hS); obtain ⟨hS1, hS2, hS3⟩ := hS; go_simp; try with_reducible rfl)
  try simp only [List.getElem_toArray, List.getElem_cons_succ, List.getElem_cons_zero, Act.put, List.setIfInBounds_toArray, List.set_cons_zero, List.set_cons_succ]
  refine wpC_take (i := 7) (v := ?v7_7) (l' := #[true, true, true, true, true, true, false, true, false, false, false]) [8, 9, 10] rfl (by kernel_rfl) (by kernel_rfl) (by kernel_rfl) (by kernel_rfl) (by kernel_rfl) rfl (fun _ _ _ h => h) (by rfl) (fun wx hS => ?q7_7) (by assumption) ?_
  case q7_7 => (go_simp; try with_reducible rfl)
  try simp only [List.getElem_toArray, List.getElem_cons_succ, List.getElem_cons_zero, Act.put, List.setIfInBounds_toArray, List.set_cons_zero, List.set_cons_succ]
  refine wpC_one (i := 6) (l' := #[true, true, true, true, true, true, true, true, false, false, false]) (by kernel_rfl) rfl rfl (by rfl) (fun Kr hKr => ?_)
  go_simp
  refine hKr _ _ (fun _ => ⟨(bcell1 (below_dr (below_alloc _ _)) (by simp)).trans p3, (bcell1 (below_dr (below_alloc _ _)) (by simp)).trans p4, (Below.cell (p := adr ab 0) (below_dr (below_alloc _ _)) (by show blk ab < _; have : blk ab < w.heap.size := hgb; simp; omega)).trans gb1⟩) ?_
  clear hKr Kr
  try simp only [List.getElem_toArray, List.getElem_cons_succ, List.getElem_cons_zero, Act.put, List.setIfInBounds_toArray, List.set_cons_zero, List.set_cons_succ]
  obtain ⟨wS, hwS⟩ : ∃ wz, wz = ((((w.alloc (.cells #[.int .i64 R, .slice ao os.length co] 30)).alloc (.cells #[.int .i64 mode] 2)).alloc (.cells #[.slice aa 1 ca, .slice ab 1 cb, .slice ar xs.length cr] 64)).alloc (.cells #[.slice a0 b0.length c0, .slice ar xs.length cr] 34)).drew := ⟨_, rfl⟩
  rw [← hwS]
  have hbS : Below (w.heap.size + 3) (((w.alloc (.cells #[.int .i64 R, .slice ao os.length co] 30)).alloc (.cells #[.int .i64 mode] 2)).alloc (.cells #[.slice aa 1 ca, .slice ab 1 cb, .slice ar xs.length cr] 64)) wS := by rw [hwS, ← hW]; exact below_dr (below_alloc _ _)
  have HBS := Lib.hid (HB0.out.trans (hbS.mono (by omega)))
  have k0 : wS.cell? ⟨w.heap.size + 3, 0, none⟩ = some (.slice a0 b0.length c0) := by rw [hwS]; simp [go_sem]
  have k1 : wS.cell? ⟨w.heap.size + 3, 1, none⟩ = some (.slice ar xs.length cr) := by rw [hwS]; simp [go_sem]
  have HCC := Lib.hid (HCF.out wS (w.heap.size + 3) HBS.out ((bcell1 hbS (by omega)).trans p0) ((bcell1 hbS (by omega)).trans p1) ((bcell1 hbS (by omega)).trans p2) k0 k1)
  have hS9 : wS.cell? ⟨w.heap.size + 2, 1, none⟩ = some (.slice ab 1 cb) ∧ wS.cell? ⟨w.heap.size + 2, 2, none⟩ = some (.slice ar xs.length cr) ∧ wS.cell? (adr ab 0) = some (.slice a0 b0.length c0) := ⟨(bcell1 hbS (by omega)).trans p3, (bcell1 hbS (by omega)).trans p4, (hbS.cell (p := adr ab 0) (by show blk ab < _; have : blk ab < w.heap.size := hgb; omega)).trans gb1⟩
  clear hwS
  refine wpC_one (i := 8) (l' := #[true, true, true, true, true, true, true, true, true, false, false]) (by kernel_rfl) rfl rfl (by rfl) (fun Kr hKr => ?_)
  refine step_callV rfl 211 #[.tmp 30, .tmp 31] _ rfl hrun.out #[.slice (some ⟨w.heap.size + 3, 0, none⟩) 2 2, .func (.func 218) #[] #[.pointer (some ⟨w.heap.size, 0, none⟩), .pointer (some ⟨w.heap.size + 1, 0, none⟩)]] (by first | rfl | (simp [Act.eval]; done) | (simp [Act.eval]; rfl) | (simp [Act.eval]; repeat' constructor)) HCC.out ?_
  rintro e wT ⟨rfl, hbT⟩
  refine ⟨_, rfl, ?_⟩
  have hS8 : wT.cell? ⟨w.heap.size + 2, 1, none⟩ = some (.slice ab 1 cb) ∧ wT.cell? ⟨w.heap.size + 2, 2, none⟩ = some (.slice ar xs.length cr) ∧ wT.cell? (adr ab 0) = some (.slice a0 b0.length c0) := ⟨(bcell1 hbT (World.block_lt_of_cell? wS _ hS9.1)).trans hS9.1, (bcell1 hbT (World.block_lt_of_cell? wS _ hS9.2.1)).trans hS9.2.1, (hbT.cell (World.block_lt_of_cell? wS _ hS9.2.2)).trans hS9.2.2⟩
  have HBT := Lib.hid (bnext HBS.out hbT (Nat.le_refl _))
  refine hKr _ _ (fun _ => hS8) ?_
  clear hKr Kr
  try simp only [List.getElem_toArray, List.getElem_cons_succ, List.getElem_cons_zero, Act.put, List.setIfInBounds_toArray, List.set_cons_zero, List.set_cons_succ]
  clear hbT HCC
  refine wpC_take (i := 9) (v := ?v9_8) (l' := #[true, true, true, true, true, true, true, true, true, true, false]) [10] rfl (by kernel_rfl) (by kernel_rfl) (by kernel_rfl) (by kernel_rfl) (by kernel_rfl) rfl (fun _ _ _ h => h) (by rfl) (fun wx hS => ?q9_8) (by assumption) ?_
  case q9_8 => (go_simp; try with_reducible rfl)
  try simp only [List.getElem_toArray, List.getElem_cons_succ, List.getElem_cons_zero, Act.put, List.setIfInBounds_toArray, List.set_cons_zero, List.set_cons_succ]
  refine wpC_take (i := 10) (v := ?v10_9) (l' := #[true, true, true, true, true, true, true, true, true, true, true]) [] rfl (by kernel_rfl) (by kernel_rfl) (by kernel_rfl) (by kernel_rfl) (by kernel_rfl) rfl (fun _ _ _ h => h) (by rfl) (fun wx hS => ?q10_9) (by assumption) ?_
  case q10_9 => (go_simp; try with_reducible rfl)
  try simp only [List.getElem_toArray, List.getElem_cons_succ, List.getElem_cons_zero, Act.put, List.setIfInBounds_toArray, List.set_cons_zero, List.set_cons_succ]
  refine wpC_done (by kernel_rfl) ?_ _
  go_wp2
  go_ret
  exact ⟨rfl, HBT.out⟩
def isTrappedS (R : Int) (os : List Ord) (al : List Bool) (bs : List (List Int)) (xs : List Int) : Bool × Int :=
  if modeCodeS R os 3 (staOk (kindsN R.toNat os 3 : Nat) al bs xs) = 0 then (decide (0 < nth (nthR bs 0) (kindsN R.toNat os 3 - 1)), 0) else (false, modeCodeS R os 3 (staOk (kindsN R.toNat os 3 : Nat) al bs xs))
def rightS (R : Int) (os : List Ord) (mode : Int) (al : List Bool) (bs : List (List Int)) (xs : List Int) : Bool := !validProgS R os || !inRg mode 1 3 || staOk (kindsN R.toNat os mode : Nat) al bs xs
theorem modeCode_right (R : Int) (os : List Ord) (mode : Int) (al : List Bool) (bs : List (List Int)) (xs : List Int) : modeCodeS R os mode (rightS R os mode al bs xs) = modeCodeS R os mode (staOk (kindsN R.toNat os mode : Nat) al bs xs) := by
  unfold modeCodeS rightS
  cases validProgS R os <;> cases inRg mode 1 3 <;> simp
set_option maxHeartbeats 4000000 in
theorem l05Right_c (R : Int) (p q : Nat) (ao : Option Addr) (co : Nat) (os : List Ord) (mode : Int) (aa ab ar : Option Addr) (ca cb cr : Nat) (al : List Bool) (bs : List (List Int)) (xs : List Int) (w : World) (ho : SlO Any w ao os) (ha : SlB Any w aa al) (hb : SlII Any w ab bs) (hx : SlI Any w ar xs)
    (hp0 : w.cell? ⟨p, 0, none⟩ = some (.int .i64 R)) (hp1 : w.cell? ⟨p, 1, none⟩ = some (.slice ao os.length co)) (hq0 : w.cell? ⟨q, 0, none⟩ = some (.slice aa al.length ca)) (hq1 : w.cell? ⟨q, 1, none⟩ = some (.slice ab bs.length cb)) (hq2 : w.cell? ⟨q, 2, none⟩ = some (.slice ar xs.length cr)) :
    Calls Try.prog 116 #[.pointer (some ⟨p, 0, none⟩), .int .i64 mode, .pointer (some ⟨q, 0, none⟩)] w (RetV w (.bool (rightS R os mode al bs xs))) := by
  have HOK := Lib.hid (l05Ok_c R Any ao co os p w ho hp0 hp1)
  have HMO := Lib.hid (fun w => l05Mode_c mode w)
  have HBG := Lib.hid (fun (k : Int) a c l w hx => l06Bag_c k Any a c l w hx)
  have la := ha.len
  have lb := hb.len
  unfold maxLen at la lb
  cases hv : validProgS R os
  · rw [hv] at HOK
    have e : rightS R os mode al bs xs = true := by simp [rightS, hv]
    rw [e]
    clear e hv ho ha hb hx
    go_enter Try.func116, Try.ntmps116
    go_wp2_with fail
    refine HOK.out.mono ?_
    rintro e w1 ⟨rfl, hb1⟩
    go_wp2
    go_ret
    exact ⟨rfl, hb1⟩
  · rw [hv] at HOK
    obtain ⟨K0, rfl, hpg⟩ := PgOk.of hv
    cases hm : inRg mode 1 3
    · rw [hm] at HMO
      have e : rightS K0 os mode al bs xs = true := by simp [rightS, hm]
      rw [e]
      clear e hv hm ho ha hb hx hpg
      go_enter Try.func116, Try.ntmps116
      go_wp2_with fail
      refine HOK.out.mono ?_
      rintro e w1 ⟨rfl, hb1⟩
      have HB1 := Lib.hid hb1
      clear hb1
      go_wp2_with fail
      refine (HMO.out _).mono ?_
      rintro e w2 ⟨rfl, rfl⟩
      go_wp2
      go_ret
      exact ⟨rfl, HB1.out⟩
    · rw [hm] at HMO
      have e : rightS K0 os mode al bs xs = staOk (kindsN K0 os mode : Nat) al bs xs := by simp [rightS, hv, hm]
      rw [e]
      have HK := Lib.hid (fun wx (hbx : Below w.heap.size w wx) => l05Kinds_c K0 p ao co os mode wx (ho.below hbx) ((bcell1 hbx (World.block_lt_of_cell? w _ hp0)).trans hp0) ((bcell1 hbx (World.block_lt_of_cell? w _ hp1)).trans hp1) hpg)
      obtain ⟨K, hK⟩ : ∃ K, K = kindsN K0 os mode := ⟨_, rfl⟩
      rw [← hK] at HK ⊢
      have zq := World.block_lt_of_cell? w _ hq0
      have HQ0 := Lib.hid hq0
      have HQ1 := Lib.hid hq1
      have HQ2 := Lib.hid hq2
      have ia := ha.ix tabB.under tabB.size ca
      have ib := hb.ix tabII.under tabII.size cb
      clear e hv hm hpg hK ho hp0 hp1 hq0 hq1 hq2
      by_cases n1 : al.length = 1
      rotate_left
      · have e : staOk (K : Nat) al bs xs = false := by simp [staOk, n1]
        have b1 : ((al.length : Int) == 1) = false := by simp; omega
        rw [e]
        clear e ha hb hx n1
        go_enter Try.func116, Try.ntmps116
        go_wp2_with fail
        refine HOK.out.mono ?_
        rintro e w1 ⟨rfl, hb1⟩
        have HB1 := Lib.hid hb1
        clear hb1
        go_wp2_with fail
        refine (HMO.out _).mono ?_
        rintro e w2 ⟨rfl, rfl⟩
        go_wp2_with fail
        refine (HK.out _ HB1.out).mono ?_
        rintro e w3 ⟨rfl, rfl⟩
        have t0 := (bcell1 HB1.out zq).trans HQ0.out
        have t1 := (bcell1 HB1.out zq).trans HQ1.out
        have t2 := (bcell1 HB1.out zq).trans HQ2.out
        go_wp2
        go_ret
        exact ⟨rfl, HB1.out⟩
      obtain ⟨x0, rfl⟩ : ∃ x, al = [x] := by match al, n1 with | [x], _ => exact ⟨x, rfl⟩
      have ga := ha.cell 0 (by simp)
      have e0 : nthB [x0] 0 = x0 := rfl
      rw [e0] at ga
      have HGA := Lib.hid ga
      simp only [List.length_singleton] at ia HQ0
      clear e0 n1 ga
      cases x0
      · have e : staOk (K : Nat) [false] bs xs = false := by simp [staOk, nthB]
        rw [e]
        clear e ha hb hx
        go_enter Try.func116, Try.ntmps116
        go_wp2_with fail
        refine HOK.out.mono ?_
        rintro e w1 ⟨rfl, hb1⟩
        have HB1 := Lib.hid hb1
        clear hb1
        go_wp2_with fail
        refine (HMO.out _).mono ?_
        rintro e w2 ⟨rfl, rfl⟩
        go_wp2_with fail
        refine (HK.out _ HB1.out).mono ?_
        rintro e w3 ⟨rfl, rfl⟩
        have t0 := (bcell1 HB1.out zq).trans HQ0.out
        have t1 := (bcell1 HB1.out zq).trans HQ1.out
        have t2 := (bcell1 HB1.out zq).trans HQ2.out
        have ga := (HB1.out.cell (World.block_lt_of_cell? w _ HGA.out)).trans HGA.out
        go_wp2
        go_ret
        exact ⟨rfl, HB1.out⟩
      by_cases n2 : bs.length = 1
      rotate_left
      · have e : staOk (K : Nat) [true] bs xs = false := by simp [staOk, n2]
        have b1 : ((bs.length : Int) == 1) = false := by simp; omega
        rw [e]
        clear e ha hb hx n2
        go_enter Try.func116, Try.ntmps116
        go_wp2_with fail
        refine HOK.out.mono ?_
        rintro e w1 ⟨rfl, hb1⟩
        have HB1 := Lib.hid hb1
        clear hb1
        go_wp2_with fail
        refine (HMO.out _).mono ?_
        rintro e w2 ⟨rfl, rfl⟩
        go_wp2_with fail
        refine (HK.out _ HB1.out).mono ?_
        rintro e w3 ⟨rfl, rfl⟩
        have t0 := (bcell1 HB1.out zq).trans HQ0.out
        have t1 := (bcell1 HB1.out zq).trans HQ1.out
        have t2 := (bcell1 HB1.out zq).trans HQ2.out
        have ga := (HB1.out.cell (World.block_lt_of_cell? w _ HGA.out)).trans HGA.out
        go_wp2
        go_ret
        exact ⟨rfl, HB1.out⟩
      obtain ⟨b0, rfl⟩ : ∃ x, bs = [x] := by match bs, n2 with | [x], _ => exact ⟨x, rfl⟩
      simp only [List.length_singleton] at ib HQ1
      obtain ⟨a0, c0, gb, hs0⟩ := hb.cell 0 (by simp)
      have e0 : nthR [b0] 0 = b0 := rfl
      rw [e0] at gb hs0
      have HGB := Lib.hid gb
      have HS0 := Lib.hid hs0
      have HX := Lib.hid hx
      have e : staOk (K : Nat) [true] [b0] xs = (bag6 K b0 && bag6 K xs) := by simp [staOk, nthB, nthR, bag6, regsOk, Bool.and_comm, Bool.and_assoc]
      rw [e]
      clear e e0 n2 gb hs0 hb hx ha
      cases hr : bag6 K b0
      · rw [Bool.false_and]
        go_enter Try.func116, Try.ntmps116
        go_wp2_with fail
        refine HOK.out.mono ?_
        rintro e w1 ⟨rfl, hb1⟩
        have HB1 := Lib.hid hb1
        clear hb1
        go_wp2_with fail
        refine (HMO.out _).mono ?_
        rintro e w2 ⟨rfl, rfl⟩
        go_wp2_with fail
        refine (HK.out _ HB1.out).mono ?_
        rintro e w3 ⟨rfl, rfl⟩
        have t0 := (bcell1 HB1.out zq).trans HQ0.out
        have t1 := (bcell1 HB1.out zq).trans HQ1.out
        have t2 := (bcell1 HB1.out zq).trans HQ2.out
        have ga := (HB1.out.cell (World.block_lt_of_cell? w _ HGA.out)).trans HGA.out
        have gb := (HB1.out.cell (World.block_lt_of_cell? w _ HGB.out)).trans HGB.out
        have HC0 := Lib.hid (HBG.out K a0 c0 b0 _ (HS0.out.below HB1.out))
        rw [hr] at HC0
        clear hr
        go_wp2_with fail
        refine HC0.out.mono ?_
        rintro e w4 ⟨rfl, rfl⟩
        go_wp2
        go_ret
        exact ⟨rfl, HB1.out⟩
      · rw [Bool.true_and]
        go_enter Try.func116, Try.ntmps116
        go_wp2_with fail
        refine HOK.out.mono ?_
        rintro e w1 ⟨rfl, hb1⟩
        have HB1 := Lib.hid hb1
        clear hb1
        go_wp2_with fail
        refine (HMO.out _).mono ?_
        rintro e w2 ⟨rfl, rfl⟩
        go_wp2_with fail
        refine (HK.out _ HB1.out).mono ?_
        rintro e w3 ⟨rfl, rfl⟩
        have t0 := (bcell1 HB1.out zq).trans HQ0.out
        have t1 := (bcell1 HB1.out zq).trans HQ1.out
        have t2 := (bcell1 HB1.out zq).trans HQ2.out
        have ga := (HB1.out.cell (World.block_lt_of_cell? w _ HGA.out)).trans HGA.out
        have gb := (HB1.out.cell (World.block_lt_of_cell? w _ HGB.out)).trans HGB.out
        have HC0 := Lib.hid (HBG.out K a0 c0 b0 _ (HS0.out.below HB1.out))
        rw [hr] at HC0
        clear hr
        go_wp2_with fail
        refine HC0.out.mono ?_
        rintro e w4 ⟨rfl, rfl⟩
        have HC1 := Lib.hid (HBG.out K ar cr xs _ (HX.out.below HB1.out))
        obtain ⟨bb, hbb⟩ : ∃ b, b = bag6 K xs := ⟨_, rfl⟩
        rw [← hbb] at HC1
        have HBB := Lib.hid hbb
        clear hbb
        go_wp2_with fail
        refine HC1.out.mono ?_
        rintro e w5 ⟨rfl, rfl⟩
        go_wp2
        go_ret
        exact ⟨ret_bool HBB.out, HB1.out⟩
