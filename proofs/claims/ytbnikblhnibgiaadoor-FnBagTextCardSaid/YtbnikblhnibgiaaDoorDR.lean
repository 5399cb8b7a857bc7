/- The source of draws of the laws over bytes: contracts. -/
import Derived.Test.YtbnikblhnibgiaaDoorM
import Derived.Laws.BitsLemmas
namespace Go.Proofs.YtbnikblhnibgiaaDoor
open Go.RowKit

theorem tabU8 : Tab Tryd.prog 28 5 (.int .u8 0) 1 1 := ⟨by kernel_rfl, by kernel_rfl⟩
/-- Cells of bytes, read through an address. -/
structure SlU (S : Nat → Prop) (w : World) (a : Option Addr) (n : Nat) : Prop where
  len : n ≤ maxLen
  ptr : 0 < n → S (blk a) ∧ ∃ g o, a = some ⟨g, o, none⟩
  cell : ∀ i, i < n → ∃ x : Int, 0 ≤ x ∧ x < 256 ∧ w.cell? (adr a i) = some (.int .u8 x)
theorem SlU.ix {P : Program} {T E : Nat} {S : Nat → Prop} {w : World} {a : Option Addr} {n : Nat} (h : SlU S w a n) (hT : P.underlying T = some (.slice E)) (hE : (P.info? E).map (·.size) = some 1)
   (c : Nat) (i : Int) (w' : World) (h0 : 0 ≤ i) (h1 : i < n) : (Instr.indexAt T (.slice a n c) (.int .i64 i)).run P w' = .ok (.pointer (some (adr a i.toNat))) w' := by
  rw [ix_of hT hE (fun h0 => (h.ptr h0).2) c i w' h0 h1, Nat.mul_one]
theorem SlU.keep {S : Nat → Prop} {w w' : World} {a : Option Addr} {n : Nat} (h : SlU S w a n) (hk : ∀ k, S k → k < w.heap.size → w'.heap[k]? = w.heap[k]?) : SlU S w' a n :=
  ⟨h.len, h.ptr, fun i hi => by
    obtain ⟨x, h1, h2, h3⟩ := h.cell i hi
    refine ⟨x, h1, h2, ?_⟩
    rw [World.cell?_of_block (w := w) (hk (blk a) (h.ptr (by omega)).1 (World.block_lt_of_cell? w _ h3))]; exact h3⟩
theorem SlU.below {S : Nat → Prop} {w w' : World} {a : Option Addr} {n : Nat} (h : SlU S w a n) (hb : Below w.heap.size w w') : SlU S w' a n := h.keep fun k _ hk => hb.block k hk
theorem SlU.any {S T : Nat → Prop} {w : World} {a : Option Addr} {n : Nat} (h : SlU S w a n) (hs : ∀ k, S k → T k) : SlU T w a n := ⟨h.len, fun h0 => ⟨hs _ (h.ptr h0).1, (h.ptr h0).2⟩, h.cell⟩

/-- A source of draws in the block s, at its t-th byte. -/
structure Src (w : World) (s : Nat) (a : Option Addr) (n c : Nat) (t : Nat) (z : Int) : Prop where
  c0 : w.cell? ⟨s, 0, none⟩ = some (.slice a n c)
  c1 : w.cell? ⟨s, 1, none⟩ = some (.int .i64 t)
  c2 : w.cell? ⟨s, 2, none⟩ = some (.int .u64 z)
  f1 : w.frozen? ⟨s, 1, none⟩ = false
  f2 : w.frozen? ⟨s, 2, none⟩ = false
  by_ : SlU (· < s) w a n
/-- A source from which at most m bytes were drawn. -/
def SrcE (w : World) (s m : Nat) : Prop := ∃ a n c t z, t ≤ m ∧ Src w s a n c t z
theorem Src.keep {w w' : World} {s : Nat} {a : Option Addr} {n c t : Nat} {z : Int} (h : Src w s a n c t z) (hk : ∀ k, k ≤ s → w'.heap[k]? = w.heap[k]?) : Src w' s a n c t z := by
  have hc : ∀ i, w'.cell? ⟨s, i, none⟩ = w.cell? ⟨s, i, none⟩ := fun i => World.cell?_of_block (hk s (Nat.le_refl _))
  have hf : ∀ i, w'.frozen? ⟨s, i, none⟩ = w.frozen? ⟨s, i, none⟩ := fun i => World.frozen?_of_block (hk s (Nat.le_refl _))
  exact ⟨(hc 0).trans h.c0, (hc 1).trans h.c1, (hc 2).trans h.c2, (hf 1).trans h.f1, (hf 2).trans h.f2, h.by_.keep fun k h1 _ => hk k (Nat.le_of_lt h1)⟩
theorem Src.lt {w : World} {s : Nat} {a : Option Addr} {n c t : Nat} {z : Int} (h : Src w s a n c t z) : s < w.heap.size := World.block_lt_of_cell? w _ h.c0
theorem SrcE.lt {w : World} {s m : Nat} (h : SrcE w s m) : s < w.heap.size := by obtain ⟨_, _, _, _, _, _, h⟩ := h; exact h.lt
theorem SrcE.keep {w w' : World} {s m : Nat} (h : SrcE w s m) (hk : ∀ k, k ≤ s → w'.heap[k]? = w.heap[k]?) : SrcE w' s m := by
  obtain ⟨a, n, c, t, z, ht, h⟩ := h; exact ⟨a, n, c, t, z, ht, h.keep hk⟩
theorem SrcE.below {w w' : World} {s m B : Nat} (h : SrcE w s m) (hb : Below B w w') (hB : s < B) : SrcE w' s m := h.keep fun k hk => hb.block k (by omega)
theorem SrcE.chg {w w' : World} {s m : Nat} {F : List Nat} (h : SrcE w s m) (hb : Chg F w w') (hF : ∀ g, g ∈ F → s < g) : SrcE w' s m := h.keep fun k hk => hb.block k (by have := h.lt; omega) (fun hg => by have := hF _ hg; omega)
theorem SrcE.more {w : World} {s m m' : Nat} (h : SrcE w s m) (hm : m ≤ m') : SrcE w s m' := by obtain ⟨a, n, c, t, z, ht, h⟩ := h; exact ⟨a, n, c, t, z, by omega, h⟩
theorem Src.step {w : World} {s : Nat} {a : Option Addr} {n c t : Nat} {z : Int} (h : Src w s a n c t z) (z' : Int) : Src ((w.setCell ⟨s, 1, none⟩ (.int .i64 ((t : Int) + 1))).setCell ⟨s, 2, none⟩ (.int .u64 z')) s a n c (t + 1) z' := by
  have o : ∀ (w : World) (i j : Nat) (v : Value), i ≠ j → (w.setCell ⟨s, i, none⟩ v).cell? ⟨s, j, none⟩ = w.cell? ⟨s, j, none⟩ := fun w i j v h => World.cell?_setCell_other _ _ _ _ (by intro e; cases e; exact h rfl)
  refine ⟨?_, ?_, ?_, ?_, ?_, ?_⟩
  · rw [o _ 2 0 _ (by omega), o _ 1 0 _ (by omega)]; exact h.c0
  · rw [o _ 2 1 _ (by omega), World.cell?_setCell_same _ _ _ h.c1]; simp
  · exact World.cell?_setCell_same _ _ _ (by rw [o _ 1 2 _ (by omega)]; exact h.c2)
  · rw [World.frozen?_setCell, World.frozen?_setCell]; exact h.f1
  · rw [World.frozen?_setCell, World.frozen?_setCell]; exact h.f2
  · exact h.by_.keep fun k hk _ => (((Exc.setCell w ⟨s, 1, none⟩ (.int .i64 ((t : Int) + 1))).trans (Exc.setCell _ ⟨s, 2, none⟩ (.int .u64 z'))).block k (by simp; omega))
theorem Src.exc (w : World) (s : Nat) (v v' : Value) : Exc [s] w ((w.setCell ⟨s, 1, none⟩ v).setCell ⟨s, 2, none⟩ v') := (Exc.setCell w ⟨s, 1, none⟩ v).trans (Exc.setCell _ ⟨s, 2, none⟩ v')
theorem Src.stepN {w : World} {s : Nat} {a : Option Addr} {n c t : Nat} {z : Int} (h : Src w s a n c t z) (k k2 : Nat) (z' : Int) : Src (((((w.drewN k).setCell ⟨s, 1, none⟩ (.int .i64 ((t : Int) + 1))).setCell ⟨s, 2, none⟩ (.int .u64 z'))).drewN k2) s a n c (t + 1) z' :=
  ((h.keep (w' := w.drewN k) (fun _ _ => rfl)).step z').keep (fun _ _ => rfl)
theorem Src.excN (w : World) (s k k2 : Nat) (v v' : Value) : Exc [s] w (((((w.drewN k).setCell ⟨s, 1, none⟩ v).setCell ⟨s, 2, none⟩ v')).drewN k2) :=
  have h := Src.exc (w.drewN k) s v v'
  ⟨h.os, h.tape, h.output, h.size, h.block⟩
theorem u64_and255 {x : Int} (h0 : 0 ≤ x) (h1 : x < 18446744073709551616) : bits .and .u64 x 255 = x % 256 :=
  bits_mask .u64 64 (by decide) (fun n a b => by simp [IntKind.wrap, IntKind.bits, IntKind.signed]; omega) 8 (by decide) x h0 h1
theorem lastByte (y : Int) : 0 ≤ wrap64 (bits .and .u64 (IntKind.u64.wrap y / 1099511627776) 255) ∧ wrap64 (bits .and .u64 (IntKind.u64.wrap y / 1099511627776) 255) ≤ 255 := by
  have e : IntKind.u64.wrap y = y % 18446744073709551616 := by simp [IntKind.wrap, IntKind.bits, IntKind.signed]
  rw [e, u64_and255 (by omega) (by omega)]
  unfold wrap64; omega
/-- The call draws a number of which p holds. -/
def RetN (w : World) (s m : Nat) (p : Int → Prop) (e : Ending) (w' : World) : Prop := ∃ x : Int, e = .returned (.int .i64 x) ∧ p x ∧ Exc [s] w w' ∧ SrcE w' s m
set_option maxHeartbeats 1000000 in
theorem next_c2 (s m : Nat) (w : World) (h : SrcE w s m) (hm : m ≤ 4294967296) :
    Calls Tryd.prog 53 #[.pointer (some ⟨s, 0, none⟩)] w (RetN w s (m + 1) fun x => 0 ≤ x ∧ x ≤ 255) := by
  obtain ⟨a, n, c, t, z, ht, hs⟩ := h
  have i1 := hs.by_.ix tabU8.under tabU8.size c
  have c0 := hs.c0
  have c1 := hs.c1
  have c2 := hs.c2
  have f1 := hs.f1
  have f2 := hs.f2
  have hl := hs.by_.len
  unfold maxLen at hl
  have HS := Lib.hid hs
  by_cases hlt : t < n
  · obtain ⟨x, hx0, hx1, gx⟩ := hs.by_.cell t hlt
    clear hs
    go_enter Tryd.func53, Tryd.ntmps53
    go_wp2
    go_quiet (fail)
    go_wp2
    go_quiet (fail)
    go_wp2
    go_quiet (fail)
    go_wp2
    go_ret
    exact ⟨_, rfl, by first | omega | exact lastByte _, Src.excN _ _ _ _ _ _, a, n, c, t + 1, _, by omega, HS.out.stepN _ _ _⟩
  · clear hs
    go_enter Tryd.func53, Tryd.ntmps53
    go_wp2
    go_quiet (fail)
    go_wp2
    go_quiet (fail)
    go_wp2
    go_ret
    exact ⟨_, rfl, by first | omega | exact lastByte _, Src.excN _ _ _ _ _ _, a, n, c, t + 1, _, by omega, HS.out.stepN _ _ _⟩
theorem l00From_c (a : Option Addr) (n c : Nat) (w : World) (h : SlU (· < w.heap.size) w a n) :
    Calls Tryd.prog 26 #[.slice a n c] w (fun e w' => e = .returned (.pointer (some ⟨w.heap.size, 0, none⟩)) ∧ Below w.heap.size w w' ∧ w.heap.size < w'.heap.size ∧ SrcE w' w.heap.size 0) := by
  have hb := below_alloc w (.cells #[.slice a n c, .int .i64 0, .int .u64 0] 82)
  have HE : Hid (SrcE (w.alloc (.cells #[.slice a n c, .int .i64 0, .int .u64 0] 82)) w.heap.size 0) := Lib.hid ⟨a, n, c, 0, 0, Nat.le_refl _, by simp [go_sem], by simp [go_sem], by simp [go_sem], by simp [go_sem], by simp [go_sem], h.below hb⟩
  have HB := Lib.hid hb
  clear hb h
  go_enter Tryd.func26, Tryd.ntmps26
  go_wp2
  go_ret
  exact ⟨rfl, HB.out, by simp, HE.out⟩
set_option maxHeartbeats 1000000 in
theorem pick_c (s m : Nat) (n : Int) (w : World) (h : SrcE w s m) (hm : m ≤ 4000000000) (hn : n ≤ 40000) :
    Calls Tryd.prog 27 #[.pointer (some ⟨s, 0, none⟩), .int .i64 n] w (RetN w s (m + 2) fun x => 0 ≤ x ∧ (x < n ∨ x = 0)) := by
  have HN := Lib.hid (fun m w h hm => next_c2 s m w h hm)
  have HS := Lib.hid h
  clear h
  by_cases h1 : n ≤ 1
  · go_enter Tryd.func27, Tryd.ntmps27
    go_wp2
    go_ret
    exact ⟨0, rfl, by omega, Exc.refl _ _, HS.out.more (by omega)⟩
  · by_cases h2 : 200 < n
    · go_enter Tryd.func27, Tryd.ntmps27
      go_wp2_with fail
      refine (HN.out m w HS.out (by omega)).mono ?_
      rintro e w1 ⟨x, rfl, hx, he, hs⟩
      have HE := Lib.hid he
      have HS1 := Lib.hid hs
      clear he hs
      go_wp2_with fail
      refine (HN.out (m + 1) w1 HS1.out (by omega)).mono ?_
      rintro e w2 ⟨y, rfl, hy, he, hs⟩
      have HE2 := Lib.hid (HE.out.trans he)
      have HS2 := Lib.hid hs
      clear he hs
      obtain ⟨z, hz⟩ : ∃ z, z = x * 256 + y := ⟨_, rfl⟩
      have hz1 : 0 ≤ z ∧ z ≤ 65535 := by omega
      have q1 := Int.emod_nonneg z (show n ≠ 0 by omega)
      have q2 := Int.emod_lt_of_pos z (show 0 < n by omega)
      have hb1 := hz
      go_wp2
      go_ret
      rw [← hz]
      exact ⟨_, rfl, by omega, HE2.out, HS2.out⟩
    · go_enter Tryd.func27, Tryd.ntmps27
      go_wp2_with fail
      refine (HN.out m w HS.out (by omega)).mono ?_
      rintro e w1 ⟨x, rfl, hx, he, hs⟩
      have HE := Lib.hid he
      have HS1 := Lib.hid hs
      clear he hs
      have q1 := Int.emod_nonneg x (show n ≠ 0 by omega)
      have q2 := Int.emod_lt_of_pos x (show 0 < n by omega)
      go_wp2
      go_ret
      exact ⟨_, rfl, by omega, HE.out, HS1.out.more (by omega)⟩
theorem one_c (s m : Nat) (n : Int) (w : World) (h : SrcE w s m) (hm : m ≤ 4000000000) (hn : n ≤ 40000) :
    Calls Tryd.prog 54 #[.pointer (some ⟨s, 0, none⟩), .int .i64 n] w (fun e w' => ∃ b : Bool, e = .returned (.bool b) ∧ Exc [s] w w' ∧ SrcE w' s (m + 2)) := by
  have HN := Lib.hid (pick_c s m n w h hm hn)
  clear h
  go_enter Tryd.func54, Tryd.ntmps54
  go_wp2_with fail
  refine HN.out.mono ?_
  rintro e w1 ⟨x, rfl, hx, he, hs⟩
  have HE := Lib.hid he
  have HS1 := Lib.hid hs
  clear he hs
  go_wp2
  go_ret
  exact ⟨_, rfl, HE.out, HS1.out⟩
theorem Chg.low {F : List Nat} {w w1 w2 : World} (h : Chg F w w1) (h2 : Below w.heap.size w1 w2) : Chg F w w2 :=
  ⟨h2.os.trans h.os, h2.tape.trans h.tape, h2.output.trans h.output, Nat.le_trans h.size h2.size, fun k hk hF => (h2.block k hk).trans (h.block k hk hF)⟩
/-- The call draws a list of which p holds, in memory of its own. -/
def RetL (w : World) (s m : Nat) (p : List Int → Prop) (e : Ending) (w' : World) : Prop := ∃ xs v F, e = .returned v ∧ Chg [s] w w' ∧ Ow w' (dI xs) v F ∧ F.Nodup ∧ (∀ g, g ∈ F → w.heap.size ≤ g) ∧ p xs ∧ SrcE w' s m
theorem Bld.exc {E : Nat} {w w' : World} {B s : Nat} {v : Value} {vs : List Value} (h : Bld E w B v vs) (he : Exc [s] w w') (hs : s < B) : Bld E w' B v vs :=
  ownsRow_kept h fun g hg => he.block g (by have := (ob_lt h g hg).1; simp; omega)
set_option maxHeartbeats 1000000 in
theorem l01Draw_c (s m : Nat) (kinds : Nat) (most : Int) (w : World) (h : SrcE w s m) (hm : m ≤ 1000000000) (hk : kinds ≤ 1000) (h0 : 0 ≤ most ∧ most ≤ 1000) :
    Calls Tryd.prog 28 #[.pointer (some ⟨s, 0, none⟩), .int .i64 kinds, .int .i64 most] w (RetL w s (m + 4 * kinds) fun xs => xs.length = kinds ∧ ∀ j, j < xs.length → 0 ≤ nth xs j ∧ nth xs j ≤ most) := by
  have HP := Lib.hid (fun m w h hm => pick_c s m (most + 1) w h hm (by omega))
  have HO := Lib.hid (fun m w h hm => one_c s m 3 w h hm (by omega))
  have HS := Lib.hid h
  have hsz := h.lt
  clear h
  go_enter Tryd.func28, Tryd.ntmps28
  go_wp2
  go_loopw [7, 8, 9] (fun v i _ wr => ∃ (k : Nat) (xs : List Int), k ≤ kinds ∧ i = .int .i64 k ∧ xs.length = k ∧ Hid (∀ j, j < xs.length → 0 ≤ nth xs j ∧ nth xs j ≤ most) ∧ Hid (Chg [s] w wr) ∧ Hid (Bld 2 wr w.heap.size v (xs.map (.int .i64))) ∧ Hid (SrcE wr s (m + 4 * k))) (fun _ i _ _ => kinds - (intOf i).toNat)
  case atStart => exact ⟨0, [], Nat.zero_le _, rfl, rfl, Lib.hid (by simp), Lib.hid (Chg.ofBelow ((Below.refl _ _).alloc (Nat.le_refl _) _)), Lib.hid (Bld.empty 2 w _ (Nat.le_refl _)), Lib.hid ((HS.out.below (below_alloc _ _) hsz).more (by omega))⟩
  case round =>
    obtain ⟨k, xs, hk2, rfl, hxl, HX, HC, HB, HE⟩ := hrel
    by_cases hlt : k < kinds
    · go_wp2_with fail
      refine (HP.out _ _ HE.out (by omega)).mono ?_
      rintro e w1 ⟨x, rfl, hx, he1, hs1⟩
      have HC1 := Lib.hid (HC.out.trans he1.chg)
      have HB1 := Lib.hid (HB.out.exc he1 hsz)
      have HE1 := Lib.hid hs1
      clear he1 hs1
      go_wp2_with fail
      refine (HO.out _ _ HE1.out (by omega)).mono ?_
      rintro e w2 ⟨b, rfl, he2, hs2⟩
      have HC2 := Lib.hid (HC1.out.trans he2.chg)
      have HB2 := Lib.hid (HB1.out.exc he2 hsz)
      have HE2 := Lib.hid hs2
      have hz2 := HC2.out.size
      clear he2 hs2
      cases b
      · have hbl' := HB2.out.below (below_alloc w2 (.cells #[.int .i64 x] 2))
        go_wp2_with (at_builtin; refine app_one rfl _ _ 22 rfl tabI rfl (by decide) w.heap.size _ _ rfl hbl' w2.heap.size (.int .i64 x) rfl rfl ?c1 ?c2 ?c3 ?_)
        case c1 => simp
        case c2 => simp; omega
        case c3 => simp; omega
        intro v' w3 hbl3 hb3
        have HB3 : Hid (Bld 2 w3 w.heap.size v' ((xs ++ [x]).map (.int .i64))) := Lib.hid (by simpa using hbl3)
        have HC3 : Hid (Chg [s] w w3) := Lib.hid ((HC2.out.trans (Chg.ofBelow (below_alloc w2 _))).low hb3)
        have HE3 : Hid (SrcE w3 s (m + 4 * (k + 1))) := Lib.hid (((HE2.out.below (below_alloc w2 _) (by omega)).below hb3 hsz).more (by omega))
        have HX3 : Hid (∀ j, j < (xs ++ [x]).length → 0 ≤ nth (xs ++ [x]) j ∧ nth (xs ++ [x]) j ≤ most) := Lib.hid fun j hj => by
          by_cases e : j < xs.length
          · have := HX.out j e; simpa [nth, List.getElem?_append_left e] using this
          · have e2 : j = xs.length := by simp at hj; omega
            subst e2; simp [nth]; omega
        clear hbl3 hb3 hbl'
        go_wp2
        go_roundw
        case rel => exact ⟨k + 1, xs ++ [x], by omega, by go_num, by simp [hxl], HX3, HC3, HB3, HE3⟩
        case measure => simp [intOf]; omega
      · have hbl' := HB2.out.below (below_alloc w2 (.cells #[.int .i64 0] 2))
        go_wp2_with (at_builtin; refine app_one rfl _ _ 22 rfl tabI rfl (by decide) w.heap.size _ _ rfl hbl' w2.heap.size (.int .i64 0) rfl rfl ?c1 ?c2 ?c3 ?_)
        case c1 => simp
        case c2 => simp; omega
        case c3 => simp; omega
        intro v' w3 hbl3 hb3
        have HB3 : Hid (Bld 2 w3 w.heap.size v' ((xs ++ [0]).map (.int .i64))) := Lib.hid (by simpa using hbl3)
        have HC3 : Hid (Chg [s] w w3) := Lib.hid ((HC2.out.trans (Chg.ofBelow (below_alloc w2 _))).low hb3)
        have HE3 : Hid (SrcE w3 s (m + 4 * (k + 1))) := Lib.hid (((HE2.out.below (below_alloc w2 _) (by omega)).below hb3 hsz).more (by omega))
        have HX3 : Hid (∀ j, j < (xs ++ [0]).length → 0 ≤ nth (xs ++ [0]) j ∧ nth (xs ++ [0]) j ≤ most) := Lib.hid fun j hj => by
          by_cases e : j < xs.length
          · have := HX.out j e; simpa [nth, List.getElem?_append_left e] using this
          · have e2 : j = xs.length := by simp at hj; omega
            subst e2; simp [nth]; omega
        clear hbl3 hb3 hbl'
        go_wp2
        go_roundw
        case rel => exact ⟨k + 1, xs ++ [0], by omega, by go_num, by simp [hxl], HX3, HC3, HB3, HE3⟩
        case measure => simp [intOf]; omega
    · have e : k = kinds := by omega
      subst e
      go_wp2
      go_ret
      obtain ⟨a, c, F, rfl, ho, hn, hF⟩ := HB.out.ow (by rw [hxl]; unfold maxLen; omega)
      exact ⟨xs, _, F, rfl, HC.out, ho, hn, hF, ⟨hxl, HX.out⟩, HE.out⟩
end Go.Proofs.YtbnikblhnibgiaaDoor
