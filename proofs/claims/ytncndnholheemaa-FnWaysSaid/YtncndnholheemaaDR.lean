/- The source of draws of the laws over bytes: contracts. -/
import Derived.Test.YtncndnholheemaaM
import Derived.Laws.BitsLemmas
namespace Go.Proofs.Ytncndnholheemaa
open Go.RowKit

theorem tabU8 : Tab Try.prog 22 5 (.int .u8 0) 1 1 := ⟨by kernel_rfl, by kernel_rfl⟩
/-- Cells of bytes, read through an address. -/
structure SlU (S : Nat → Prop) (w : World) (a : Option Addr) (n : Nat) : Prop where
  len : n ≤ maxLen
  ptr : 0 < n → S (blk a) ∧ ∃ g o, a = some ⟨g, o, none⟩
  cell : ∀ i, i < n → ∃ x : Int, 0 ≤ x ∧ x < 256 ∧ w.cell? (adr a i) = some (.int .u8 x)
theorem SlU.ix {P : Program} {T E : Nat} {S : Nat → Prop} {w : World} {a : Option Addr} {n : Nat} (h : SlU S w a n) (hT : P.underlying T = some (.slice E)) (hE : (P.info? E).map (·.size) = some 1)
   (c : Nat) (i : Int) (w' : World) (h0 : 0 ≤ i) (h1 : i < n) : (Instr.indexAt T (.slice a n c) (.int .i64 i)).run P w' = .ok (.pointer (some (adr a i.toNat))) w' := by
  rw [ix_of hT hE (fun h0 => (h.ptr h0).2) c i w' h0 h1, Nat.mul_one]
theorem SlU.keep {S : Nat → Prop} {w w' : World} {a : Option Addr} {n : Nat} (h : SlU S w a n) (hk : ∀ k, S k → k < w.heap.size → w'.heap[k]? = w.heap[k]?) : SlU S w' a n :=
  ⟨h.len, h.ptr, fun i hi => by
    obtain ⟨x, h1, h2, h3⟩ := h.cell i hi
    refine ⟨x, h1, h2, ?_⟩
    rw [World.cell?_of_block (w := w) (hk (blk a) (h.ptr (by omega)).1 (World.block_lt_of_cell? w _ h3))]; exact h3⟩
theorem SlU.below {S : Nat → Prop} {w w' : World} {a : Option Addr} {n : Nat} (h : SlU S w a n) (hb : Below w.heap.size w w') : SlU S w' a n := h.keep fun k _ hk => hb.block k hk
theorem SlU.any {S T : Nat → Prop} {w : World} {a : Option Addr} {n : Nat} (h : SlU S w a n) (hs : ∀ k, S k → T k) : SlU T w a n := ⟨h.len, fun h0 => ⟨hs _ (h.ptr h0).1, (h.ptr h0).2⟩, h.cell⟩

/-- A source of draws in the block s, at its t-th byte. -/
structure Src (w : World) (s : Nat) (a : Option Addr) (n c : Nat) (t : Nat) (z : Int) : Prop where
  c0 : w.cell? ⟨s, 0, none⟩ = some (.slice a n c)
  c1 : w.cell? ⟨s, 1, none⟩ = some (.int .i64 t)
  c2 : w.cell? ⟨s, 2, none⟩ = some (.int .u64 z)
  f1 : w.frozen? ⟨s, 1, none⟩ = false
  f2 : w.frozen? ⟨s, 2, none⟩ = false
  by_ : SlU (· < s) w a n
/-- A source from which at most m bytes were drawn. -/
def SrcE (w : World) (s m : Nat) : Prop := ∃ a n c t z, t ≤ m ∧ Src w s a n c t z
theorem Src.keep {w w' : World} {s : Nat} {a : Option Addr} {n c t : Nat} {z : Int} (h : Src w s a n c t z) (hk : ∀ k, k ≤ s → w'.heap[k]? = w.heap[k]?) : Src w' s a n c t z := by
  have hc : ∀ i, w'.cell? ⟨s, i, none⟩ = w.cell? ⟨s, i, none⟩ := fun i => World.cell?_of_block (hk s (Nat.le_refl _))
  have hf : ∀ i, w'.frozen? ⟨s, i, none⟩ = w.frozen? ⟨s, i, none⟩ := fun i => World.frozen?_of_block (hk s (Nat.le_refl _))
  exact ⟨(hc 0).trans h.c0, (hc 1).trans h.c1, (hc 2).trans h.c2, (hf 1).trans h.f1, (hf 2).trans h.f2, h.by_.keep fun k h1 _ => hk k (Nat.le_of_lt h1)⟩
theorem Src.lt {w : World} {s : Nat} {a : Option Addr} {n c t : Nat} {z : Int} (h : Src w s a n c t z) : s < w.heap.size := World.block_lt_of_cell? w _ h.c0
theorem SrcE.lt {w : World} {s m : Nat} (h : SrcE w s m) : s < w.heap.size := by obtain ⟨_, _, _, _, _, _, h⟩ := h; exact h.lt
theorem SrcE.keep {w w' : World} {s m : Nat} (h : SrcE w s m) (hk : ∀ k, k ≤ s → w'.heap[k]? = w.heap[k]?) : SrcE w' s m := by
  obtain ⟨a, n, c, t, z, ht, h⟩ := h; exact ⟨a, n, c, t, z, ht, h.keep hk⟩
theorem SrcE.below {w w' : World} {s m B : Nat} (h : SrcE w s m) (hb : Below B w w') (hB : s < B) : SrcE w' s m := h.keep fun k hk => hb.block k (by omega)
theorem SrcE.chg {w w' : World} {s m : Nat} {F : List Nat} (h : SrcE w s m) (hb : Chg F w w') (hF : ∀ g, g ∈ F → s < g) : SrcE w' s m := h.keep fun k hk => hb.block k (by have := h.lt; omega) (fun hg => by have := hF _ hg; omega)
theorem SrcE.more {w : World} {s m m' : Nat} (h : SrcE w s m) (hm : m ≤ m') : SrcE w s m' := by obtain ⟨a, n, c, t, z, ht, h⟩ := h; exact ⟨a, n, c, t, z, by omega, h⟩
theorem Src.step {w : World} {s : Nat} {a : Option Addr} {n c t : Nat} {z : Int} (h : Src w s a n c t z) (z' : Int) : Src ((w.setCell ⟨s, 1, none⟩ (.int .i64 ((t : Int) + 1))).setCell ⟨s, 2, none⟩ (.int .u64 z')) s a n c (t + 1) z' := by
  have o : ∀ (w : World) (i j : Nat) (v : Value), i ≠ j → (w.setCell ⟨s, i, none⟩ v).cell? ⟨s, j, none⟩ = w.cell? ⟨s, j, none⟩ := fun w i j v h => World.cell?_setCell_other _ _ _ _ (by intro e; cases e; exact h rfl)
  refine ⟨?_, ?_, ?_, ?_, ?_, ?_⟩
  · rw [o _ 2 0 _ (by omega), o _ 1 0 _ (by omega)]; exact h.c0
  · rw [o _ 2 1 _ (by omega), World.cell?_setCell_same _ _ _ h.c1]; simp
  · exact World.cell?_setCell_same _ _ _ (by rw [o _ 1 2 _ (by omega)]; exact h.c2)
  · rw [World.frozen?_setCell, World.frozen?_setCell]; exact h.f1
  · rw [World.frozen?_setCell, World.frozen?_setCell]; exact h.f2
  · exact h.by_.keep fun k hk _ => (((Exc.setCell w ⟨s, 1, none⟩ (.int .i64 ((t : Int) + 1))).trans (Exc.setCell _ ⟨s, 2, none⟩ (.int .u64 z'))).block k (by simp; omega))
theorem Src.exc (w : World) (s : Nat) (v v' : Value) : Exc [s] w ((w.setCell ⟨s, 1, none⟩ v).setCell ⟨s, 2, none⟩ v') := (Exc.setCell w ⟨s, 1, none⟩ v).trans (Exc.setCell _ ⟨s, 2, none⟩ v')
theorem Src.stepN {w : World} {s : Nat} {a : Option Addr} {n c t : Nat} {z : Int} (h : Src w s a n c t z) (k k2 : Nat) (z' : Int) : Src (((((w.drewN k).setCell ⟨s, 1, none⟩ (.int .i64 ((t : Int) + 1))).setCell ⟨s, 2, none⟩ (.int .u64 z'))).drewN k2) s a n c (t + 1) z' :=
  ((h.keep (w' := w.drewN k) (fun _ _ => rfl)).step z').keep (fun _ _ => rfl)
theorem Src.excN (w : World) (s k k2 : Nat) (v v' : Value) : Exc [s] w (((((w.drewN k).setCell ⟨s, 1, none⟩ v).setCell ⟨s, 2, none⟩ v')).drewN k2) :=
  have h := Src.exc (w.drewN k) s v v'
  ⟨h.os, h.tape, h.output, h.size, h.block⟩
theorem u64_and255 {x : Int} (h0 : 0 ≤ x) (h1 : x < 18446744073709551616) : bits .and .u64 x 255 = x % 256 :=
  bits_mask .u64 64 (by decide) (fun n a b => by simp [IntKind.wrap, IntKind.bits, IntKind.signed]; omega) 8 (by decide) x h0 h1
theorem lastByte (y : Int) : 0 ≤ wrap64 (bits .and .u64 (IntKind.u64.wrap y / 1099511627776) 255) ∧ wrap64 (bits .and .u64 (IntKind.u64.wrap y / 1099511627776) 255) ≤ 255 := by
  have e : IntKind.u64.wrap y = y % 18446744073709551616 := by simp [IntKind.wrap, IntKind.bits, IntKind.signed]
  rw [e, u64_and255 (by omega) (by omega)]
  unfold wrap64; omega
/-- The call draws a number of which p holds. -/
def RetN (w : World) (s m : Nat) (p : Int → Prop) (e : Ending) (w' : World) : Prop := ∃ x : Int, e = .returned (.int .i64 x) ∧ p x ∧ Exc [s] w w' ∧ SrcE w' s m
set_option maxHeartbeats 1000000 in
theorem next_c2 (s m : Nat) (w : World) (h : SrcE w s m) (hm : m ≤ 4294967296) :
    Calls Try.prog 95 #[.pointer (some ⟨s, 0, none⟩)] w (RetN w s (m + 1) fun x => 0 ≤ x ∧ x ≤ 255) := by
  obtain ⟨a, n, c, t, z, ht, hs⟩ := h
  have i1 := hs.by_.ix tabU8.under tabU8.size c
  have c0 := hs.c0
  have c1 := hs.c1
  have c2 := hs.c2
  have f1 := hs.f1
  have f2 := hs.f2
  have hl := hs.by_.len
  unfold maxLen at hl
  have HS := Lib.hid hs
  by_cases hlt : t < n
  · obtain ⟨x, hx0, hx1, gx⟩ := hs.by_.cell t hlt
    clear hs
    go_enter Try.func95, Try.ntmps95
    go_wp2
    go_quiet (fail)
    go_wp2
    go_quiet (fail)
    go_wp2
    go_quiet (fail)
    go_wp2
    go_ret
    exact ⟨_, rfl, by first | omega | exact lastByte _, Src.excN _ _ _ _ _ _, a, n, c, t + 1, _, by omega, HS.out.stepN _ _ _⟩
  · clear hs
    go_enter Try.func95, Try.ntmps95
    go_wp2
    go_quiet (fail)
    go_wp2
    go_quiet (fail)
    go_wp2
    go_ret
    exact ⟨_, rfl, by first | omega | exact lastByte _, Src.excN _ _ _ _ _ _, a, n, c, t + 1, _, by omega, HS.out.stepN _ _ _⟩
theorem l00From_c (a : Option Addr) (n c : Nat) (w : World) (h : SlU (· < w.heap.size) w a n) :
    Calls Try.prog 40 #[.slice a n c] w (fun e w' => e = .returned (.pointer (some ⟨w.heap.size, 0, none⟩)) ∧ Below w.heap.size w w' ∧ w.heap.size < w'.heap.size ∧ SrcE w' w.heap.size 0) := by
  have hb := below_alloc w (.cells #[.slice a n c, .int .i64 0, .int .u64 0] 138)
  have HE : Hid (SrcE (w.alloc (.cells #[.slice a n c, .int .i64 0, .int .u64 0] 138)) w.heap.size 0) := Lib.hid ⟨a, n, c, 0, 0, Nat.le_refl _, by simp [go_sem], by simp [go_sem], by simp [go_sem], by simp [go_sem], by simp [go_sem], h.below hb⟩
  have HB := Lib.hid hb
  clear hb h
  go_enter Try.func40, Try.ntmps40
  go_wp2
  go_ret
  exact ⟨rfl, HB.out, by simp, HE.out⟩
set_option maxHeartbeats 1000000 in
theorem pick_c (s m : Nat) (n : Int) (w : World) (h : SrcE w s m) (hm : m ≤ 4000000000) (hn : n ≤ 40000) :
    Calls Try.prog 43 #[.pointer (some ⟨s, 0, none⟩), .int .i64 n] w (RetN w s (m + 2) fun x => 0 ≤ x ∧ (x < n ∨ x = 0)) := by
  have HN := Lib.hid (fun m w h hm => next_c2 s m w h hm)
  have HS := Lib.hid h
  clear h
  by_cases h1 : n ≤ 1
  · go_enter Try.func43, Try.ntmps43
    go_wp2
    go_ret
    exact ⟨0, rfl, by omega, Exc.refl _ _, HS.out.more (by omega)⟩
  · by_cases h2 : 200 < n
    · go_enter Try.func43, Try.ntmps43
      go_wp2_with fail
      refine (HN.out m w HS.out (by omega)).mono ?_
      rintro e w1 ⟨x, rfl, hx, he, hs⟩
      have HE := Lib.hid he
      have HS1 := Lib.hid hs
      clear he hs
      go_wp2_with fail
      refine (HN.out (m + 1) w1 HS1.out (by omega)).mono ?_
      rintro e w2 ⟨y, rfl, hy, he, hs⟩
      have HE2 := Lib.hid (HE.out.trans he)
      have HS2 := Lib.hid hs
      clear he hs
      obtain ⟨z, hz⟩ : ∃ z, z = x * 256 + y := ⟨_, rfl⟩
      have hz1 : 0 ≤ z ∧ z ≤ 65535 := by omega
      have q1 := Int.emod_nonneg z (show n ≠ 0 by omega)
      have q2 := Int.emod_lt_of_pos z (show 0 < n by omega)
      have hb1 := hz
      go_wp2
      go_ret
      rw [← hz]
      exact ⟨_, rfl, by omega, HE2.out, HS2.out⟩
    · go_enter Try.func43, Try.ntmps43
      go_wp2_with fail
      refine (HN.out m w HS.out (by omega)).mono ?_
      rintro e w1 ⟨x, rfl, hx, he, hs⟩
      have HE := Lib.hid he
      have HS1 := Lib.hid hs
      clear he hs
      have q1 := Int.emod_nonneg x (show n ≠ 0 by omega)
      have q2 := Int.emod_lt_of_pos x (show 0 < n by omega)
      go_wp2
      go_ret
      exact ⟨_, rfl, by omega, HE.out, HS1.out.more (by omega)⟩
theorem one_c (s m : Nat) (n : Int) (w : World) (h : SrcE w s m) (hm : m ≤ 4000000000) (hn : n ≤ 40000) :
    Calls Try.prog 45 #[.pointer (some ⟨s, 0, none⟩), .int .i64 n] w (fun e w' => ∃ b : Bool, e = .returned (.bool b) ∧ Exc [s] w w' ∧ SrcE w' s (m + 2)) := by
  have HN := Lib.hid (pick_c s m n w h hm hn)
  clear h
  go_enter Try.func45, Try.ntmps45
  go_wp2_with fail
  refine HN.out.mono ?_
  rintro e w1 ⟨x, rfl, hx, he, hs⟩
  have HE := Lib.hid he
  have HS1 := Lib.hid hs
  clear he hs
  go_wp2
  go_ret
  exact ⟨_, rfl, HE.out, HS1.out⟩
