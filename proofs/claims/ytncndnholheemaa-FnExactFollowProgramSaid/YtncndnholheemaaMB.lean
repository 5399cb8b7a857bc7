/- The rules that a program becomes: the program's small functions. Written by mkmb.py. -/
import Derived.Test.YtncndnholheemaaMA
namespace Go.Proofs.Ytncndnholheemaa
open Go.RowKit

theorem nth_cast {K : Nat} {ks : List Int} (hk : ∀ j, j < ks.length → 0 ≤ nth ks j ∧ nth ks j < K) {k : Nat} (h : k < ks.length) : ∃ m : Nat, nth ks k = m ∧ m < K := ⟨(nth ks k).toNat, by have := hk k h; omega, by have := hk k h; omega⟩
theorem map_set_int (xs : List Int) (i : Nat) (y : Int) : (xs.map (Value.int .i64)).set i (.int .i64 y) = (xs.set i y).map (.int .i64) := by rw [List.map_set]
theorem map_get_int {xs : List Int} {i : Nat} (h : i < xs.length) : (xs.map (Value.int .i64))[i]? = some (.int .i64 (nth xs i)) := by simp [nth, h]
set_option maxHeartbeats 1000000 in
theorem bag_c (K : Nat) (p : Nat) (a : Option Addr) (c : Nat) (ks : List Int) (w : World) (hx : SlI Any w a ks) (hp : w.cell? ⟨p, 0, none⟩ = some (.int .i64 K)) (hK : K ≤ 17) (hk : ∀ j, j < ks.length → 0 ≤ nth ks j ∧ nth ks j < K) (h2 : ks.length ≤ 2) :
    Calls Try.prog 160 #[.pointer (some ⟨p, 0, none⟩), .slice a ks.length c] w (RetD w (dI (bagK K ks))) := by
  have i1 := hx.ix tabI.under tabI.size c
  have HKs := Lib.hid hk
  clear hk
  go_enter Try.func160, Try.ntmps160
  go_wp2_with (at_make; refine make_one rfl _ _ 24 rfl tabI rfl (by decide) K _ _ rfl rfl rfl rfl (by omega) w.heap.size (Nat.le_refl _) ?_)
  intro w0 hbl0 hb0 hz0
  have HBL0 : Hid (Bld 2 w0 w.heap.size (.slice (some ⟨w.heap.size, 0, none⟩) K K) ((bagTo K ks 0).map (.int .i64))) := Lib.hid (by rw [bagTo, List.map_replicate]; exact hbl0)
  have i2 := ix_of (P := Try.prog) tabI.under tabI.size (a := some ⟨w.heap.size, 0, none⟩) (n := K) (fun _ => ⟨w.heap.size, 0, rfl⟩) K
  simp only [Nat.mul_one, adr, blk, ofs, Nat.zero_add] at i2
  clear hbl0
  go_wp2
  go_loopw [15] (fun i wr => ∃ k : Nat, k ≤ ks.length ∧ i = .int .i64 k ∧ Below w.heap.size w wr ∧ Bld 2 wr w.heap.size (.slice (some ⟨w.heap.size, 0, none⟩) K K) ((bagTo K ks k).map (.int .i64))) (fun i _ => ks.length - (intOf i).toNat)
  case atStart => exact ⟨0, Nat.zero_le _, rfl, hb0, HBL0.out⟩
  case round =>
    obtain ⟨k, hkl, rfl, hb, hbl⟩ := hrel
    have HB := Lib.hid hb
    have HL := Lib.hid hbl
    by_cases hlt : k < ks.length
    · obtain ⟨m, hm, hmK⟩ := nth_cast HKs.out hlt
      have g1 := (hx.below hb).cell k hlt
      rw [hm] at g1
      have g2 := hbl.cell (i := m) (v := .int .i64 (nth (bagTo K ks k) m)) (map_get_int (by rw [bagTo_len]; exact hmK))
      have g3 := hbl.free m
      have hbd := bagTo_bd K ks HKs.out k (by omega) m
      have HN : Hid (bagTo K ks (k + 1) = (bagTo K ks k).set m (nth (bagTo K ks k) m + 1)) := Lib.hid (by rw [bagTo, incr, hm, Int.toNat_natCast])
      clear hb hbl HBL0 hm
      go_wp2
      go_roundw
      case rel => exact ⟨k + 1, by omega, by go_num, HB.out.setCell (by exact Nat.le_refl _) _, by rw [HN.out, ← map_set_int]; exact HL.out.set m _⟩
      case measure => simp [intOf]; omega
    · clear hb hbl HBL0
      go_wp2
      go_ret
      obtain rfl : k = ks.length := by omega
      exact RetD.ofBld (xs := bagK K ks) HL.out (by have := bagK_len K ks; unfold maxLen; omega) HB.out
set_option maxHeartbeats 1000000 in
theorem sbag_c (K : Nat) (p : Nat) (a : Option Addr) (c : Nat) (ks : List Int) (w : World) (hx : SlI Any w a ks) (hp : w.cell? ⟨p, 0, none⟩ = some (.int .i64 K)) (hK : K ≤ 17) (hk : ∀ j, j < ks.length → 0 ≤ nth ks j ∧ nth ks j < K) (h2 : ks.length ≤ 2) :
    Calls Try.prog 178 #[.pointer (some ⟨p, 0, none⟩), .slice a ks.length c] w (RetD w (dI (bagK K ks))) := by
  have i1 := hx.ix tabI.under tabI.size c
  have HKs := Lib.hid hk
  clear hk
  go_enter Try.func178, Try.ntmps178
  go_wp2_with (at_make; refine make_one rfl _ _ 24 rfl tabI rfl (by decide) K _ _ rfl rfl rfl rfl (by omega) w.heap.size (Nat.le_refl _) ?_)
  intro w0 hbl0 hb0 hz0
  have HBL0 : Hid (Bld 2 w0 w.heap.size (.slice (some ⟨w.heap.size, 0, none⟩) K K) ((bagTo K ks 0).map (.int .i64))) := Lib.hid (by rw [bagTo, List.map_replicate]; exact hbl0)
  have i2 := ix_of (P := Try.prog) tabI.under tabI.size (a := some ⟨w.heap.size, 0, none⟩) (n := K) (fun _ => ⟨w.heap.size, 0, rfl⟩) K
  simp only [Nat.mul_one, adr, blk, ofs, Nat.zero_add] at i2
  clear hbl0
  go_wp2
  go_loopw [6] (fun i wr => ∃ k : Nat, k ≤ ks.length ∧ i = .int .i64 k ∧ Below w.heap.size w wr ∧ Bld 2 wr w.heap.size (.slice (some ⟨w.heap.size, 0, none⟩) K K) ((bagTo K ks k).map (.int .i64))) (fun i _ => ks.length - (intOf i).toNat)
  case atStart => exact ⟨0, Nat.zero_le _, rfl, hb0, HBL0.out⟩
  case round =>
    obtain ⟨k, hkl, rfl, hb, hbl⟩ := hrel
    have HB := Lib.hid hb
    have HL := Lib.hid hbl
    by_cases hlt : k < ks.length
    · obtain ⟨m, hm, hmK⟩ := nth_cast HKs.out hlt
      have g1 := (hx.below hb).cell k hlt
      rw [hm] at g1
      have g2 := hbl.cell (i := m) (v := .int .i64 (nth (bagTo K ks k) m)) (map_get_int (by rw [bagTo_len]; exact hmK))
      have g3 := hbl.free m
      have hbd := bagTo_bd K ks HKs.out k (by omega) m
      have HN : Hid (bagTo K ks (k + 1) = (bagTo K ks k).set m (nth (bagTo K ks k) m + 1)) := Lib.hid (by rw [bagTo, incr, hm, Int.toNat_natCast])
      clear hb hbl HBL0 hm
      go_wp2
      go_roundw
      case rel => exact ⟨k + 1, by omega, by go_num, HB.out.setCell (by exact Nat.le_refl _) _, by rw [HN.out, ← map_set_int]; exact HL.out.set m _⟩
      case measure => simp [intOf]; omega
    · clear hb hbl HBL0
      go_wp2
      go_ret
      obtain rfl : k = ks.length := by omega
      exact RetD.ofBld (xs := bagK K ks) HL.out (by have := bagK_len K ks; unfold maxLen; omega) HB.out
theorem label_c (R : Int) (vo : Value) (at_ : Int) (w : World) (h0 : 0 ≤ R ∧ R ≤ 3) (h1 : 0 ≤ at_ ∧ at_ ≤ 6) : Calls Try.prog 131 #[.agg #[.int .i64 R, vo], .int .i64 at_] w (RetV w (.int .i64 (R + at_))) := by
  go_enter Try.func131, Try.ntmps131
  go_wp2
  go_ret
  exact ⟨rfl, below_alloc _ _⟩
theorem l05Label_c (R : Int) (p : Nat) (at_ : Int) (w : World) (hp0 : w.cell? ⟨p, 0, none⟩ = some (.int .i64 R)) (h0 : 0 ≤ R ∧ R ≤ 3) (h1 : 0 ≤ at_ ∧ at_ ≤ 6) : Calls Try.prog 156 #[.pointer (some ⟨p, 0, none⟩), .int .i64 at_] w (RetP w (.int .i64 (R + at_))) := by
  go_enter Try.func156, Try.ntmps156
  go_wp2
  go_ret
  exact ⟨rfl, rfl⟩
set_option maxHeartbeats 1000000 in
theorem l05Waits_c (p : Nat) (ao : Option Addr) (co : Nat) (os : List Ord) (at_ : Nat) (w : World) (ho : SlO Any w ao os) (hp1 : w.cell? ⟨p, 1, none⟩ = some (.slice ao os.length co)) (h1 : at_ ≤ os.length) (h6 : os.length ≤ 6) :
    Calls Try.prog 158 #[.pointer (some ⟨p, 0, none⟩), .int .i64 at_] w (RetP w (.int .i64 (subsTo os at_ : Nat))) := by
  have i1 := ixO ho co
  go_enter Try.func158, Try.ntmps158
  go_wp2
  go_loopw [5, 6] (fun n i wr => ∃ k : Nat, k ≤ at_ ∧ i = .int .i64 k ∧ n = .int .i64 (subsTo os k : Nat) ∧ wr = w) (fun _ i _ => at_ - (intOf i).toNat)
  case atStart => exact ⟨0, Nat.zero_le _, rfl, rfl, rfl⟩
  case round =>
    obtain ⟨k, hk, rfl, rfl, rfl⟩ := hrel
    have hs := subsTo_le os k
    by_cases hlt : k < at_
    · have g0 := ho.c0 k (by omega)
      have HN : Hid (subsTo os (k + 1) = subsTo os k + if isSub (nthO os k) = true then 1 else 0) := Lib.hid rfl
      have hko : (k : Int) < os.length := by omega
      cases hq : isSub (nthO os k)
      · have hq' : ((nthO os k).op == 2) = false := hq
        have HQ := Lib.hid hq
        clear hq
        go_wp2
        go_roundw
        case rel => exact ⟨k + 1, by omega, by go_num, by rw [HN.out, HQ.out]; rfl, by first | trivial | rfl⟩
        case measure => simp [intOf]; omega
      · have hq' : ((nthO os k).op == 2) = true := hq
        have HQ := Lib.hid hq
        clear hq
        go_wp2
        go_roundw
        case rel => exact ⟨k + 1, by omega, by go_num, by rw [HN.out, HQ.out]; simp, by first | trivial | rfl⟩
        case measure => simp [intOf]; omega
    · obtain rfl : k = at_ := by omega
      go_wp2
      go_ret
      exact ⟨rfl, rfl⟩
set_option maxHeartbeats 1000000 in
theorem l05Kinds_c (R : Nat) (p : Nat) (ao : Option Addr) (co : Nat) (os : List Ord) (mode : Int) (w : World) (ho : SlO Any w ao os) (hp0 : w.cell? ⟨p, 0, none⟩ = some (.int .i64 R)) (hp1 : w.cell? ⟨p, 1, none⟩ = some (.slice ao os.length co)) (hpg : PgOk R os) :
    Calls Try.prog 155 #[.pointer (some ⟨p, 0, none⟩), .int .i64 mode] w (RetP w (.int .i64 (kindsN R os mode : Nat))) := by
  have HW := Lib.hid (l05Waits_c p ao co os os.length w ho hp1 (Nat.le_refl _) hpg.n6)
  have hs := subsTo_le os os.length
  have h3 := hpg.r3
  have h6 := hpg.n6
  have l1 := ho.len
  unfold maxLen at l1
  clear hpg
  by_cases hm : mode = 3
  · subst hm
    have HE : Hid (((kindsN R os 3 : Nat) : Int) = (R : Int) + os.length + 1 + (subsTo os os.length + 1)) := Lib.hid (by simp [kindsN])
    go_enter Try.func155, Try.ntmps155
    go_wp2_with fail
    refine HW.out.mono ?_
    rintro e w1 ⟨rfl, rfl⟩
    go_wp2
    go_ret
    exact ⟨ret_int (by rw [HE.out]), rfl⟩
  · have HE : Hid (((kindsN R os mode : Nat) : Int) = (R : Int) + os.length + 1) := Lib.hid (by simp [kindsN, hm])
    have hm' : (mode == 3) = false := by simpa using hm
    clear hm
    go_enter Try.func155, Try.ntmps155
    go_wp2
    go_ret
    exact ⟨ret_int (by rw [HE.out]), rfl⟩
/-- A part of a list of orders, from its start on. -/
theorem slice_to {P : Program} {T E k : Nat} (hT : P.underlying T = some (.slice E)) (hE : (P.info? E).map (·.size) = some k) (g o n c m : Nat) (hm : m ≤ c) (w' : World) :
    (Instr.slice T (.slice (some ⟨g, o, none⟩) n c) none (some (.int .i64 m)) none).run P w' = .ok (.slice (some ⟨g, o, none⟩) m c) w' := by
  have hE' : ∃ info, P.info? E = some info ∧ info.size = k := by
    cases hh : P.info? E with
    | none => simp [hh] at hE
    | some info => exact ⟨info, rfl, by simpa [hh] using hE⟩
  obtain ⟨info, hi, _⟩ := hE'
  by_cases hc : c = 0
  · have hm0 : m = 0 := by omega
    simp [hm0, Instr.slice, Instr.sliceBounds, Instr.sliceBound, run_underlying hT, asIntOf, sizeOf, typeInfo, hi, hc]
  · simp [hm, Instr.slice, Instr.sliceBounds, Instr.sliceBound, run_underlying hT, asIntOf, sizeOf, typeInfo, hi, hc, Addr.add_lit]
set_option maxHeartbeats 1000000 in
theorem subs_c (R : Int) (ao : Option Addr) (co : Nat) (os : List Ord) (bf : Nat) (w : World) (ho : SlO Any w ao os) (hc : os.length ≤ co) (hb : bf ≤ os.length) (h0 : 0 < os.length) (h6 : os.length ≤ 6) :
    Calls Try.prog 159 #[.agg #[.int .i64 R, .slice ao os.length co], .int .i64 bf] w (RetV w (.int .i64 (subsTo os bf : Nat))) := by
  obtain ⟨_, g, o, rfl⟩ := ho.ptr h0
  have i1 := ix_of (P := Try.prog) tabO.under tabO.size (a := some ⟨g, o, none⟩) (n := bf) (fun _ => ⟨g, o, rfl⟩) co
  have hsl := slice_to (P := Try.prog) tabO.under tabO.size g o os.length co bf (by omega)
  have hbw := below_alloc w (.cells #[.int .i64 R, .slice (some ⟨g, o, none⟩) os.length co] 52)
  go_enter Try.func159, Try.ntmps159
  go_wp2
  go_loopw [5, 13] (fun n i wr => ∃ k : Nat, k ≤ bf ∧ i = .int .i64 k ∧ n = .int .i64 (subsTo os k : Nat) ∧ Below w.heap.size w wr) (fun _ i _ => bf - (intOf i).toNat)
  case atStart => exact ⟨0, Nat.zero_le _, rfl, rfl, hbw⟩
  case round =>
    obtain ⟨k, hk, rfl, rfl, hbr⟩ := hrel
    have hs := subsTo_le os k
    have HB := Lib.hid hbr
    by_cases hlt : k < bf
    · have g0 := (ho.below hbr).c0 k (by omega)
      have g1 := (ho.below hbr).c1 k (by omega)
      have g2 := (ho.below hbr).c2 k (by omega)
      have g3 := (ho.below hbr).c3 k (by omega)
      have HN : Hid (subsTo os (k + 1) = subsTo os k + if isSub (nthO os k) = true then 1 else 0) := Lib.hid rfl
      cases hq : isSub (nthO os k)
      · have hq' : ((nthO os k).op == 2) = false := hq
        have HQ := Lib.hid hq
        clear hq hbr hbw
        go_wp2
        go_roundw
        case rel => exact ⟨k + 1, by omega, by go_num, by rw [HN.out, HQ.out]; rfl, (HB.out.alloc HB.out.size _)⟩
        case measure => simp [intOf]; omega
      · have hq' : ((nthO os k).op == 2) = true := hq
        have HQ := Lib.hid hq
        clear hq hbr hbw
        go_wp2
        go_roundw
        case rel => exact ⟨k + 1, by omega, by go_num, by rw [HN.out, HQ.out]; simp, (HB.out.alloc HB.out.size _)⟩
        case measure => simp [intOf]; omega
    · obtain rfl : k = bf := by omega
      clear hbr hbw
      go_wp2
      go_ret
      exact ⟨rfl, HB.out⟩
set_option maxHeartbeats 2000000 in
theorem kinds_c (R : Nat) (ao : Option Addr) (co : Nat) (os : List Ord) (mode : Int) (w : World) (ho : SlO Any w ao os) (hc : os.length ≤ co) (hpg : PgOk R os) :
    Calls Try.prog 129 #[.agg #[.int .i64 R, .slice ao os.length co], .int .i64 mode] w (RetV w (.int .i64 (kindsN R os mode : Nat))) := by
  have HZ := Lib.hid (fun w => callsP (size_ord_c ao os.length co w ho.len))
  have h3 := hpg.r3
  have h6 := hpg.n6
  have HL := Lib.hid (fun w => label_c R (.slice ao os.length co) os.length w (by omega) (by omega))
  have HS := Lib.hid (fun wx (hb : Below w.heap.size w wx) => subs_c R ao co os os.length wx (ho.below hb) hc (Nat.le_refl _) hpg.n1 h6)
  have hs := subsTo_le os os.length
  clear hpg
  have hbw := below_alloc w (.cells #[.int .i64 R, .slice ao os.length co] 52)
  go_enter Try.func129, Try.ntmps129
  go_wp2
  refine wp_quiet_wd (by kernel_rfl) (by kernel_rfl) ?_
  have b0 : ∀ x : Wd (w.alloc (.cells #[.int .i64 R, .slice ao os.length co] 52)), (wat x).cell? ⟨w.heap.size, 0, none⟩ = some (.int .i64 R) := wat_cell (by simp [go_sem])
  have b1 : ∀ x : Wd (w.alloc (.cells #[.int .i64 R, .slice ao os.length co] 52)), (wat x).cell? ⟨w.heap.size, 1, none⟩ = some (.slice ao os.length co) := wat_cell (by simp [go_sem])
  have HZ' : Hid (∀ x : Wd (w.alloc (.cells #[.int .i64 R, .slice ao os.length co] 52)), Calls Try.prog 119 #[.slice ao os.length co] (wat x) (RetV (wat x) (.int .i64 os.length))) := Lib.hid (fun x => HZ.out _)
  have HL' : Hid (∀ x : Wd (w.alloc (.cells #[.int .i64 R, .slice ao os.length co] 52)), Calls Try.prog 131 #[.agg #[.int .i64 R, .slice ao os.length co], .int .i64 os.length] (wat x) (RetV (wat x) (.int .i64 ((R : Int) + os.length)))) := Lib.hid (fun x => HL.out _)
  repeat (go_big_quiet_step (first | with_reducible exact wdV (HZ'.out _) | with_reducible exact wdV (HL'.out _)))
  refine wpQuiet_nil ?_
  rintro _ ⟨wq, rfl⟩
  have HBQ : Hid (Below w.heap.size w (wat wq)) := Lib.hid ((below_alloc w _).trans ((wat_below wq).mono (by simp)))
  have c0 := b0 wq
  have c1 := b1 wq
  clear b0 b1 HZ' HL' HZ HL hbw
  by_cases hm : mode = 3
  · subst hm
    have HE : Hid (((kindsN R os 3 : Nat) : Int) = (R : Int) + os.length + 1 + (subsTo os os.length + 1)) := Lib.hid (by simp [kindsN])
    have HS1 := Lib.hid (HS.out _ HBQ.out)
    clear HS
    go_wp2_with fail
    refine HS1.out.mono ?_
    rintro e w2 ⟨rfl, hb2⟩
    go_wp2
    go_ret
    exact ⟨ret_int (by rw [HE.out]), bnext HBQ.out hb2 (Nat.le_refl _)⟩
  · have HE : Hid (((kindsN R os mode : Nat) : Int) = (R : Int) + os.length + 1) := Lib.hid (by simp [kindsN, hm])
    have hm' : (mode == 3) = false := by simpa using hm
    clear hm HS
    go_wp2
    go_ret
    exact ⟨ret_int (by rw [HE.out]), HBQ.out⟩
set_option maxHeartbeats 2000000 in
theorem wait_c (R : Nat) (ao : Option Addr) (co : Nat) (os : List Ord) (i : Nat) (w : World) (ho : SlO Any w ao os) (hc : os.length ≤ co) (hpg : PgOk R os) (hi : i ≤ os.length) :
    Calls Try.prog 133 #[.agg #[.int .i64 R, .slice ao os.length co], .int .i64 i] w (RetV w (.int .i64 (R + os.length + 1 + subsTo os i : Nat))) := by
  have HZ := Lib.hid (fun w => callsP (size_ord_c ao os.length co w ho.len))
  have h3 := hpg.r3
  have h6 := hpg.n6
  have HL := Lib.hid (fun w => label_c R (.slice ao os.length co) os.length w (by omega) (by omega))
  have HS := Lib.hid (fun wx (hb : Below w.heap.size w wx) => subs_c R ao co os i wx (ho.below hb) hc hi hpg.n1 h6)
  have hs := subsTo_le os i
  clear hpg
  have hbw := below_alloc w (.cells #[.int .i64 R, .slice ao os.length co] 52)
  go_enter Try.func133, Try.ntmps133
  go_wp2
  refine wp_quiet_wd (by kernel_rfl) (by kernel_rfl) ?_
  have b0 : ∀ x : Wd (w.alloc (.cells #[.int .i64 R, .slice ao os.length co] 52)), (wat x).cell? ⟨w.heap.size, 0, none⟩ = some (.int .i64 R) := wat_cell (by simp [go_sem])
  have b1 : ∀ x : Wd (w.alloc (.cells #[.int .i64 R, .slice ao os.length co] 52)), (wat x).cell? ⟨w.heap.size, 1, none⟩ = some (.slice ao os.length co) := wat_cell (by simp [go_sem])
  have HZ' : Hid (∀ x : Wd (w.alloc (.cells #[.int .i64 R, .slice ao os.length co] 52)), Calls Try.prog 119 #[.slice ao os.length co] (wat x) (RetV (wat x) (.int .i64 os.length))) := Lib.hid (fun x => HZ.out _)
  have HL' : Hid (∀ x : Wd (w.alloc (.cells #[.int .i64 R, .slice ao os.length co] 52)), Calls Try.prog 131 #[.agg #[.int .i64 R, .slice ao os.length co], .int .i64 os.length] (wat x) (RetV (wat x) (.int .i64 ((R : Int) + os.length)))) := Lib.hid (fun x => HL.out _)
  have HS' : Hid (∀ x : Wd (w.alloc (.cells #[.int .i64 R, .slice ao os.length co] 52)), Calls Try.prog 159 #[.agg #[.int .i64 R, .slice ao os.length co], .int .i64 i] (wat x) (RetV (wat x) (.int .i64 (subsTo os i : Nat)))) := Lib.hid (fun x => HS.out _ (hbw.trans ((wat_below x).mono (by simp))))
  repeat (go_big_quiet_step (first | with_reducible exact wdV (HZ'.out _) | with_reducible exact wdV (HL'.out _) | with_reducible exact wdV (HS'.out _)))
  refine wpQuiet_nil ?_
  rintro _ ⟨wq, rfl⟩
  have HBQ : Hid (Below w.heap.size w (wat wq)) := Lib.hid (hbw.trans ((wat_below wq).mono (by simp)))
  clear b0 b1 HZ' HL' HS' HZ HL HS hbw
  go_wp2
  go_ret
  exact ⟨ret_int (by omega), HBQ.out⟩
end Go.Proofs.Ytncndnholheemaa
