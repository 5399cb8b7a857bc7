/- States of programs: the reference's state. -/
import Derived.Test.YtldjgkandkclpaaMT
import Derived.Test.YtldjgkandkclpaaG
namespace Go.Proofs.Ytldjgkandkclpaa
open Go.RowKit

theorem bag_fill {K : Nat} {xs : List Int} (h : xs.length ≤ K) : fill K (.int .i64 0) (fun i => .int .i64 (nth xs i)) xs.length = (xs ++ List.replicate (K - xs.length) 0).map (.int .i64) := by
  apply List.ext_getElem
  · simp [fill]; omega
  · intro i h1 h2
    by_cases hi : i < xs.length
    · simp [fill, nth, hi]
    · simp [fill, hi]
      rw [List.getElem_append_right (by simpa using hi)]
      simp
theorem bag_zero {K : Nat} {xs : List Int} {i : Nat} (h : xs.length ≤ i) (hi : i < K) : ((xs ++ List.replicate (K - xs.length) 0).map (Value.int .i64))[i]? = some (.int .i64 0) := by
  rw [List.getElem?_map, List.getElem?_append_right h, List.getElem?_replicate, if_pos (by omega)]
  rfl
set_option maxHeartbeats 1000000 in
set_option maxRecDepth 100000 in
theorem l05State_c (R K : Nat) (p q : Nat) (n : Nat) (ad : Addr) (c : Nat) (regs : List Int) (w : World) (hx : SlI Any w (some ad) regs) (hp0 : w.cell? ⟨p, 0, none⟩ = some (.int .i64 R)) (hq0 : w.cell? ⟨q, 0, none⟩ = some (.int .i64 n)) (hq1 : w.cell? ⟨q, 1, none⟩ = some (.slice (some ad) regs.length c)) (hR : R ≤ 3) (hr1 : 1 ≤ R) (hn6 : n ≤ 6) (hrl : regs.length = R) (hk2 : K ≤ 17) (hidn : R + n < K) :
    Calls Try.prog 115 #[.pointer (some ⟨p, 0, none⟩), .int .i64 K, .pointer (some ⟨q, 0, none⟩)] w (RetA w [dB [true], dII [stateBag K R n regs], dI (List.replicate K 0)]) := by
  have zp := World.block_lt_of_cell? w _ hp0
  have zq := World.block_lt_of_cell? w _ hq0
  have hb0 : Below w.heap.size w (w.alloc (.cells #[.slice none 0 0, .slice none 0 0, .slice none 0 0] 56)) := (Below.refl _ _).alloc (Nat.le_refl _) _
  have HL := Lib.hid (fun w hp => l05Label_c R p n w hp ⟨by omega, by omega⟩ ⟨by omega, by omega⟩)
  have i1 := hx.ix tabI.under tabI.size c
  have HX := Lib.hid hx
  have HB0 := Lib.hid hb0
  have HP := Lib.hid hp0
  have HQ0 := Lib.hid hq0
  have HQ1 := Lib.hid hq1
  have hrlK : regs.length ≤ K := by omega
  have hrl2 : regs.length ≤ 3 := by omega
  have hidx : (0 : Int) ≤ (R : Int) + n ∧ (R : Int) + n < K := by omega
  have hz1 : w.heap.size + 1 = (w.alloc (.cells #[.slice none 0 0, .slice none 0 0, .slice none 0 0] 56)).heap.size := by simp
  have HRL := Lib.hid hrl
  clear hb0 hx hp0 hq0 hq1 hrl
  go_enter Try.func115, Try.ntmps115
  go_wp2_with (at_make; refine make_one rfl _ _ 22 rfl tabI rfl (by decide) K _ _ rfl rfl rfl rfl (by omega) (w.heap.size + 1) (by simp) ?_)
  intro w1 hbl1 hb1 hz2
  have HB1 := Lib.hid (HB0.out.trans (hb1.mono (by omega)))
  have HBL1 : Hid (Bld 2 w1 (w.heap.size + 1) (.slice (some ⟨w.heap.size + 1, 0, none⟩) K K) (fill K (.int .i64 0) (fun i => .int .i64 (nth regs i)) 0)) := Lib.hid (by rw [← fill_zero]; simpa using hbl1)
  have HBW1 : Hid (Below (w.heap.size + 1) (w.alloc (.cells #[.slice none 0 0, .slice none 0 0, .slice none 0 0] 56)) w1) := Lib.hid (by rw [hz1]; exact hb1)
  have i2 := ix_of (P := Try.prog) tabI.under tabI.size (a := some ⟨w.heap.size + 1, 0, none⟩) (n := K) (fun _ => ⟨w.heap.size + 1, 0, rfl⟩) K
  simp only [Nat.mul_one, adr, blk, ofs, Nat.zero_add] at i2
  have rr0 : (w.alloc (.cells #[.slice none 0 0, .slice none 0 0, .slice none 0 0] 56)).cell? ⟨w.heap.size, 0, none⟩ = some (.slice none 0 0) := by simp [go_sem]
  have rr1 : (w.alloc (.cells #[.slice none 0 0, .slice none 0 0, .slice none 0 0] 56)).cell? ⟨w.heap.size, 1, none⟩ = some (.slice none 0 0) := by simp [go_sem]
  have rr2 : (w.alloc (.cells #[.slice none 0 0, .slice none 0 0, .slice none 0 0] 56)).cell? ⟨w.heap.size, 2, none⟩ = some (.slice none 0 0) := by simp [go_sem]
  have rz0 : (w.alloc (.cells #[.slice none 0 0, .slice none 0 0, .slice none 0 0] 56)).frozen? ⟨w.heap.size, 0, none⟩ = false := by simp [go_sem]
  have rz1 : (w.alloc (.cells #[.slice none 0 0, .slice none 0 0, .slice none 0 0] 56)).frozen? ⟨w.heap.size, 1, none⟩ = false := by simp [go_sem]
  have rz2 : (w.alloc (.cells #[.slice none 0 0, .slice none 0 0, .slice none 0 0] 56)).frozen? ⟨w.heap.size, 2, none⟩ = false := by simp [go_sem]
  have RR : Hid _ := Lib.hid (And.intro (And.intro rr0 (And.intro rr1 rr2)) (And.intro rz0 (And.intro rz1 rz2)))
  clear hb1 hbl1 hz2 rr0 rr1 rr2 rz0 rz1 rz2
  have HZ1 := Lib.hid hz1
  clear hz1
  go_wp2
  go_loopw [8] (fun i wr => ∃ k : Nat, k ≤ regs.length ∧ i = .int .i64 k ∧ Below (w.heap.size + 1) (w.alloc (.cells #[.slice none 0 0, .slice none 0 0, .slice none 0 0] 56)) wr ∧ Bld 2 wr (w.heap.size + 1) (.slice (some ⟨w.heap.size + 1, 0, none⟩) K K) (fill K (.int .i64 0) (fun i => .int .i64 (nth regs i)) k)) (fun i _ => regs.length - (intOf i).toNat)
  case atStart => exact ⟨0, Nat.zero_le _, rfl, HBW1.out, HBL1.out⟩
  case round =>
    obtain ⟨k, hkl, rfl, hb, hbl⟩ := hrel
    have HB := Lib.hid hb
    have HBA : Hid (Below w.heap.size w wr) := Lib.hid (HB0.out.trans (hb.mono (by omega)))
    have HBL := Lib.hid hbl
    have hp := (bcell1 HBA.out zp).trans HP.out
    have hq := (bcell1 HBA.out zq).trans HQ0.out
    have hq' := (bcell1 HBA.out zq).trans HQ1.out
    by_cases hlt : k < regs.length
    · have g1 := (HX.out.below HBA.out).cell k hlt
      have g2 := hbl.cell (i := k) (v := .int .i64 0) (fill_at (by omega))
      have g3 := hbl.free k
      clear hb hbl HBL1 RR HRL
      go_wp2
      go_roundw
      case rel => exact ⟨k + 1, by omega, by go_num, HB.out.setCell (by exact Nat.le_refl _) _, by rw [← fill_set]; exact HBL.out.set k _⟩
      case measure => simp [intOf]; omega
    · obtain rfl : k = regs.length := by omega
      have HBF : Hid (Bld 2 wr (w.heap.size + 1) (.slice (some ⟨w.heap.size + 1, 0, none⟩) K K) ((regs ++ List.replicate (K - regs.length) 0).map (.int .i64))) := Lib.hid (by rw [← bag_fill hrlK]; exact hbl)
      clear hb hbl HBL1 HBL
      go_wp2_with fail
      refine (HL.out _ hp).mono ?_
      rintro e w4 ⟨rfl, e4⟩
      subst e4
      have gI := HBF.out.cell (i := R + n) (v := .int .i64 0) (bag_zero (by have := HRL.out; omega) hidn)
      have gF := HBF.out.free (R + n)
      have hz4 : w.heap.size + 1 < wr.heap.size := World.block_lt_of_cell? wr _ gI
      have hi1 : ((R : Int) + n).toNat = R + n := by omega
      obtain ⟨⟨rr0, rr1, rr2⟩, rz0, rz1, rz2⟩ := RR.out
      have hrl := HRL.out
      obtain ⟨hd0, hd1⟩ := hidx
      go_wp2_with (at_make; refine make_one rfl _ _ 22 rfl tabI rfl (by decide) K _ _ rfl rfl rfl rfl (by omega) (w.heap.size + 1) (by simp; omega) ?_)
      intro w5 hbl5 hb5 hz5
      have hz5' : wr.heap.size + 2 < w5.heap.size := by simpa using hz5
      have HBL5 : Hid (Bld 2 w5 (w.heap.size + 1) (.slice (some ⟨wr.heap.size + 2, 0, none⟩) K K) ((List.replicate K (0 : Int)).map (.int .i64))) := Lib.hid (by rw [List.map_replicate]; exact hbl5)
      have HSS : Hid (Below (w.heap.size + 1) (w.alloc (.cells #[.slice none 0 0, .slice none 0 0, .slice none 0 0] 56)) w5) := Lib.hid (((((HB.out.setCell (Nat.le_refl _) _).alloc (by simp; omega) _).alloc (by simp; omega) _)).trans (hb5.mono (by (try simp); omega)))
      have HBB : Hid (Bld 2 w5 (w.heap.size + 1) (.slice (some ⟨(w.heap.size + 1), 0, none⟩) K K) ((stateBag K R n regs).map (.int .i64))) := Lib.hid (by
        have h9 := HBF.out.set (R + n) (.int .i64 1)
        rw [map_set_int] at h9
        have h8 := ((h9.below (below_alloc _ (.cells #[.bool true] 4))).below (below_alloc _ (.cells #[.slice (some ⟨(w.heap.size + 1), 0, none⟩) K K] 22))).below (by simpa using hb5)
        rw [stateBag, Int.toNat_natCast]
        exact h8)
      have y1 : w5.cell? ⟨wr.heap.size, 0, none⟩ = some (.bool true) := by rw [bcell1 hb5 (by first | omega | (simp; done) | (simp; omega))]; simp [go_sem]
      have y2 : w5.frozen? ⟨wr.heap.size, 0, none⟩ = false := by rw [hb5.frozen (p := ⟨wr.heap.size, 0, none⟩) (by first | omega | (simp; done) | (simp; omega))]; simp [go_sem]
      have y3 : w5.cell? ⟨wr.heap.size + 1, 0, none⟩ = some (.slice (some ⟨(w.heap.size + 1), 0, none⟩) K K) := by rw [bcell1 hb5 (by first | omega | (simp; done) | (simp; omega))]; simp [go_sem]
      have y4 : w5.frozen? ⟨wr.heap.size + 1, 0, none⟩ = false := by rw [hb5.frozen (p := ⟨wr.heap.size + 1, 0, none⟩) (by first | omega | (simp; done) | (simp; omega))]; simp [go_sem]
      have HSTA := Lib.hid (RetA.sta (bag := stateBag K R n regs) (zs := List.replicate K 0) HBB.out HBL5.out (by rw [stateBag, List.length_set, List.length_append, List.length_replicate]; omega) (List.length_replicate) (by omega) (by omega) y1 y2 y3 y4 (by omega) (by omega) (by omega) (by omega) (by omega))
      have rs0 : w5.cell? ⟨w.heap.size, 0, none⟩ = some (.slice none 0 0) := (bcell1 HSS.out (by omega)).trans rr0
      have rs1 : w5.cell? ⟨w.heap.size, 1, none⟩ = some (.slice none 0 0) := (bcell1 HSS.out (by omega)).trans rr1
      have rs2 : w5.cell? ⟨w.heap.size, 2, none⟩ = some (.slice none 0 0) := (bcell1 HSS.out (by omega)).trans rr2
      have ry0 : w5.frozen? ⟨w.heap.size, 0, none⟩ = false := (HSS.out.frozen (p := ⟨w.heap.size, 0, none⟩) (by show w.heap.size < _; omega)).trans rz0
      have ry1 : w5.frozen? ⟨w.heap.size, 1, none⟩ = false := (HSS.out.frozen (p := ⟨w.heap.size, 1, none⟩) (by show w.heap.size < _; omega)).trans rz1
      have ry2 : w5.frozen? ⟨w.heap.size, 2, none⟩ = false := (HSS.out.frozen (p := ⟨w.heap.size, 2, none⟩) (by show w.heap.size < _; omega)).trans rz2
      have sA := set3 w5 w.heap.size (.slice (some ⟨wr.heap.size, 0, none⟩) 1 1) (.slice (some ⟨wr.heap.size + 1, 0, none⟩) 1 1) (.slice (some ⟨wr.heap.size + 2, 0, none⟩) K K) rs0 rs1 rs2
      clear hb5 hbl5 hz5 rr0 rr1 rr2 rz0 rz1 rz2 y1 y2 y3 y4 gI gF
      go_wp2
      refine bodyPost_ret (v := .agg #[.slice (some ⟨wr.heap.size, 0, none⟩) 1 1, .slice (some ⟨wr.heap.size + 1, 0, none⟩) 1 1, .slice (some ⟨wr.heap.size + 2, 0, none⟩) K K]) (by simp [results, Try.results115, go_sem, sA]) rfl ?_
      obtain ⟨F, o1, o2, o3⟩ := HSTA.out
      have hF : w.heap.size ∉ F := fun e => by have := o3 _ e; omega
      refine ⟨_, F, rfl, ?_, ((o1.put1 hF _).put1 hF _).put1 hF _, o2, fun x hx => by have := o3 x hx; omega⟩
      exact (((HB0.out.trans (HSS.out.mono (by omega))).setCell (by simp) _).setCell (by simp) _).setCell (by simp) _
end Go.Proofs.Ytldjgkandkclpaa
