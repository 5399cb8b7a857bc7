/- The laws' functions on lists of lists of numbers: by shape. Written by tygen.py. -/
import Derived.Test.YtncndnholheemaaYB
namespace Go.Proofs.Ytncndnholheemaa
open Go.RowKit

set_option maxHeartbeats 2000000 in
theorem eqInt64SS_d (d : D) (v v' : Value) (w : World) (h : Rd Any w d v) (h' : Rd Any w d v') (hf : Fit (.l [.l [.i]]) d) :
    Calls Try.prog 37 #[v, v'] w (RetV w (.bool true)) := by
  obtain ⟨ds, rfl, n, hn, HR⟩ := Fit.rows (k := 1) rfl hf
  obtain ⟨a, c, rfl, hm, hp, HG⟩ := h.row hn (by omega)
  obtain ⟨ap, cp, rfl, hmp, hpp, HGp⟩ := h'.row hn (by omega)
  unfold maxLen at hm
  have i1 := ix_of (P := Try.prog) tabII.under tabII.size (a := a) (n := n) hp c
  simp only [Nat.mul_one] at i1
  have i2 := ix_of (P := Try.prog) tabII.under tabII.size (a := ap) (n := n) hpp cp
  simp only [Nat.mul_one] at i2
  clear hn hmp
  go_enter Try.func37, Try.ntmps37
  go_wp2
  go_loopw [5] (fun i0 wr => ∃ i : Nat, i ≤ n ∧ i0 = .int .i64 i ∧ Below w.heap.size w wr) (fun i _ => n - (intOf i).toNat)
  case atStart => exact ⟨0, Nat.zero_le _, rfl, Below.refl _ _⟩
  case round =>
      obtain ⟨i, hi, rfl, hb⟩ := hrel
      have HB := Lib.hid hb
      clear hb
      by_cases hlt : i < n
      · skip
        obtain ⟨x0, q0, f0⟩ := HR.out i hlt 0 _ rfl
        rw [Nat.mul_one, Nat.add_zero] at q0
        obtain ⟨u0, g0, r0⟩ := HG.out wr HB.out _ _ q0
        obtain ⟨ua0, un0, uc0, rfl⟩ := f0.sliceR r0
        obtain ⟨u0p, g0p, r0p⟩ := HGp.out wr HB.out _ _ q0
        obtain ⟨ua0p, un0p, uc0p, rfl⟩ := f0.sliceR r0p
        clear q0
        go_wp2_with fail
        go_region_with (go_at_call 23; refine (eqInt64S_d x0 _ _ _ (r0.below (below_drewN _ _ 1)) (r0p.below (below_drewN _ _ 1)) f0).mono ?_; rintro e w' ⟨rfl, hb'⟩)
        all_goals
          have hbb := bnext HB.out.drew hb' (Nat.le_refl _)
          clear hb' g0 g0p
          go_wp2
          go_roundw
          case rel => exact ⟨i + 1, by omega, by go_num, hbb⟩
          case measure => simp [intOf]; omega
      · go_wp2
        go_ret
        exact ⟨rfl, HB.out⟩
set_option maxHeartbeats 4000000 in
theorem markInt64SS_d (d : D) (v : Value) (F : List Nat) (m : Int) (w : World) (h : Ow w d v F) (hnd : F.Nodup) (hf : Fit (.l [.l [.i]]) d) (hv : cnt d ≤ 16777216) (m0 : 0 ≤ m) (m1 : m ≤ 17179869184) :
    Calls Try.prog 38 #[v, .int .i64 m] w (RetMk w F m d v) := by
  obtain ⟨ds, rfl, n, hn, HR⟩ := Fit.rows (k := 1) rfl hf
  obtain ⟨a, c, F', rfl, hm, hp, hcp, hM⟩ := h.mks hnd hn (by omega)
  have HCP := Lib.hid hcp
  clear hcp
  have hM0 := Lib.hid (hM m)
  have HM := Lib.hid hm
  unfold maxLen at hm
  simp only [cnt] at hv
  have HN := Lib.hid hn
  clear hM hn
  have i1 := ix_of (P := Try.prog) tabII.under tabII.size (a := a) (n := n) hp c
  simp only [Nat.mul_one] at i1
  go_enter Try.func38, Try.ntmps38
  go_wp2
  go_loopw [1, 5] (fun q i0 wr => ∃ (i : Nat) (K : Int), i ≤ n ∧ i0 = .int .i64 i ∧ q = .int .i64 K ∧ Mks w wr a ds F' F m K (i * 1)) (fun _ i _ => n - (intOf i).toNat)
  case atStart => exact ⟨0, m, Nat.zero_le _, rfl, rfl, by simpa using hM0.out⟩
  case round =>
      obtain ⟨i, K0, hi, rfl, rfl, hk0⟩ := hrel
      by_cases hlt : i < n
      · skip
        obtain ⟨x0, q0, f0⟩ := HR.out i hlt 0 _ rfl
        rw [Nat.mul_one, Nat.add_zero] at q0
        rw [Nat.mul_one] at hk0
        have B0 := hk0.le
        obtain ⟨u0, G0, c0, b0, n0, N0⟩ := hk0.list q0
        obtain ⟨ua0, un0, uc0, rfl⟩ := f0.sliceO b0
        have B1 := hk0.le
        have V0 : cnt x0 ≤ 16777216 := by have := cntL_at ds _ x0 q0; omega
        clear hk0
        go_wp2_with fail
        refine (markInt64S_d x0 _ G0 _ _ b0 n0 f0 V0 (by omega) (by omega)).mono ?_
        rintro e w0 ⟨rfl, he0, hy0⟩
        have hk_0 := N0.out _ he0 hy0
        clear he0 hy0 b0 c0 N0
        have HK := Lib.hid hk_0
        clear hk_0
        go_wp2
        go_roundw
        case rel => exact ⟨i + 1, _, by omega, by go_num, rfl, by have := HK.out; rwa [Nat.mul_one]⟩
        case measure => simp [intOf]; omega
      · have HK := Lib.hid hk0
        clear hk0
        go_wp2
        go_ret
        obtain rfl : i = n := by omega
        have h2 := HK.out
        rw [← HN.out] at h2
        exact h2.done hp HM.out HN.out HCP.out
set_option maxHeartbeats 4000000 in
theorem heldInt64SS_d (S : Nat → Prop) (d : D) (v : Value) (m : Int) (w : World) (h : Rd S w (mkD m d) v) (hf : Fit (.l [.l [.i]]) d) (hv : cnt d ≤ 16777216) (m0 : 0 ≤ m) (m1 : m ≤ 17179869184) :
    Calls Try.prog 39 #[v, .int .i64 m] w (RetV w (.int .i64 (m + cnt d))) := by
  obtain ⟨ds, rfl, n, hn, HR⟩ := Fit.rows (k := 1) rfl hf
  rw [mkD] at h
  obtain ⟨a, c, rfl, hm, hp, HG⟩ := h.row (n := n) (by rw [mkL_len]; exact hn) (by omega)
  unfold maxLen at hm
  simp only [cnt] at hv
  have HN := Lib.hid hn
  clear hn
  have i1 := ix_of (P := Try.prog) tabII.under tabII.size (a := a) (n := n) hp c
  simp only [Nat.mul_one] at i1
  go_enter Try.func39, Try.ntmps39
  go_wp2
  go_loopw [1, 5] (fun q i0 wr => ∃ (i : Nat) (K : Int), i ≤ n ∧ i0 = .int .i64 i ∧ q = .int .i64 K ∧ Hid (K = m + cntL (ds.take (i * 1))) ∧ Below w.heap.size w wr) (fun _ i _ => n - (intOf i).toNat)
  case atStart => exact ⟨0, m, Nat.zero_le _, rfl, rfl, Lib.hid (by simp [cntL]), Below.refl _ _⟩
  case round =>
      obtain ⟨i, K, hi, rfl, rfl, HK, hb⟩ := hrel
      have HB := Lib.hid hb
      clear hb
      by_cases hlt : i < n
      · skip
        obtain ⟨x0, q0, f0⟩ := HR.out i hlt 0 _ rfl
        rw [Nat.mul_one, Nat.add_zero] at q0
        have k0 : K ≤ m + 16777216 ∧ 0 ≤ K := by have := HK.out; have := cntL_take_le ds (i * 1); omega
        have HK0 : Hid (K = m + cntL (ds.take i)) := Lib.hid (by have := HK.out; rwa [Nat.mul_one] at this)
        obtain ⟨u0, g0, r0⟩ := HG.out wr HB.out _ _ (mkL_get ds m _ x0 q0)
        rw [← HK0.out] at r0
        obtain ⟨ua0, un0, uc0, rfl⟩ := f0.sliceM r0
        have HK1 : Hid (K + cnt x0 = m + cntL (ds.take (i + 1))) := Lib.hid (by have a1 := HK0.out; have a2 := cntL_take q0; show _ = m + ((cntL (ds.take (i + 1)) : Nat) : Int); rw [a2]; omega)
        have k1 : K + cnt x0 ≤ m + 16777216 ∧ 0 ≤ K + cnt x0 := by have := HK1.out; have := cntL_take_le ds (i + 1); omega
        have V0 : cnt x0 ≤ 16777216 := by have := cntL_at ds _ x0 q0; omega
        clear q0
        go_wp2_with fail
        refine (heldInt64S_d S x0 _ (K) _ r0 f0 V0 (by omega) (by omega)).mono ?_
        rintro e w1 ⟨rfl, hb1⟩
        have HX1 := Lib.hid (hb1)
        clear hb1 g0
        go_wp2
        go_roundw
        case rel => exact ⟨i + 1, _, by omega, by go_num, rfl, Lib.hid (by have := HK1.out; rw [show (i + 1) * 1 = i + 1 from by omega]; exact this), bnext HB.out HX1.out (Nat.le_refl _)⟩
        case measure => simp [intOf]; omega
      · go_wp2
        go_ret
        obtain rfl : i = n := by omega
        refine ⟨ret_int ?_, HB.out⟩
        have a1 := HK.out
        rw [take_full HN.out] at a1
        simp only [cnt]; exact a1
end Go.Proofs.Ytncndnholheemaa
