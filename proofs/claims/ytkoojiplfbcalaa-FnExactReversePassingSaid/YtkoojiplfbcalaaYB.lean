/- The laws' functions on lists of numbers and of bools: by shape. Written by tygen.py. -/
import Derived.Test.YtkoojiplfbcalaaY
import Derived.Test.YtkoojiplfbcalaaN
namespace Go.Proofs.Ytkoojiplfbcalaa
open Go.RowKit

theorem fitD_I {d : D} (h : Fit (.l [.i]) d) : ∃ xs, d = dI xs := by
  obtain ⟨rows, rfl, hr⟩ := h
  have key : ∀ rows : List (List D), (∀ r, r ∈ rows → FitL [.i] r) → ∃ xs : List Int, rows.flatten = xs.map .i := by
    intro rows
    induction rows with
    | nil => intro _; exact ⟨[], rfl⟩
    | cons r rows ih =>
      intro h
      obtain ⟨xs, e⟩ := ih (fun r hr => h r (by simp [hr]))
      obtain ⟨d0, r0, rfl, ⟨n0, rfl⟩, h4⟩ := h r (by simp)
      rw [show r0 = [] from h4]
      exact ⟨n0 :: xs, by simp [e]⟩
  obtain ⟨xs, e⟩ := key rows hr
  exact ⟨xs, by rw [e]; rfl⟩
theorem fitD_B {d : D} (h : Fit (.l [.b]) d) : ∃ xs, d = dB xs := by
  obtain ⟨rows, rfl, hr⟩ := h
  have key : ∀ rows : List (List D), (∀ r, r ∈ rows → FitL [.b] r) → ∃ xs : List Bool, rows.flatten = xs.map .b := by
    intro rows
    induction rows with
    | nil => intro _; exact ⟨[], rfl⟩
    | cons r rows ih =>
      intro h
      obtain ⟨xs, e⟩ := ih (fun r hr => h r (by simp [hr]))
      obtain ⟨d0, r0, rfl, ⟨n0, rfl⟩, h4⟩ := h r (by simp)
      rw [show r0 = [] from h4]
      exact ⟨n0 :: xs, by simp [e]⟩
  obtain ⟨xs, e⟩ := key rows hr
  exact ⟨xs, by rw [e]; rfl⟩
theorem fitD_II {d : D} (h : Fit (.l [.l [.i]]) d) : ∃ xs, d = dII xs := by
  obtain ⟨rows, rfl, hr⟩ := h
  have key : ∀ rows : List (List D), (∀ r, r ∈ rows → FitL [.l [.i]] r) → ∃ xs : List (List Int), rows.flatten = xs.map dI := by
    intro rows
    induction rows with
    | nil => intro _; exact ⟨[], rfl⟩
    | cons r rows ih =>
      intro h
      obtain ⟨xs, e⟩ := ih (fun r hr => h r (by simp [hr]))
      obtain ⟨d0, r0, rfl, h0, h4⟩ := h r (by simp)
      obtain ⟨n0, rfl⟩ := fitD_I h0
      rw [show r0 = [] from h4]
      exact ⟨n0 :: xs, by simp [e]⟩
  obtain ⟨xs, e⟩ := key rows hr
  exact ⟨xs, by rw [e]; rfl⟩
theorem fit_dI (xs : List Int) : Fit (.l [.i]) (dI xs) := by
  refine ⟨xs.map fun x => [.i x], ?_, fun r hr => ?_⟩
  · simp only [dI]; congr 1; induction xs with
    | nil => rfl
    | cons x xs ih => simp [ih]
  · obtain ⟨x, _, rfl⟩ := List.mem_map.1 hr
    exact ⟨_, _, rfl, ⟨x, rfl⟩, rfl⟩
theorem fit_dB (xs : List Bool) : Fit (.l [.b]) (dB xs) := by
  refine ⟨xs.map fun x => [.b x], ?_, fun r hr => ?_⟩
  · simp only [dB]; congr 1; induction xs with
    | nil => rfl
    | cons x xs ih => simp [ih]
  · obtain ⟨x, _, rfl⟩ := List.mem_map.1 hr
    exact ⟨_, _, rfl, ⟨x, rfl⟩, rfl⟩
theorem fit_dII (xs : List (List Int)) : Fit (.l [.l [.i]]) (dII xs) := by
  refine ⟨xs.map fun x => [dI x], ?_, fun r hr => ?_⟩
  · simp only [dII]; congr 1; induction xs with
    | nil => rfl
    | cons x xs ih => simp [ih]
  · obtain ⟨x, _, rfl⟩ := List.mem_map.1 hr
    exact ⟨_, _, rfl, fit_dI x, rfl⟩
theorem szInt64S_d (S : Nat → Prop) (d : D) (v : Value) (left : Int) (w : World) (h : Rd S w d v) (hf : Fit (.l [.i]) d) (h0 : 0 ≤ left) (h1 : left ≤ 1048576) :
    Calls Try.prog 57 #[v, .int .i64 left] w (RetSv w left (vol d)) := by
  obtain ⟨xs, rfl⟩ := fitD_I hf
  obtain ⟨a, c, rfl, hx⟩ := Rd_I.1 h
  refine (szInt64S_c a xs.length c left w hx.len h0 h1).mono ?_
  rintro e w' ⟨rfl, rfl⟩
  refine ⟨_, rfl, Below.refl _ _, ?_, ?_, fun h => ?_⟩ <;> (try rw [vol_dI]) <;> split at * <;> omega
theorem szBoolS_d (S : Nat → Prop) (d : D) (v : Value) (left : Int) (w : World) (h : Rd S w d v) (hf : Fit (.l [.b]) d) (h0 : 0 ≤ left) (h1 : left ≤ 1048576) :
    Calls Try.prog 58 #[v, .int .i64 left] w (RetSv w left (vol d)) := by
  obtain ⟨xs, rfl⟩ := fitD_B hf
  obtain ⟨a, c, rfl, hx⟩ := Rd_B.1 h
  refine (szBoolS_c a xs.length c left w hx.len h0 h1).mono ?_
  rintro e w' ⟨rfl, rfl⟩
  refine ⟨_, rfl, Below.refl _ _, ?_, ?_, fun h => ?_⟩ <;> (try rw [vol_dB]) <;> split at * <;> omega
theorem toInt64S_d (S : Nat → Prop) (d : D) (v : Value) (w : World) (h : Rd S w d v) (hf : Fit (.l [.i]) d) (hv : vol d ≤ 16777216) :
    Calls Try.prog 15 #[v] w (RetD w d) := by
  obtain ⟨xs, rfl⟩ := fitD_I hf
  obtain ⟨a, c, rfl, hx⟩ := Rd_I.1 h
  rw [vol_dI] at hv
  exact toInt64S_c S a c xs w hx (by omega)
theorem toBoolS_d (S : Nat → Prop) (d : D) (v : Value) (w : World) (h : Rd S w d v) (hf : Fit (.l [.b]) d) (hv : vol d ≤ 16777216) :
    Calls Try.prog 66 #[v] w (RetD w d) := by
  obtain ⟨xs, rfl⟩ := fitD_B hf
  obtain ⟨a, c, rfl, hx⟩ := Rd_B.1 h
  rw [vol_dB] at hv
  exact toBoolS_c S a c xs w hx (by omega)
theorem eqInt64S_d (d : D) (v v' : Value) (w : World) (h : Rd Any w d v) (h' : Rd Any w d v') (hf : Fit (.l [.i]) d) :
    Calls Try.prog 19 #[v, v'] w (RetV w (.bool true)) := by
  obtain ⟨xs, rfl⟩ := fitD_I hf
  obtain ⟨a, c, rfl, hx⟩ := Rd_I.1 h
  obtain ⟨a', c', rfl, hx'⟩ := Rd_I.1 h'
  exact (eqInt64S_c Any Any a a' c c' xs w hx hx').mono fun _ _ h => h.v
theorem eqBoolS_d (d : D) (v v' : Value) (w : World) (h : Rd Any w d v) (h' : Rd Any w d v') (hf : Fit (.l [.b]) d) :
    Calls Try.prog 73 #[v, v'] w (RetV w (.bool true)) := by
  obtain ⟨xs, rfl⟩ := fitD_B hf
  obtain ⟨a, c, rfl, hx⟩ := Rd_B.1 h
  obtain ⟨a', c', rfl, hx'⟩ := Rd_B.1 h'
  exact (eqBoolS_c Any Any a a' c c' xs w hx hx').mono fun _ _ h => h.v
theorem markInt64S_d (d : D) (v : Value) (F : List Nat) (m : Int) (w : World) (h : Ow w d v F) (_hnd : F.Nodup) (hf : Fit (.l [.i]) d) (hv : cnt d ≤ 16777216) (m0 : 0 ≤ m) (m1 : m ≤ 34359738368) :
    Calls Try.prog 44 #[v, .int .i64 m] w (RetMk w F m d v) := by
  obtain ⟨xs, rfl⟩ := fitD_I hf
  obtain ⟨a, c, rfl, hcp, hx⟩ := Ow_I.1 h
  rw [cnt_dI] at hv
  refine (markInt64S_c8 F a c xs m w hcp hx (by omega) m0 m1).mono ?_
  rintro e w' ⟨rfl, h1, h2⟩
  exact ⟨by rw [cnt_dI], h1, by rw [mk_dI]; exact h2⟩
theorem heldInt64S_d (S : Nat → Prop) (d : D) (v : Value) (m : Int) (w : World) (h : Rd S w (mkD m d) v) (hf : Fit (.l [.i]) d) (hv : cnt d ≤ 16777216) (m0 : 0 ≤ m) (m1 : m ≤ 34359738368) :
    Calls Try.prog 45 #[v, .int .i64 m] w (RetV w (.int .i64 (m + cnt d))) := by
  obtain ⟨xs, rfl⟩ := fitD_I hf
  rw [mk_dI] at h
  obtain ⟨a, c, rfl, hx⟩ := Rd_I.1 h
  rw [cnt_dI] at hv ⊢
  rw [marks_len]
  exact (heldInt64S_c8 S a c xs.length m w hx (by omega) m0 m1).mono fun _ _ h => h.v
set_option maxHeartbeats 4000000 in
theorem markBoolS_d (d : D) (v : Value) (F : List Nat) (m : Int) (w : World) (h : Ow w d v F) (hnd : F.Nodup) (hf : Fit (.l [.b]) d) (hv : cnt d ≤ 16777216) (m0 : 0 ≤ m) (m1 : m ≤ 34359738368) :
    Calls Try.prog 118 #[v, .int .i64 m] w (RetMk w F m d v) := by
  obtain ⟨ds, rfl, n, hn, HR⟩ := Fit.rows (k := 1) rfl hf
  obtain ⟨a, c, F', rfl, hm, hp, hcp, hM⟩ := h.mks hnd hn (by omega)
  have HCP := Lib.hid hcp
  clear hcp
  have hM0 := Lib.hid (hM m)
  have HM := Lib.hid hm
  unfold maxLen at hm
  simp only [cnt] at hv
  have HN := Lib.hid hn
  clear hM hn
  have i1 := ix_of (P := Try.prog) tabB.under tabB.size (a := a) (n := n) hp c
  simp only [Nat.mul_one] at i1
  go_enter Try.func118, Try.ntmps118
  go_wp2
  go_loopw [1, 5] (fun q i0 wr => ∃ (i : Nat) (K : Int), i ≤ n ∧ i0 = .int .i64 i ∧ q = .int .i64 K ∧ Mks w wr a ds F' F m K (i * 1)) (fun _ i _ => n - (intOf i).toNat)
  case atStart => exact ⟨0, m, Nat.zero_le _, rfl, rfl, by simpa using hM0.out⟩
  case round =>
      obtain ⟨i, K0, hi, rfl, rfl, hk0⟩ := hrel
      by_cases hlt : i < n
      · skip
        obtain ⟨x0, q0, f0⟩ := HR.out i hlt 0 _ rfl
        rw [Nat.mul_one, Nat.add_zero] at q0
        obtain ⟨y0, rfl⟩ := f0
        rw [Nat.mul_one] at hk0
        obtain ⟨⟨o0, e0⟩, z0⟩ := hk0.celln (q' := i) (by omega) q0
        have B0 := hk0.le
        have hk_0 := hk0.bool q0
        have HK := Lib.hid hk_0
        clear hk0 hk_0
        go_wp2
        go_roundw
        case rel => exact ⟨i + 1, _, by omega, by go_num, rfl, by have := HK.out; rwa [Nat.mul_one]⟩
        case measure => simp [intOf]; omega
      · have HK := Lib.hid hk0
        clear hk0
        go_wp2
        go_ret
        obtain rfl : i = n := by omega
        have h2 := HK.out
        rw [← HN.out] at h2
        exact h2.done hp HM.out HN.out HCP.out
set_option maxHeartbeats 4000000 in
theorem heldBoolS_d (S : Nat → Prop) (d : D) (v : Value) (m : Int) (w : World) (h : Rd S w (mkD m d) v) (hf : Fit (.l [.b]) d) (hv : cnt d ≤ 16777216) (m0 : 0 ≤ m) (m1 : m ≤ 34359738368) :
    Calls Try.prog 120 #[v, .int .i64 m] w (RetV w (.int .i64 (m + cnt d))) := by
  obtain ⟨ds, rfl, n, hn, HR⟩ := Fit.rows (k := 1) rfl hf
  rw [mkD] at h
  obtain ⟨a, c, rfl, hm, hp, HG⟩ := h.row (n := n) (by rw [mkL_len]; exact hn) (by omega)
  unfold maxLen at hm
  simp only [cnt] at hv
  have HN := Lib.hid hn
  clear hn
  have i1 := ix_of (P := Try.prog) tabB.under tabB.size (a := a) (n := n) hp c
  simp only [Nat.mul_one] at i1
  go_enter Try.func120, Try.ntmps120
  go_wp2
  go_loopw [1, 5] (fun q i0 wr => ∃ (i : Nat) (K : Int), i ≤ n ∧ i0 = .int .i64 i ∧ q = .int .i64 K ∧ Hid (K = m + cntL (ds.take (i * 1))) ∧ Below w.heap.size w wr) (fun _ i _ => n - (intOf i).toNat)
  case atStart => exact ⟨0, m, Nat.zero_le _, rfl, rfl, Lib.hid (by simp [cntL]), Below.refl _ _⟩
  case round =>
      obtain ⟨i, K, hi, rfl, rfl, HK, hb⟩ := hrel
      have HB := Lib.hid hb
      clear hb
      by_cases hlt : i < n
      · skip
        obtain ⟨x0, q0, f0⟩ := HR.out i hlt 0 _ rfl
        rw [Nat.mul_one, Nat.add_zero] at q0
        have k0 : K ≤ m + 16777216 ∧ 0 ≤ K := by have := HK.out; have := cntL_take_le ds (i * 1); omega
        have HK0 : Hid (K = m + cntL (ds.take i)) := Lib.hid (by have := HK.out; rwa [Nat.mul_one] at this)
        obtain ⟨u0, g0, r0⟩ := HG.out wr HB.out _ _ (mkL_get ds m _ x0 q0)
        rw [← HK0.out] at r0
        obtain ⟨y0, rfl⟩ := f0
        obtain rfl : u0 = .bool ((K) % 3 == 0) := r0
        have HK1 : Hid (K + 1 = m + cntL (ds.take (i + 1))) := Lib.hid (by have a1 := HK0.out; have a2 := cntL_take q0; show _ = m + ((cntL (ds.take (i + 1)) : Nat) : Int); rw [a2]; simp only [cnt]; omega)
        have k1 : K + 1 ≤ m + 16777216 ∧ 0 ≤ K + 1 := by have := HK1.out; have := cntL_take_le ds (i + 1); omega
        clear q0
        go_wp2
        go_roundw
        case rel => exact ⟨i + 1, _, by omega, by go_num, rfl, Lib.hid (by have := HK1.out; rw [show (i + 1) * 1 = i + 1 from by omega]; exact this), HB.out⟩
        case measure => simp [intOf]; omega
      · go_wp2
        go_ret
        obtain rfl : i = n := by omega
        refine ⟨ret_int ?_, HB.out⟩
        have a1 := HK.out
        rw [take_full HN.out] at a1
        simp only [cnt]; exact a1
end Go.Proofs.Ytkoojiplfbcalaa
