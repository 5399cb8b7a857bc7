/- The reference's readers of programs: numbers. Written by mkjn.py. -/
import Derived.Test.YtbnikblhnibgiaaDoorNG
namespace Go.Proofs.YtbnikblhnibgiaaDoor
open Go.RowKit
theorem num7_len {s : Bs} (h : s.length < 1 ∨ 4 < s.length) : num7 s = -1 := by unfold num7; rw [if_pos h]
theorem num7_bad {s : Bs} (h : digs s = false) : num7 s = -1 := by
  unfold num7
  by_cases e : s.length < 1 ∨ 4 < s.length
  · rw [if_pos e]
  · rw [if_neg e, if_neg (by rw [h]; simp)]
theorem num7_ok {s : Bs} (h : ¬ (s.length < 1 ∨ 4 < s.length)) (hd : digs s = true) : num7 s = valD s := by
  unfold num7; rw [if_neg h, if_pos hd]
set_option maxHeartbeats 2000000 in
set_option maxRecDepth 100000 in
theorem l07Number_c (s : ByteArray) (hs : s.size ≤ 2097152) (w : World) :
    Calls Tryd.prog 38 #[.string s] w (RetV w (.int .i64 (num7 s.data.toList))) := by
  have HL := Lib.hid (sizeL s)
  by_cases h0 : s.size < 1
  · have e := num7_len (s := s.data.toList) (.inl (by rw [← HL.out]; exact h0))
    rw [e]
    clear e
    have h0' : (s.size : Int) < 1 := by omega
    go_enter Tryd.func38, Tryd.ntmps38
    go_wp2
    go_ret
    exact ⟨rfl, by first | exact Below.refl _ _ | exact (Below.refl _ _).drew⟩
  have h0' : ¬ (s.size : Int) < 1 := by omega
  by_cases h9 : 4 < s.size
  · have e := num7_len (s := s.data.toList) (.inr (by rw [← HL.out]; exact h9))
    rw [e]
    clear e
    have h9' : (4 : Int) < s.size := by omega
    go_enter Tryd.func38, Tryd.ntmps38
    go_wp2
    go_ret
    exact ⟨rfl, by first | exact Below.refl _ _ | exact (Below.refl _ _).drew⟩
  have h9' : ¬ (4 : Int) < s.size := by omega
  have HN : Hid (¬ (s.data.toList.length < 1 ∨ 4 < s.data.toList.length)) := Lib.hid (by rw [← HL.out]; omega)
  go_enter Tryd.func38, Tryd.ntmps38
  go_wp2
  go_loopw [3, 4] (fun n i wr => ∃ k : Nat, k ≤ s.size ∧ i = .int .i64 k ∧ n = .int .i64 (valD (s.data.toList.take k) : Nat) ∧ Hid (digs (s.data.toList.take k) = true) ∧ Hid (Below w.heap.size w wr)) (fun _ i _ => s.size - (intOf i).toNat)
  case atStart => exact ⟨0, Nat.zero_le _, rfl, rfl, Lib.hid rfl, Lib.hid (by first | exact Below.refl _ _ | exact (Below.refl _ _).drew)⟩
  case round =>
    obtain ⟨k, hk, rfl, rfl, HD, HBW⟩ := hrel
    obtain ⟨m, hm⟩ : ∃ m, m = valD (s.data.toList.take k) := ⟨_, rfl⟩
    have hk9 : k ≤ 4 := by omega
    have hm9 : m < 10000 := by
      have h1 := valD_lt (s.data.toList.take k)
      rw [← hm] at h1
      rcases h1 with h1 | h1
      · have h2 : (s.data.toList.take k).length ≤ 4 := by rw [List.length_take]; omega
        have h3 : 10 ^ (s.data.toList.take k).length ≤ 10 ^ 4 := Nat.pow_le_pow_right (by decide) h2
        omega
      · rw [HD.out] at h1; cases h1
    by_cases hlt : k < s.size
    · have jk := fun w' => idxS (P := Tryd.prog) Tryd.underlying9 s k hlt w'
      have hgk := Lib.hid (bAt_get hlt)
      obtain ⟨d, hd⟩ : ∃ d, d = bAt s k := ⟨_, rfl⟩
      rw [← hd] at jk
      have hd256 : d < 256 := by rw [hd]; exact bAt_lt s k
      have HX : Hid (digD (s.data.toList.getD k 0) = (decide (48 ≤ d) && decide (d ≤ 57))) := Lib.hid (by rw [hd]; rfl)
      have HV : Hid (valD (s.data.toList.take (k + 1)) = m * 10 + (d - 48)) := Lib.hid (by rw [takeL hgk.out, valD_snoc, ← hm, hd]; rfl)
      have HG : Hid (digs (s.data.toList.take (k + 1)) = (decide (48 ≤ d) && decide (d ≤ 57))) := Lib.hid (by rw [takeL hgk.out, digs_snoc, HD.out, HX.out]; rfl)
      rw [← hm]
      clear hm hd
      by_cases h1 : d < 48
      · have h1' : (d : Int) < 48 := by omega
        have HE := Lib.hid (num7_bad (digs_false hgk.out (by rw [HX.out]; simp; omega)))
        go_wp2
        go_ret
        exact ⟨by rw [HE.out]; rfl, by first | exact HBW.out | exact HBW.out.drew⟩
      by_cases h2 : 57 < d
      · have h1' : ¬ (d : Int) < 48 := by omega
        have h2' : (57 : Int) < d := by omega
        have HE := Lib.hid (num7_bad (digs_false hgk.out (by rw [HX.out]; simp; omega)))
        go_wp2
        go_ret
        exact ⟨by rw [HE.out]; rfl, by first | exact HBW.out | exact HBW.out.drew⟩
      have h1' : ¬ (d : Int) < 48 := by omega
      have h2' : ¬ (57 : Int) < d := by omega
      have e3 : IntKind.u8.wrap ((d : Int) - 48) = d - 48 := by simp [IntKind.wrap, IntKind.bits, IntKind.signed]; omega
      have HV2 : Hid ((m : Int) * 10 + ((d : Int) - 48) = (valD (s.data.toList.take (k + 1)) : Nat)) := Lib.hid (by rw [HV.out]; omega)
      have HG2 : Hid (digs (s.data.toList.take (k + 1)) = true) := Lib.hid (by rw [HG.out]; simp; omega)
      go_wp2
      go_roundw
      case rel => exact ⟨k + 1, by omega, by go_num, by rw [← HV2.out], HG2, Lib.hid (by first | exact HBW.out | exact HBW.out.drew)⟩
      case measure => simp [intOf]; omega
    · obtain rfl : k = s.size := by omega
      have hall : s.data.toList.take s.size = s.data.toList := by rw [HL.out, List.take_length]
      rw [hall] at HD hm
      have HE : Hid (num7 s.data.toList = m) := Lib.hid (by rw [num7_ok HN.out HD.out, hm])
      rw [hall, ← hm]
      clear hm hall
      go_wp2
      go_ret
      exact ⟨by rw [HE.out]; rfl, by first | exact HBW.out | exact HBW.out.drew⟩
end Go.Proofs.YtbnikblhnibgiaaDoor
