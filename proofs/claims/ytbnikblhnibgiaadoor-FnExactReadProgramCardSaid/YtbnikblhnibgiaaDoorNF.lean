/- The reference's readers of numbers and bags: contracts. -/
import Derived.Test.YtbnikblhnibgiaaDoorNE
import Derived.Test.YtbnikblhnibgiaaDoorNB
namespace Go.Proofs.YtbnikblhnibgiaaDoor
open Go.RowKit
/-- The byte at a place, as a number. -/
def bAt (s : ByteArray) (k : Nat) : Nat := (s.data.toList.getD k 0).toNat
theorem bAt_lt (s : ByteArray) (k : Nat) : bAt s k < 256 := UInt8.toNat_lt _
theorem sizeL (s : ByteArray) : s.size = s.data.toList.length := by rw [Array.length_toList]; rfl
theorem bAt_get {s : ByteArray} {k : Nat} (h : k < s.size) : s.data.toList[k]? = some (s.data.toList.getD k 0) := by
  rw [sizeL] at h
  rw [List.getD_eq_getElem?_getD, List.getElem?_eq_getElem h]; rfl
theorem takeL {l : Bs} {k : Nat} {x : UInt8} (h : l[k]? = some x) : l.take (k + 1) = l.take k ++ [x] := by
  rw [List.take_add_one, h]; rfl
theorem dropL {l : Bs} {k : Nat} {x : UInt8} (h : l[k]? = some x) : l.drop k = x :: l.drop (k + 1) := by
  obtain ⟨hk, rfl⟩ := List.getElem?_eq_some_iff.1 h
  exact List.drop_eq_getElem_cons hk
theorem valD_lt : ∀ (s : Bs), valD s < 10 ^ s.length ∨ digs s = false := fun s => by
  refine snocRec (P := fun s => valD s < 10 ^ s.length ∨ digs s = false) (.inl (by decide)) ?_ s
  intro s d ih
  rw [digs_snoc, valD_snoc]
  cases hd : digD d
  · exact .inr (by simp)
  · rcases ih with h | h
    · left
      simp [digD] at hd
      rw [List.length_append, List.length_singleton, Nat.pow_succ]
      omega
    · exact .inr (by rw [h]; rfl)
theorem digs_false {s : Bs} {k : Nat} {x : UInt8} (h : s[k]? = some x) (hx : digD x = false) : digs s = false := by
  rw [digs, List.all_eq_false]
  exact ⟨x, List.mem_of_getElem? h, by simp [hx]⟩
/-- A number and whether it is one. -/
def numP (s : Bs) : Nat × Bool := match numS s with
  | some n => (n, true)
  | none => (0, false)
theorem numP_none {s : Bs} (h : s.length < 1 ∨ 9 < s.length ∨ (s.head? = some 48 ∧ 1 < s.length)) : numP s = (0, false) := by unfold numP numS; rw [if_pos h]
theorem numP_bad {s : Bs} (h : digs s = false) : numP s = (0, false) := by
  unfold numP numS
  by_cases e : s.length < 1 ∨ 9 < s.length ∨ (s.head? = some 48 ∧ 1 < s.length)
  · rw [if_pos e]
  · rw [if_neg e, if_neg (by rw [h]; simp)]
theorem numP_ok {s : Bs} (h : ¬ (s.length < 1 ∨ 9 < s.length ∨ (s.head? = some 48 ∧ 1 < s.length))) (hd : digs s = true) : numP s = (valD s, true) := by
  unfold numP numS; rw [if_neg h, if_pos hd]
theorem idxS {P : Program} {t : TypeId} (ht : P.underlying t = some .string) (s : ByteArray) (k : Nat) (hk : k < s.size) (w : World) :
    (Instr.index t (.string s) (.int .i64 (k : Int))).run P w = .ok (.int .u8 ((bAt s k : Nat) : Int)) w := by
  rw [run_index_string w t s .i64 k ht, dif_pos (by omega)]
  have e : s[(k : Int).toNat]'(by omega) = s.data.toList.getD k 0 := by
    rw [sizeL] at hk
    simp only [Int.toNat_natCast]
    rw [List.getD_eq_getElem?_getD, List.getElem?_eq_getElem hk]
    rfl
  rw [e]; rfl
set_option maxHeartbeats 2000000 in
set_option maxRecDepth 100000 in
theorem l01Number_c (s : ByteArray) (hs : s.size ≤ 2097152) (w : World) :
    Calls Tryd.prog 52 #[.string s] w (RetV w (.tuple #[.int .i64 ((numP s.data.toList).1 : Nat), .bool (numP s.data.toList).2])) := by
  have HL := Lib.hid (sizeL s)
  by_cases h0 : s.size < 1
  · have e : numP s.data.toList = (0, false) := numP_none (.inl (by rw [← HL.out]; exact h0))
    rw [e]
    clear e
    have h0' : (s.size : Int) < 1 := by omega
    go_enter Tryd.func52, Tryd.ntmps52
    go_wp2
    go_ret2
    exact ⟨rfl, by first | exact Below.refl _ _ | exact (Below.refl _ _).drew⟩
  have h0' : ¬ (s.size : Int) < 1 := by omega
  by_cases h9 : 9 < s.size
  · have e : numP s.data.toList = (0, false) := numP_none (.inr (.inl (by rw [← HL.out]; exact h9)))
    rw [e]
    clear e
    have h9' : (9 : Int) < s.size := by omega
    go_enter Tryd.func52, Tryd.ntmps52
    go_wp2
    go_ret2
    exact ⟨rfl, by first | exact Below.refl _ _ | exact (Below.refl _ _).drew⟩
  obtain ⟨c, hc⟩ : ∃ c, c = bAt s 0 := ⟨_, rfl⟩
  have j0 := fun w' => idxS (P := Tryd.prog) Tryd.underlying9 s 0 (by omega) w'
  simp only [Int.natCast_zero] at j0
  rw [← hc] at j0
  have hc256 : c < 256 := by rw [hc]; exact bAt_lt s 0
  have HC : Hid (s.data.toList.head? = some 48 ↔ c = 48) := Lib.hid (by
    rw [List.head?_eq_getElem?, bAt_get (by omega), hc, bAt]
    simp only [Option.some.injEq, ← UInt8.toNat_inj]; rfl)
  clear hc
  by_cases hz : c = 48 ∧ 1 < s.size
  · have e : numP s.data.toList = (0, false) := numP_none (.inr (.inr ⟨HC.out.2 hz.1, by rw [← HL.out]; exact hz.2⟩))
    rw [e]
    obtain ⟨rfl, hz2⟩ := hz
    have hz2' : (1 : Int) < s.size := by omega
    clear e HC hc256 hz2
    go_enter Tryd.func52, Tryd.ntmps52
    go_wp2
    go_ret2
    exact ⟨rfl, by first | exact Below.refl _ _ | exact (Below.refl _ _).drew⟩
  have HN : Hid (¬ (s.data.toList.length < 1 ∨ 9 < s.data.toList.length ∨ (s.data.toList.head? = some 48 ∧ 1 < s.data.toList.length))) := Lib.hid (by
    rw [← HL.out, HC.out]; omega)
  by_cases he : c = 48
  · have hs1 : s.size = 1 := by omega
    have hs1' : ¬ (1 : Int) < s.size := by omega
    subst he
    clear HC hz hs1 hc256
    go_enter Tryd.func52, Tryd.ntmps52
    go_wp2
    go_loopw [4, 5] (fun n i wr => ∃ k : Nat, k ≤ s.size ∧ i = .int .i64 k ∧ n = .int .i64 (valD (s.data.toList.take k) : Nat) ∧ Hid (digs (s.data.toList.take k) = true) ∧ Hid (Below w.heap.size w wr)) (fun _ i _ => s.size - (intOf i).toNat)
    case atStart => exact ⟨0, Nat.zero_le _, rfl, rfl, Lib.hid rfl, Lib.hid (by first | exact Below.refl _ _ | exact (Below.refl _ _).drew)⟩
    case round =>
      obtain ⟨k, hk, rfl, rfl, HD, HBW⟩ := hrel
      obtain ⟨m, hm⟩ : ∃ m, m = valD (s.data.toList.take k) := ⟨_, rfl⟩
      have hk9 : k ≤ 9 := by omega
      have hm9 : m < 1000000000 := by
        have h1 := valD_lt (s.data.toList.take k)
        rw [← hm] at h1
        rcases h1 with h1 | h1
        · have h2 : (s.data.toList.take k).length ≤ 9 := by rw [List.length_take]; omega
          have h3 : 10 ^ (s.data.toList.take k).length ≤ 10 ^ 9 := Nat.pow_le_pow_right (by decide) h2
          omega
        · rw [HD.out] at h1; cases h1
      by_cases hlt : k < s.size
      · have jk := fun w' => idxS (P := Tryd.prog) Tryd.underlying9 s k hlt w'
        have hgk := Lib.hid (bAt_get hlt)
        obtain ⟨d, hd⟩ : ∃ d, d = bAt s k := ⟨_, rfl⟩
        rw [← hd] at jk
        have hd256 : d < 256 := by rw [hd]; exact bAt_lt s k
        have HX : Hid (digD (s.data.toList.getD k 0) = (decide (48 ≤ d) && decide (d ≤ 57))) := Lib.hid (by rw [hd]; rfl)
        have HV : Hid (valD (s.data.toList.take (k + 1)) = m * 10 + (d - 48)) := Lib.hid (by rw [takeL hgk.out, valD_snoc, ← hm, hd]; rfl)
        have HG : Hid (digs (s.data.toList.take (k + 1)) = (decide (48 ≤ d) && decide (d ≤ 57))) := Lib.hid (by rw [takeL hgk.out, digs_snoc, HD.out, HX.out]; rfl)
        rw [← hm]
        clear hm hd
        by_cases h1 : d < 48
        · have h1' : (d : Int) < 48 := by omega
          have e : numP s.data.toList = (0, false) := numP_bad (digs_false hgk.out (by rw [HX.out]; simp; omega))
          rw [e]
          clear e
          go_wp2
          go_ret2
          exact ⟨rfl, by first | exact HBW.out | exact HBW.out.drew⟩
        by_cases h2 : 57 < d
        · have h1' : ¬ (d : Int) < 48 := by omega
          have h2' : (57 : Int) < d := by omega
          have e : numP s.data.toList = (0, false) := numP_bad (digs_false hgk.out (by rw [HX.out]; simp; omega))
          rw [e]
          clear e
          go_wp2
          go_ret2
          exact ⟨rfl, by first | exact HBW.out | exact HBW.out.drew⟩
        have h1' : ¬ (d : Int) < 48 := by omega
        have h2' : ¬ (57 : Int) < d := by omega
        have e3 : IntKind.u8.wrap ((d : Int) - 48) = d - 48 := by simp [IntKind.wrap, IntKind.bits, IntKind.signed]; omega
        have HV2 : Hid ((m : Int) * 10 + ((d : Int) - 48) = (valD (s.data.toList.take (k + 1)) : Nat)) := Lib.hid (by rw [HV.out]; omega)
        have HG2 : Hid (digs (s.data.toList.take (k + 1)) = true) := Lib.hid (by rw [HG.out]; simp; omega)
        go_wp2
        go_roundw
        case rel => exact ⟨k + 1, by omega, by go_num, by rw [← HV2.out], HG2, Lib.hid (by first | exact HBW.out | exact HBW.out.drew)⟩
        case measure => simp [intOf]; omega
      · obtain rfl : k = s.size := by omega
        have hall : s.data.toList.take s.size = s.data.toList := by rw [HL.out, List.take_length]
        rw [hall] at HD hm
        have HE : Hid (numP s.data.toList = (m, true)) := Lib.hid (by rw [numP_ok HN.out HD.out, hm])
        rw [hall, ← hm]
        clear hm hall
        go_wp2
        go_ret2
        exact ⟨by rw [HE.out]; rfl, by first | exact HBW.out | exact HBW.out.drew⟩
  · have he' : (((c : Nat) : Int) == 48) = false := by simp; omega
    have h9' : ¬ (9 : Int) < s.size := by omega
    clear HC hz
    go_enter Tryd.func52, Tryd.ntmps52
    go_wp2
    go_loopw [4, 5] (fun n i wr => ∃ k : Nat, k ≤ s.size ∧ i = .int .i64 k ∧ n = .int .i64 (valD (s.data.toList.take k) : Nat) ∧ Hid (digs (s.data.toList.take k) = true) ∧ Hid (Below w.heap.size w wr)) (fun _ i _ => s.size - (intOf i).toNat)
    case atStart => exact ⟨0, Nat.zero_le _, rfl, rfl, Lib.hid rfl, Lib.hid (by first | exact Below.refl _ _ | exact (Below.refl _ _).drew)⟩
    case round =>
      obtain ⟨k, hk, rfl, rfl, HD, HBW⟩ := hrel
      obtain ⟨m, hm⟩ : ∃ m, m = valD (s.data.toList.take k) := ⟨_, rfl⟩
      have hk9 : k ≤ 9 := by omega
      have hm9 : m < 1000000000 := by
        have h1 := valD_lt (s.data.toList.take k)
        rw [← hm] at h1
        rcases h1 with h1 | h1
        · have h2 : (s.data.toList.take k).length ≤ 9 := by rw [List.length_take]; omega
          have h3 : 10 ^ (s.data.toList.take k).length ≤ 10 ^ 9 := Nat.pow_le_pow_right (by decide) h2
          omega
        · rw [HD.out] at h1; cases h1
      by_cases hlt : k < s.size
      · have jk := fun w' => idxS (P := Tryd.prog) Tryd.underlying9 s k hlt w'
        have hgk := Lib.hid (bAt_get hlt)
        obtain ⟨d, hd⟩ : ∃ d, d = bAt s k := ⟨_, rfl⟩
        rw [← hd] at jk
        have hd256 : d < 256 := by rw [hd]; exact bAt_lt s k
        have HX : Hid (digD (s.data.toList.getD k 0) = (decide (48 ≤ d) && decide (d ≤ 57))) := Lib.hid (by rw [hd]; rfl)
        have HV : Hid (valD (s.data.toList.take (k + 1)) = m * 10 + (d - 48)) := Lib.hid (by rw [takeL hgk.out, valD_snoc, ← hm, hd]; rfl)
        have HG : Hid (digs (s.data.toList.take (k + 1)) = (decide (48 ≤ d) && decide (d ≤ 57))) := Lib.hid (by rw [takeL hgk.out, digs_snoc, HD.out, HX.out]; rfl)
        rw [← hm]
        clear hm hd
        by_cases h1 : d < 48
        · have h1' : (d : Int) < 48 := by omega
          have e : numP s.data.toList = (0, false) := numP_bad (digs_false hgk.out (by rw [HX.out]; simp; omega))
          rw [e]
          clear e
          go_wp2
          go_ret2
          exact ⟨rfl, by first | exact HBW.out | exact HBW.out.drew⟩
        by_cases h2 : 57 < d
        · have h1' : ¬ (d : Int) < 48 := by omega
          have h2' : (57 : Int) < d := by omega
          have e : numP s.data.toList = (0, false) := numP_bad (digs_false hgk.out (by rw [HX.out]; simp; omega))
          rw [e]
          clear e
          go_wp2
          go_ret2
          exact ⟨rfl, by first | exact HBW.out | exact HBW.out.drew⟩
        have h1' : ¬ (d : Int) < 48 := by omega
        have h2' : ¬ (57 : Int) < d := by omega
        have e3 : IntKind.u8.wrap ((d : Int) - 48) = d - 48 := by simp [IntKind.wrap, IntKind.bits, IntKind.signed]; omega
        have HV2 : Hid ((m : Int) * 10 + ((d : Int) - 48) = (valD (s.data.toList.take (k + 1)) : Nat)) := Lib.hid (by rw [HV.out]; omega)
        have HG2 : Hid (digs (s.data.toList.take (k + 1)) = true) := Lib.hid (by rw [HG.out]; simp; omega)
        go_wp2
        go_roundw
        case rel => exact ⟨k + 1, by omega, by go_num, by rw [← HV2.out], HG2, Lib.hid (by first | exact HBW.out | exact HBW.out.drew)⟩
        case measure => simp [intOf]; omega
      · obtain rfl : k = s.size := by omega
        have hall : s.data.toList.take s.size = s.data.toList := by rw [HL.out, List.take_length]
        rw [hall] at HD hm
        have HE : Hid (numP s.data.toList = (m, true)) := Lib.hid (by rw [numP_ok HN.out HD.out, hm])
        rw [hall, ← hm]
        clear hm hall
        go_wp2
        go_ret2
        exact ⟨by rw [HE.out]; rfl, by first | exact HBW.out | exact HBW.out.drew⟩
end Go.Proofs.YtbnikblhnibgiaaDoor
