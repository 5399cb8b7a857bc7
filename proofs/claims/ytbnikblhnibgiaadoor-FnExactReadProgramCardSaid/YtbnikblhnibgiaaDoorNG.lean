/- Texts cut at a byte: the reference's functions. Written by mknf.py. -/
import Derived.Test.YtbnikblhnibgiaaDoorNF
namespace Go.Proofs.YtbnikblhnibgiaaDoor
open Go.RowKit
/-- The lines of a text, each of which ends with a newline; and whether the last one does. -/
def linesOfB (s : Bs) : List Bs × Bool := ((cutL 10 s).dropLast, (cutL 10 s).getLast? == some [])
/-- The state of a text that is cut: what was cut off, what comes yet. -/
structure CutS (c : UInt8) (S : Bs) (W : List ByteArray) (f k : Nat) : Prop where
  eq : cutL c S = W.map (·.data.toList) ++ cutL c (S.drop f)
  no : c ∉ (S.drop f).take (k - f)
  le : f ≤ k
  len : W.length ≤ k
theorem CutS.start (c : UInt8) (S : Bs) : CutS c S [] 0 0 := ⟨by simp, by simp, Nat.le_refl _, Nat.zero_le _⟩
theorem cut_get {S : Bs} {f k : Nat} {x : UInt8} (hx : S[k]? = some x) (h : f ≤ k) : (S.drop f).drop (k - f) = x :: S.drop (k + 1) := by
  rw [List.drop_drop, show f + (k - f) = k by omega, dropL hx]
theorem CutS.miss {c x : UInt8} {S : Bs} {W : List ByteArray} {f k : Nat} (h : CutS c S W f k) (hx : S[k]? = some x) (hne : x ≠ c) : CutS c S W f (k + 1) := by
  refine ⟨h.eq, ?_, by have := h.le; omega, by have := h.len; omega⟩
  have e : (S.drop f)[k - f]? = some x := by rw [List.getElem?_drop, show f + (k - f) = k by have := h.le; omega]; exact hx
  rw [show k + 1 - f = (k - f) + 1 by have := h.le; omega, takeL e, List.mem_append]
  rintro (e | e)
  · exact h.no e
  · simp at e; exact hne e.symm
theorem CutS.hit {c : UInt8} {s : ByteArray} {W : List ByteArray} {f k : Nat} (h : CutS c s.data.toList W f k) (hx : s.data.toList[k]? = some c) : CutS c s.data.toList (W ++ [s.extract f k]) (k + 1) (k + 1) := by
  refine ⟨?_, by simp, Nat.le_refl _, by have := h.len; simp; omega⟩
  have e : s.data.toList.drop f = (s.data.toList.drop f).take (k - f) ++ c :: s.data.toList.drop (k + 1) := by
    rw [← cut_get hx h.le, List.take_append_drop]
  rw [h.eq, e, cutL_hit _ h.no, List.map_append, List.map_cons, List.map_nil, Lib.extract_data, List.append_assoc]
  rfl
theorem CutS.last {c : UInt8} {s : ByteArray} {W : List ByteArray} {f : Nat} (h : CutS c s.data.toList W f s.size) : cutL c s.data.toList = W.map (·.data.toList) ++ [s.data.toList.drop f] := by
  have hno : c ∉ s.data.toList.drop f := by
    have := h.no
    rwa [List.take_of_length_le (by rw [List.length_drop, ← sizeL]; exact Nat.le_refl _)] at this
  rw [h.eq, cutL_miss hno]
/-- A list of strings just made. -/
def CutR (w : World) (L : List Bs) (E : Nat) (v : Value) (w' : World) : Prop := ∃ ws : List ByteArray, ws.map (·.data.toList) = L ∧ Bld E w' w.heap.size v (ws.map Value.string) ∧ ws.length ≤ 2097153 ∧ Below w.heap.size w w'
theorem sliceS {P : Program} {t : TypeId} (ht : P.underlying t = some .string) (s : ByteArray) (f k : Nat) (h1 : f ≤ k) (h2 : k ≤ s.size) (w : World) :
    (Instr.slice t (.string s) (some (.int .i64 (f : Int))) (some (.int .i64 (k : Int))) none).run P w = .ok (.string (s.extract f k)) w := by
  rw [run_slice_string_if w t s .i64 .i64 f k ht, if_pos (by omega), if_pos (by omega)]
  simp
theorem sliceS_from {P : Program} {t : TypeId} (ht : P.underlying t = some .string) (s : ByteArray) (f : Nat) (h1 : f ≤ s.size) (w : World) :
    (Instr.slice t (.string s) (some (.int .i64 (f : Int))) none none).run P w = .ok (.string (s.extract f s.size)) w := by
  simp [go_sem, ht, h1]
set_option maxHeartbeats 2000000 in
set_option maxRecDepth 100000 in
theorem l01Split_c (s : ByteArray) (c : UInt8) (hs : s.size ≤ 2097152) (w : World) :
    Calls Tryd.prog 51 #[.string s, .int .u8 ((c.toNat : Nat) : Int)] w (fun e w' => ∃ v, e = .returned v ∧ CutR w (cutL c s.data.toList) 9 v w') := by
  have i0 := Lib.hid (CutS.start c s.data.toList)
  go_enter Tryd.func51, Tryd.ntmps51
  go_wp2
  go_loopw [5, 6, 7] (fun o f i wr => ∃ (W : List ByteArray) (a k : Nat), a ≤ k ∧ k ≤ s.size ∧ i = .int .i64 k ∧ f = .int .i64 a ∧ Hid (CutS c s.data.toList W a k) ∧ Hid (Below w.heap.size w wr) ∧ Hid (Bld 9 wr w.heap.size o (W.map Value.string))) (fun _ _ i _ => s.size - (intOf i).toNat)
  case atStart => exact ⟨[], 0, 0, Nat.le_refl _, Nat.zero_le _, rfl, rfl, i0, Lib.hid (below_alloc _ _), Lib.hid (Bld.empty 9 w _ (Nat.le_refl _))⟩
  case round =>
    obtain ⟨W, a, k, hak, hk, rfl, rfl, HC, HBW, HBL⟩ := hrel
    have HWL : Hid (W.length ≤ k) := Lib.hid HC.out.len
    by_cases hlt : k < s.size
    · have jk := fun w' => idxS (P := Tryd.prog) Tryd.underlying9 s k hlt w'
      have hgk := Lib.hid (bAt_get hlt)
      obtain ⟨d, hd⟩ : ∃ d, d = bAt s k := ⟨_, rfl⟩
      rw [← hd] at jk
      have hd256 : d < 256 := by rw [hd]; exact bAt_lt s k
      have HX : Hid (s.data.toList.getD k 0 = c ↔ d = c.toNat) := Lib.hid (by
        rw [hd, bAt, ← UInt8.toNat_inj] <;> first | rfl | exact Iff.rfl)
      clear hd
      by_cases he : d = c.toNat
      · have HC2 := Lib.hid (HC.out.hit (by rw [hgk.out, HX.out.2 he]))
        have jl := fun w' => sliceS (P := Tryd.prog) Tryd.underlying9 s a k hak hk w'
        obtain ⟨y, hy⟩ : ∃ y, y = s.extract a k := ⟨_, rfl⟩
        rw [← hy] at jl HC2
        subst he
        clear hy HX hd256
        have hb6 := below_alloc wr (.cells #[.string y] 9)
        have hbl6 := Lib.hid (HBL.out.below hb6)
        have HB6 : Hid (Below w.heap.size w (wr.alloc (.cells #[.string y] 9))) := Lib.hid (HBW.out.alloc HBW.out.size _)
        clear hb6
        go_wp2_with (at_builtin; refine app_one rfl _ _ 53 rfl tabStr rfl (by decide) w.heap.size _ _ rfl hbl6.out wr.heap.size (.string y) rfl rfl ?c1 ?c2 ?c3 ?_)
        first | (case c1 => simp) | skip
        case c2 => have := HWL.out; simp; omega
        case c3 => have := HBW.out.size; simp; omega
        intro v' w7 hbl7 hb7
        have HB7 : Hid (Below w.heap.size w w7) := Lib.hid (HB6.out.trans hb7)
        have HBL7 : Hid (Bld 9 w7 w.heap.size v' ((W ++ [y]).map Value.string)) := Lib.hid (by simpa only [List.map_append, List.map_cons, List.map_nil] using hbl7)
        clear hbl7 hb7 hbl6 HBL
        go_wp2
        go_roundw
        case rel => exact ⟨_, k + 1, k + 1, by omega, by omega, by go_num, by go_num, HC2, HB7, HBL7⟩
        case measure => simp [intOf]; omega
      · have he' : (((d : Nat) : Int) == ((c.toNat : Nat) : Int)) = false := by simp; omega
        have HC2 := Lib.hid (HC.out.miss hgk.out (fun e => he (HX.out.1 e)))
        clear HX
        go_wp2
        go_roundw
        case rel => exact ⟨_, a, k + 1, by omega, by omega, by go_num, rfl, HC2, HBW, HBL⟩
        case measure => simp [intOf]; omega
    · obtain rfl : k = s.size := by omega
      have HL := Lib.hid HC.out.last
      have jl := fun w' => sliceS_from (P := Tryd.prog) Tryd.underlying9 s a hak w'
      have HY : Hid ((s.extract a s.size).data.toList = s.data.toList.drop a) := Lib.hid (Lib.extract_to_end s a)
      obtain ⟨y, hy⟩ : ∃ y, y = s.extract a s.size := ⟨_, rfl⟩
      rw [← hy] at jl HY
      clear hy
      have hb6 := below_alloc wr (.cells #[.string y] 9)
      have hbl6 := Lib.hid (HBL.out.below hb6)
      have HB6 : Hid (Below w.heap.size w (wr.alloc (.cells #[.string y] 9))) := Lib.hid (HBW.out.alloc HBW.out.size _)
      clear hb6
      go_wp2_with (at_builtin; refine app_one rfl _ _ 53 rfl tabStr rfl (by decide) w.heap.size _ _ rfl hbl6.out wr.heap.size (.string y) rfl rfl ?c1 ?c2 ?c3 ?_)
      first | (case c1 => simp) | skip
      case c2 => have := HWL.out; simp; omega
      case c3 => have := HBW.out.size; simp; omega
      intro v' w7 hbl7 hb7
      have HB7 : Hid (Below w.heap.size w w7) := Lib.hid (HB6.out.trans hb7)
      have HBL7 : Hid (Bld 9 w7 w.heap.size v' ((W ++ [y]).map Value.string)) := Lib.hid (by simpa only [List.map_append, List.map_cons, List.map_nil] using hbl7)
      clear hbl7 hb7 hbl6 HBL
      go_wp2
      go_ret
      exact ⟨_, rfl, W ++ [y], by rw [HL.out, List.map_append, List.map_cons, List.map_nil, HY.out], HBL7.out, by have := HWL.out; simp; omega, HB7.out⟩
set_option maxHeartbeats 2000000 in
set_option maxRecDepth 100000 in
theorem l07Words_c (s : ByteArray) (c : UInt8) (hs : s.size ≤ 2097152) (w : World) :
    Calls Tryd.prog 59 #[.string s, .int .u8 ((c.toNat : Nat) : Int)] w (fun e w' => ∃ v, e = .returned v ∧ CutR w (cutL c s.data.toList) 9 v w') := by
  have i0 := Lib.hid (CutS.start c s.data.toList)
  go_enter Tryd.func59, Tryd.ntmps59
  go_wp2
  go_loopw [5, 6, 7] (fun o f i wr => ∃ (W : List ByteArray) (a k : Nat), a ≤ k ∧ k ≤ s.size ∧ i = .int .i64 k ∧ f = .int .i64 a ∧ Hid (CutS c s.data.toList W a k) ∧ Hid (Below w.heap.size w wr) ∧ Hid (Bld 9 wr w.heap.size o (W.map Value.string))) (fun _ _ i _ => s.size - (intOf i).toNat)
  case atStart => exact ⟨[], 0, 0, Nat.le_refl _, Nat.zero_le _, rfl, rfl, i0, Lib.hid (below_alloc _ _), Lib.hid (Bld.empty 9 w _ (Nat.le_refl _))⟩
  case round =>
    obtain ⟨W, a, k, hak, hk, rfl, rfl, HC, HBW, HBL⟩ := hrel
    have HWL : Hid (W.length ≤ k) := Lib.hid HC.out.len
    by_cases hlt : k < s.size
    · have jk := fun w' => idxS (P := Tryd.prog) Tryd.underlying9 s k hlt w'
      have hgk := Lib.hid (bAt_get hlt)
      obtain ⟨d, hd⟩ : ∃ d, d = bAt s k := ⟨_, rfl⟩
      rw [← hd] at jk
      have hd256 : d < 256 := by rw [hd]; exact bAt_lt s k
      have HX : Hid (s.data.toList.getD k 0 = c ↔ d = c.toNat) := Lib.hid (by
        rw [hd, bAt, ← UInt8.toNat_inj] <;> first | rfl | exact Iff.rfl)
      clear hd
      by_cases he : d = c.toNat
      · have HC2 := Lib.hid (HC.out.hit (by rw [hgk.out, HX.out.2 he]))
        have jl := fun w' => sliceS (P := Tryd.prog) Tryd.underlying9 s a k hak hk w'
        obtain ⟨y, hy⟩ : ∃ y, y = s.extract a k := ⟨_, rfl⟩
        rw [← hy] at jl HC2
        subst he
        clear hy HX hd256
        have hb6 := below_alloc wr (.cells #[.string y] 9)
        have hbl6 := Lib.hid (HBL.out.below hb6)
        have HB6 : Hid (Below w.heap.size w (wr.alloc (.cells #[.string y] 9))) := Lib.hid (HBW.out.alloc HBW.out.size _)
        clear hb6
        go_wp2_with (at_builtin; refine app_one rfl _ _ 53 rfl tabStr rfl (by decide) w.heap.size _ _ rfl hbl6.out wr.heap.size (.string y) rfl rfl ?c1 ?c2 ?c3 ?_)
        first | (case c1 => simp) | skip
        case c2 => have := HWL.out; simp; omega
        case c3 => have := HBW.out.size; simp; omega
        intro v' w7 hbl7 hb7
        have HB7 : Hid (Below w.heap.size w w7) := Lib.hid (HB6.out.trans hb7)
        have HBL7 : Hid (Bld 9 w7 w.heap.size v' ((W ++ [y]).map Value.string)) := Lib.hid (by simpa only [List.map_append, List.map_cons, List.map_nil] using hbl7)
        clear hbl7 hb7 hbl6 HBL
        go_wp2
        go_roundw
        case rel => exact ⟨_, k + 1, k + 1, by omega, by omega, by go_num, by go_num, HC2, HB7, HBL7⟩
        case measure => simp [intOf]; omega
      · have he' : (((d : Nat) : Int) == ((c.toNat : Nat) : Int)) = false := by simp; omega
        have HC2 := Lib.hid (HC.out.miss hgk.out (fun e => he (HX.out.1 e)))
        clear HX
        go_wp2
        go_roundw
        case rel => exact ⟨_, a, k + 1, by omega, by omega, by go_num, rfl, HC2, HBW, HBL⟩
        case measure => simp [intOf]; omega
    · obtain rfl : k = s.size := by omega
      have HL := Lib.hid HC.out.last
      have jl := fun w' => sliceS_from (P := Tryd.prog) Tryd.underlying9 s a hak w'
      have HY : Hid ((s.extract a s.size).data.toList = s.data.toList.drop a) := Lib.hid (Lib.extract_to_end s a)
      obtain ⟨y, hy⟩ : ∃ y, y = s.extract a s.size := ⟨_, rfl⟩
      rw [← hy] at jl HY
      clear hy
      have hb6 := below_alloc wr (.cells #[.string y] 9)
      have hbl6 := Lib.hid (HBL.out.below hb6)
      have HB6 : Hid (Below w.heap.size w (wr.alloc (.cells #[.string y] 9))) := Lib.hid (HBW.out.alloc HBW.out.size _)
      clear hb6
      go_wp2_with (at_builtin; refine app_one rfl _ _ 53 rfl tabStr rfl (by decide) w.heap.size _ _ rfl hbl6.out wr.heap.size (.string y) rfl rfl ?c1 ?c2 ?c3 ?_)
      first | (case c1 => simp) | skip
      case c2 => have := HWL.out; simp; omega
      case c3 => have := HBW.out.size; simp; omega
      intro v' w7 hbl7 hb7
      have HB7 : Hid (Below w.heap.size w w7) := Lib.hid (HB6.out.trans hb7)
      have HBL7 : Hid (Bld 9 w7 w.heap.size v' ((W ++ [y]).map Value.string)) := Lib.hid (by simpa only [List.map_append, List.map_cons, List.map_nil] using hbl7)
      clear hbl7 hb7 hbl6 HBL
      go_wp2
      go_ret
      exact ⟨_, rfl, W ++ [y], by rw [HL.out, List.map_append, List.map_cons, List.map_nil, HY.out], HBL7.out, by have := HWL.out; simp; omega, HB7.out⟩
set_option maxHeartbeats 2000000 in
set_option maxRecDepth 100000 in
theorem l06Lines_c (s : ByteArray) (hs : s.size ≤ 2097152) (w : World) :
    Calls Tryd.prog 36 #[.string s] w (fun e w' => ∃ v ok, e = .returned (.tuple #[v, .bool ok]) ∧ (linesOfB s.data.toList).2 = ok ∧ CutR w (linesOfB s.data.toList).1 9 v w') := by
  have i0 := Lib.hid (CutS.start (10 : UInt8) s.data.toList)
  go_enter Tryd.func36, Tryd.ntmps36
  go_wp2
  go_loopw [4, 5, 6] (fun o f i wr => ∃ (W : List ByteArray) (a k : Nat), a ≤ k ∧ k ≤ s.size ∧ i = .int .i64 k ∧ f = .int .i64 a ∧ Hid (CutS (10 : UInt8) s.data.toList W a k) ∧ Hid (Below w.heap.size w wr) ∧ Hid (Bld 9 wr w.heap.size o (W.map Value.string))) (fun _ _ i _ => s.size - (intOf i).toNat)
  case atStart => exact ⟨[], 0, 0, Nat.le_refl _, Nat.zero_le _, rfl, rfl, i0, Lib.hid (below_alloc _ _), Lib.hid (Bld.empty 9 w _ (Nat.le_refl _))⟩
  case round =>
    obtain ⟨W, a, k, hak, hk, rfl, rfl, HC, HBW, HBL⟩ := hrel
    have HWL : Hid (W.length ≤ k) := Lib.hid HC.out.len
    by_cases hlt : k < s.size
    · have jk := fun w' => idxS (P := Tryd.prog) Tryd.underlying9 s k hlt w'
      have hgk := Lib.hid (bAt_get hlt)
      obtain ⟨d, hd⟩ : ∃ d, d = bAt s k := ⟨_, rfl⟩
      rw [← hd] at jk
      have hd256 : d < 256 := by rw [hd]; exact bAt_lt s k
      have HX : Hid (s.data.toList.getD k 0 = (10 : UInt8) ↔ d = 10) := Lib.hid (by
        rw [hd, bAt, ← UInt8.toNat_inj] <;> first | rfl | exact Iff.rfl)
      clear hd
      by_cases he : d = 10
      · have HC2 := Lib.hid (HC.out.hit (by rw [hgk.out, HX.out.2 he]))
        have jl := fun w' => sliceS (P := Tryd.prog) Tryd.underlying9 s a k hak hk w'
        obtain ⟨y, hy⟩ : ∃ y, y = s.extract a k := ⟨_, rfl⟩
        rw [← hy] at jl HC2
        subst he
        clear hy HX hd256
        have hb6 := below_alloc wr (.cells #[.string y] 9)
        have hbl6 := Lib.hid (HBL.out.below hb6)
        have HB6 : Hid (Below w.heap.size w (wr.alloc (.cells #[.string y] 9))) := Lib.hid (HBW.out.alloc HBW.out.size _)
        clear hb6
        go_wp2_with (at_builtin; refine app_one rfl _ _ 53 rfl tabStr rfl (by decide) w.heap.size _ _ rfl hbl6.out wr.heap.size (.string y) rfl rfl ?c1 ?c2 ?c3 ?_)
        first | (case c1 => simp) | skip
        case c2 => have := HWL.out; simp; omega
        case c3 => have := HBW.out.size; simp; omega
        intro v' w7 hbl7 hb7
        have HB7 : Hid (Below w.heap.size w w7) := Lib.hid (HB6.out.trans hb7)
        have HBL7 : Hid (Bld 9 w7 w.heap.size v' ((W ++ [y]).map Value.string)) := Lib.hid (by simpa only [List.map_append, List.map_cons, List.map_nil] using hbl7)
        clear hbl7 hb7 hbl6 HBL
        go_wp2
        go_roundw
        case rel => exact ⟨_, k + 1, k + 1, by omega, by omega, by go_num, by go_num, HC2, HB7, HBL7⟩
        case measure => simp [intOf]; omega
      · have he' : (((d : Nat) : Int) == 10) = false := by simp; omega
        have HC2 := Lib.hid (HC.out.miss hgk.out (fun e => he (HX.out.1 e)))
        clear HX
        go_wp2
        go_roundw
        case rel => exact ⟨_, a, k + 1, by omega, by omega, by go_num, rfl, HC2, HBW, HBL⟩
        case measure => simp [intOf]; omega
    · obtain rfl : k = s.size := by omega
      have HL := Lib.hid HC.out.last
      by_cases he : a = s.size
      · have HE : Hid ((linesOfB s.data.toList).1 = W.map (·.data.toList) ∧ (linesOfB s.data.toList).2 = true) := Lib.hid (by
          rw [linesOfB, HL.out, he]
          simp only [List.dropLast_concat, List.getLast?_concat, true_and]
          rw [List.drop_of_length_le (by rw [sizeL]; exact Nat.le_refl _)]; rfl)
        subst he
        go_wp2
        go_ret2
        exact ⟨_, _, rfl, HE.out.2, W, HE.out.1.symm, HBL.out, by have := HWL.out; omega, HBW.out⟩
      · have he' : (((a : Nat) : Int) == (s.size : Int)) = false := by simp; omega
        have HE : Hid ((linesOfB s.data.toList).1 = W.map (·.data.toList) ∧ (linesOfB s.data.toList).2 = false) := Lib.hid (by
          rw [linesOfB, HL.out]
          simp only [List.dropLast_concat, List.getLast?_concat, true_and]
          have hn : s.data.toList.drop a ≠ [] := by
            intro e
            have := congrArg List.length e
            rw [List.length_drop, ← sizeL] at this
            simp at this; omega
          simpa using hn)
        go_wp2
        go_ret2
        exact ⟨_, _, rfl, HE.out.2, W, HE.out.1.symm, HBL.out, by have := HWL.out; omega, HBW.out⟩
end Go.Proofs.YtbnikblhnibgiaaDoor
