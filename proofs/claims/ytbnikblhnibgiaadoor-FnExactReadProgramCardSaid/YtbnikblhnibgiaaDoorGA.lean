/- Readers of programs: lines, a text cut behind another, an order read by the reference. Written by mkga.py. -/
import Derived.Test.YtbnikblhnibgiaaDoorJH
import Derived.Test.YtbnikblhnibgiaaDoorJN
import Derived.Test.YtbnikblhnibgiaaDoorND
namespace Go.Proofs.YtbnikblhnibgiaaDoor
open Go.RowKit
/-- 'append(v, ys...)' of strings just built. -/
theorem app_strs {P : Program} {ops : Array Oper} {rest : List Oper} {o : Oper} {ac : Act} {Q : Exit → Act → World → Prop} {w : World} (hgd : o.guard = none) (s x : Operand) (T : TypeId)
    (ho : o.op = .call { callee := .builtin .append, args := #[s, x], argTypes := #[T, T] }) {E bytes : Nat} {z : Value} (tab : Tab P T E z 1 bytes) (hzs : z.cells.size = 1) (hby : bytes ≤ 1024)
    (B : Nat) (v : Value) (vs : List Value) (hs : ac.eval s = v) (hown : Bld E w B v vs) (g m : Nat) (ys : List ByteArray) (hm : ys.length = m)
    (hx : ac.eval x = .slice (some ⟨g, 0, none⟩) m m) (hc : ∀ j u, (ys.map Value.string)[j]? = some u → w.cell? ⟨g, j, none⟩ = some u) (hlen : vs.length + ys.length < 4294967296) (h0 : 0 < m) (hB : B ≤ w.heap.size)
    (K : ∀ v' w', Bld E w' B v' (vs ++ ys.map Value.string) → Below B w w' → wpList P ops Q rest (ac.put o.dst v') w') : wpList P ops Q (o :: rest) ac w := by
  obtain ⟨i0, hi, hz0, hz1, hz2⟩ := info_parts tab.info
  subst hm
  have hbytes : (vs.length + ys.length) * bytes ≤ 140737488355328 := by
    have : (vs.length + ys.length) * bytes ≤ 4294967296 * 1024 := Nat.mul_le_mul (by omega) hby
    omega
  refine wpList_append_own w hgd s x T ho B E i0 z 1 bytes tab.under hi hz0 hz1 hz2 hzs (by decide) v vs.length vs hs hown ⟨g, 0, none⟩ ys.length ys.length (ys.map Value.string) hx (by simp) ?_ ?_ (by unfold maxLen; omega) hbytes hB ?_
  · intro j u hu
    rw [Addr.add_lit, Nat.zero_add]
    exact hc j u hu
  · intro u hu
    obtain ⟨y, _, rfl⟩ := List.mem_map.1 hu
    rfl
  · intro v' w' h2 h3 _
    have hlt := hown.lt
    refine K v' w' (by simpa [Bld] using h2) ?_
    exact (Below.refl B w).grown h3 hB fun k hk => (hlt k hk).1
theorem sl_to {P : Program} {T E k : Nat} (hT : P.underlying T = some (.slice E)) (hE : (P.info? E).map (·.size) = some k) (g o n c m : Nat) (hm : m ≤ c) (w' : World) :
    (Instr.slice T (.slice (some ⟨g, o, none⟩) n c) none (some (.int .i64 m)) none).run P w' = .ok (.slice (some ⟨g, o, none⟩) m c) w' := by
  have hE' : ∃ info, P.info? E = some info ∧ info.size = k := by
    cases hh : P.info? E with
    | none => simp [hh] at hE
    | some info => exact ⟨info, rfl, by simpa [hh] using hE⟩
  obtain ⟨info, hi, _⟩ := hE'
  by_cases hc : c = 0
  · have hm0 : m = 0 := by omega
    simp [hm0, Instr.slice, Instr.sliceBounds, Instr.sliceBound, run_underlying hT, asIntOf, sizeOf, typeInfo, hi, hc]
  · simp [hm, Instr.slice, Instr.sliceBounds, Instr.sliceBound, run_underlying hT, asIntOf, sizeOf, typeInfo, hi, hc, Addr.add_lit]
theorem sl_from {P : Program} {T E : Nat} (hT : P.underlying T = some (.slice E)) (hE : (P.info? E).map (·.size) = some 1) (g o n N c : Nat) (hn : n = N + 1) (w' : World) :
    (Instr.slice T (.slice (some ⟨g, o, none⟩) n c) (some (.int .i64 1)) none none).run P w' = .ok (.slice (some ⟨g, if c = 1 then o else o + 1, none⟩) N (c - 1)) w' := by
  have hE' : ∃ info, P.info? E = some info ∧ info.size = 1 := by
    cases hh : P.info? E with
    | none => simp [hh] at hE
    | some info => exact ⟨info, rfl, by simpa [hh] using hE⟩
  obtain ⟨info, hi, hs⟩ := hE'
  subst hn
  have hn1 : ¬ ((N : Int) + 1 < 1) := by omega
  by_cases hc : c = 1
  · simp [hn1, Instr.slice, Instr.sliceBounds, Instr.sliceBound, run_underlying hT, asIntOf, sizeOf, typeInfo, hi, hs, hc]
  · simp [hn1, Instr.slice, Instr.sliceBounds, Instr.sliceBound, run_underlying hT, asIntOf, sizeOf, typeInfo, hi, hs, hc, Addr.add_lit]
theorem sliceS_to {P : Program} {t : TypeId} (ht : P.underlying t = some .string) (s : ByteArray) (f : Nat) (h1 : f ≤ s.size) (w : World) :
    (Instr.slice t (.string s) none (some (.int .i64 (f : Int))) none).run P w = .ok (.string (s.extract 0 f)) w := by
  simp [go_sem, ht, h1]
theorem behind_step {b : Bs} : ∀ {x : UInt8} {l : Bs}, b.isPrefixOf (x :: l) = false → behindS b (x :: l) = behindS b l := fun {x l} h => by rw [behindS, if_neg (by rw [h]; simp)]
theorem behind_hit {b s : Bs} (h : b.isPrefixOf s = true) : behindS b s = some (s.drop b.length) := by
  cases s with
  | nil =>
    cases b with
    | nil => rfl
    | cons c r => simp [List.isPrefixOf] at h
  | cons x l => rw [behindS, if_pos h]
theorem behind_short {b : Bs} (h0 : b ≠ []) : ∀ {s : Bs}, s.length < b.length → behindS b s = none
  | [], _ => by rw [behindS, if_neg h0]
  | x :: l, h => by
    rw [behindS, if_neg, behind_short h0 (by simp at h; omega)]
    intro e
    have := List.IsPrefix.length_le (List.isPrefixOf_iff_prefix.1 e)
    omega
theorem prefix_take {b s : Bs} : b.isPrefixOf s = (s.take b.length == b) := by
  rw [Bool.eq_iff_iff, List.isPrefixOf_iff_prefix, beq_iff_eq, List.prefix_iff_eq_take]
  exact ⟨fun h => h.symm, fun h => h.symm⟩
/-- What stands behind a text's first instance is returned, second of three. -/
def CutP (w : World) (s b : ByteArray) (e : Ending) (w' : World) : Prop := ∃ (x y : ByteArray) (ok : Bool), e = .returned (.tuple #[.string x, .string y, .bool ok]) ∧ y.size ≤ s.size ∧ y.data.toList = (behindS b.data.toList s.data.toList).getD [] ∧ Below w.heap.size w w'
/-- The lines of a text are returned, in memory of their own, and whether the last one is whole. -/
def LinP (w : World) (s : ByteArray) (e : Ending) (w' : World) : Prop := ∃ (ws : List ByteArray) (g : Nat) (ok : Bool), ws.map (·.data.toList) = cutL 10 s.data.toList ∧ (linesOfS s.data.toList).2 = ok ∧ e = .returned (.tuple #[.slice (some ⟨g, 0, none⟩) (ws.length - 1) ws.length, .bool ok]) ∧
  1 ≤ ws.length ∧ ws.length ≤ 2097153 ∧ g < w'.heap.size ∧ w.heap.size ≤ g ∧ (∀ j, j < ws.length → w'.cell? ⟨g, j, none⟩ = some (.string (nthBA ws j))) ∧ Below w.heap.size w w'
set_option maxHeartbeats 2000000 in
set_option maxRecDepth 100000 in
theorem l06Cut_c (s b : ByteArray) (hs : s.size ≤ 2097152) (hb : 1 ≤ b.size ∧ b.size ≤ 1000) (w : World) :
    Calls Tryd.prog 37 #[.string s, .string b] w (CutP w s b) := by
  have HL := Lib.hid (sizeL s)
  have HLB := Lib.hid (sizeL b)
  go_enter Tryd.func37, Tryd.ntmps37
  go_wp2
  go_loopw [7] (fun i wr => ∃ k : Nat, k ≤ s.size + 1 ∧ i = .int .i64 k ∧ Hid (behindS b.data.toList s.data.toList = behindS b.data.toList (s.data.toList.drop k)) ∧ Hid (Below w.heap.size w wr)) (fun i _ => s.size + 1 - (intOf i).toNat)
  case atStart => exact ⟨0, Nat.zero_le _, rfl, Lib.hid rfl, Lib.hid (Below.refl _ _)⟩
  case round =>
    obtain ⟨k, hk, rfl, HQ, HBW⟩ := hrel
    by_cases hlt : k + b.size ≤ s.size
    · have hlt' : (k : Int) + b.size ≤ s.size := by omega
      have j1 := fun w' => sliceS (P := Tryd.prog) Tryd.underlying9 s k (k + b.size) (by omega) hlt w'
      simp only [Int.natCast_add] at j1
      obtain ⟨y, hy⟩ : ∃ y, y = s.extract k (k + b.size) := ⟨_, rfl⟩
      rw [← hy] at j1
      have hyl : y.toList = (s.data.toList.drop k).take b.data.toList.length := by
        rw [ByteArray.toList_eq, hy, Lib.extract_data, ← HLB.out]
        congr 1; omega
      have hpre : b.data.toList.isPrefixOf (s.data.toList.drop k) = (y.toList == b.toList) := by
        rw [prefix_take, hyl, ByteArray.toList_eq]
      have hkl : k < s.data.toList.length := by have := HL.out; omega
      clear hy hyl
      cases hc : (y.toList == b.toList)
      · have HN : Hid (behindS b.data.toList s.data.toList = behindS b.data.toList (s.data.toList.drop (k + 1))) := Lib.hid (by
          rw [HQ.out]
          rw [hc] at hpre
          rw [List.drop_eq_getElem_cons hkl] at hpre ⊢
          exact behind_step hpre)
        clear hpre
        go_wp2
        go_roundw
        case rel => exact ⟨k + 1, by omega, by go_num, HN, HBW⟩
        case measure => simp [intOf]; omega
      · have HR : Hid ((behindS b.data.toList s.data.toList).getD [] = s.data.toList.drop (k + b.size)) := Lib.hid (by
          rw [HQ.out, behind_hit (by rw [hpre, hc]), Option.getD_some, List.drop_drop, ← HLB.out])
        have j2 := fun w' => sliceS_to (P := Tryd.prog) Tryd.underlying9 s k (by omega) w'
        have j3 := fun w' => sliceS_from (P := Tryd.prog) Tryd.underlying9 s (k + b.size) hlt w'
        simp only [Int.natCast_add] at j3
        have HZ : Hid ((s.extract (k + b.size) s.size).size ≤ s.size) := Lib.hid (by rw [ByteArray.size_extract]; omega)
        have HD : Hid ((s.extract (k + b.size) s.size).data.toList = s.data.toList.drop (k + b.size)) := Lib.hid (Lib.extract_to_end s (k + b.size))
        obtain ⟨t, ht⟩ : ∃ t, t = s.extract (k + b.size) s.size := ⟨_, rfl⟩
        obtain ⟨u, hu⟩ : ∃ u, u = s.extract 0 k := ⟨_, rfl⟩
        rw [← ht] at j3 HZ HD
        rw [← hu] at j2
        clear ht hu hpre
        go_wp2
        go_quiet (fail)
        go_wp2
        go_ret3
        exact ⟨_, _, _, rfl, HZ.out, by rw [HD.out, HR.out], by first | exact HBW.out | exact HBW.out.drew | exact ⟨HBW.out.os, HBW.out.tape, HBW.out.output, HBW.out.size, HBW.out.block⟩⟩
    · have hlt' : ¬ (k : Int) + b.size ≤ s.size := by omega
      have HR : Hid ((behindS b.data.toList s.data.toList).getD [] = []) := Lib.hid (by
        rw [HQ.out, behind_short (by intro e; have := HLB.out; rw [e, List.length_nil] at this; omega) (by rw [List.length_drop, ← HL.out, ← HLB.out]; omega)]; rfl)
      go_wp2
      go_ret3
      exact ⟨_, _, _, rfl, Nat.zero_le _, by rw [HR.out], by first | exact HBW.out | exact HBW.out.drew | exact ⟨HBW.out.os, HBW.out.tape, HBW.out.output, HBW.out.size, HBW.out.block⟩⟩
set_option maxHeartbeats 4000000 in
set_option maxRecDepth 100000 in
theorem linesOf_c (s : ByteArray) (hs : s.size ≤ 2097152) (w : World) (hlib : LibOk w) :
    Calls Tryd.prog 42 #[.string s] w (LinP w s) := by
  have C := Lib.hid (split_c s 10 hs w hlib)
  clear hlib
  go_enter Tryd.func42, Tryd.ntmps42
  go_wp2_with fail
  refine C.out.mono ?_
  rintro e w1 ⟨ws, hws, hw1, hwl, rfl, hw2⟩
  have hb1 : Below w.heap.size w w1 := by rw [hw2]; exact below_alloc _ _
  have hg : w.heap.size < w1.heap.size := by rw [hw2]; simp
  have hcell : ∀ j, j < ws.length → w1.cell? ⟨w.heap.size, j, none⟩ = some (.string (nthBA ws j)) := fun j hj => by
    rw [hw2]; simp [go_sem, nthBA, hj]
  obtain ⟨m, hm⟩ : ∃ m, m = ws.length := ⟨_, rfl⟩
  obtain ⟨n, hn⟩ : ∃ n, m = n + 1 := ⟨m - 1, by omega⟩
  have hlast : (linesOfS s.data.toList).2 = (nthBA ws n).toList.isEmpty := by
    rw [linesOfS, ← hws, List.getLast?_map, List.getLast?_eq_getElem?, ← hm, hn, show n + 1 - 1 = n by omega, ByteArray.toList_eq, nthBA, List.getD_eq_getElem?_getD, List.getElem?_eq_getElem (by omega)]
    simp
  have g0 := hcell n (by omega)
  have iw := ix_of (P := Tryd.prog) tabStr.under tabStr.size (a := some ⟨w.heap.size, 0, none⟩) (n := m) (fun _ => ⟨w.heap.size, 0, rfl⟩) m
  simp only [Nat.mul_one, adr, blk, ofs, Nat.zero_add] at iw
  have jw := fun w' => iw n w' (by omega) (by omega)
  simp only [Int.toNat_natCast] at jw
  have HB := Lib.hid hb1
  have HCL := Lib.hid hcell
  have HWS := Lib.hid hws
  have HLA := Lib.hid hlast
  have HN := Lib.hid hn
  have HM := Lib.hid hm
  have HQ : Hid (ws.length - 1 = n ∧ ws.length = m) := Lib.hid (by omega)
  have hsl := fun w' => sl_to (P := Tryd.prog) tabStr.under tabStr.size w.heap.size 0 m m n (by omega) w'
  obtain ⟨y, hy⟩ : ∃ y, y = nthBA ws n := ⟨_, rfl⟩
  rw [← hy] at g0 HLA
  have hnb : n ≤ 2097152 := by omega
  have e2 : (m : Int) - 1 = n := by omega
  rw [← hm]
  clear hws hcell hlast hw2 hw1 hwl C hy iw hm hn
  go_wp2
  go_quiet (fail)
  go_wp2
  go_ret2
  exact ⟨ws, w.heap.size, _, HWS.out, HLA.out, by rw [HQ.out.1, HQ.out.2]; rfl, by have := HN.out; have := HM.out; omega, by have := HN.out; have := HM.out; omega, hg, Nat.le_refl _, HCL.out, ⟨HB.out.os, HB.out.tape, HB.out.output, HB.out.size, HB.out.block⟩⟩
end Go.Proofs.YtbnikblhnibgiaaDoor
