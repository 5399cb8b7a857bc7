/- Programs that are read: the program's function. Written by mkgd.py. -/
import Derived.Test.YtbnikblhnibgiaaDoorGC
namespace Go.Proofs.YtbnikblhnibgiaaDoor
open Go.RowKit
/-- The lines that end with a newline are returned, in memory of their own, and whether the last one is whole. -/
def LinQ (w : World) (s : ByteArray) (e : Ending) (w' : World) : Prop := ∃ (ws : List ByteArray) (g : Nat) (ok : Bool), ws.map (·.data.toList) = (linesOfS s.data.toList).1 ∧ (linesOfS s.data.toList).2 = ok ∧ e = .returned (.tuple #[.slice (some ⟨g, 0, none⟩) ws.length (ws.length + 1), .bool ok]) ∧
  ws.length ≤ 2097152 ∧ g < w'.heap.size ∧ w.heap.size ≤ g ∧ (∀ j, j < ws.length → w'.cell? ⟨g, j, none⟩ = some (.string (nthBA ws j))) ∧ Below w.heap.size w w'
theorem LinQ.of {w w' : World} {s : ByteArray} {e : Ending} (h : LinP w s e w') : LinQ w s e w' := by
  obtain ⟨ws, g, ok, h1, h2, h3, h4, h5, h6, h7, h8, h9⟩ := h
  have hl : ws.dropLast.length = ws.length - 1 := List.length_dropLast
  refine ⟨ws.dropLast, g, ok, by rw [List.map_dropLast, h1]; rfl, h2, by rw [h3, hl, show ws.length - 1 + 1 = ws.length by omega], by omega, h6, h7, fun j hj => ?_, h9⟩
  rw [hl] at hj
  rw [h8 j (by omega)]
  congr 2
  unfold nthBA
  rw [List.getD_eq_getElem?_getD, List.getD_eq_getElem?_getD, List.getElem?_dropLast, if_pos hj]
/-- The numbers of a line that are being read: its words in block B, the numbers in block Z. -/
structure NAr (wr wx : World) (B Z : Nat) (ws : List ByteArray) (A : List Int) : Prop where
  bel : Below wr.heap.size wr wx
  hB : wr.heap.size ≤ B ∧ B < Z
  hZ : Z < wx.heap.size
  wd : ∀ j, j < ws.length → wx.cell? ⟨B, j, none⟩ = some (.string (nthBA ws j))
  ar : ∀ q, q < 3 → wx.cell? ⟨Z, q, none⟩ = some (.int .i64 (nth A q))
  zf : ∀ i, wx.frozen? ⟨Z, i, none⟩ = false
theorem NAr.below {wr wx wy : World} {B Z : Nat} {ws : List ByteArray} {A : List Int} (h : NAr wr wx B Z ws A) (hb : Below wx.heap.size wx wy) : NAr wr wy B Z ws A := by
  have hB := h.hB
  have hZ := h.hZ
  exact ⟨bnext h.bel hb (Nat.le_refl _), hB, Nat.lt_of_lt_of_le hZ hb.size, fun j hj => (bcell1 hb (by omega)).trans (h.wd j hj), fun q hq => (bcell1 hb hZ).trans (h.ar q hq), fun i => (hb.frozen (p := ⟨Z, i, none⟩) hZ).trans (h.zf i)⟩
theorem NAr.set {wr wx : World} {B Z : Nat} {ws : List ByteArray} {A : List Int} (h : NAr wr wx B Z ws A) (hA : A.length = 3) {q : Nat} (hq : q < 3) (y : Int) : NAr wr (wx.setCell ⟨Z, q, none⟩ (.int .i64 y)) B Z ws (A.set q y) := by
  have hB := h.hB
  have hZ := h.hZ
  have hs : (wx.setCell ⟨Z, q, none⟩ (.int .i64 y)).heap.size = wx.heap.size := (Exc.setCell _ _ _).size
  refine ⟨h.bel.setCell (by simp; omega) _, hB, by rw [hs]; exact hZ, fun j hj => (oth_cell (.inl (by omega))).trans (h.wd j hj), fun p hp => ?_, fun i => by rw [World.frozen?_setCell]; exact h.zf i⟩
  by_cases e : q = p
  · subst e
    rw [nthS_eq (by omega)]
    exact World.cell?_setCell_same _ _ _ (h.ar q hq)
  · rw [nthS_ne e, oth_cell (.inr (Ne.symm e))]
    exact h.ar p hp
/-- The number behind the first word. -/
def numA (ws : List ByteArray) (q : Nat) : Int := if q + 1 < ws.length then pvS (nthBA ws (q + 1)).data.toList else 0
/-- The first k numbers have been read. -/
def ArK (ws : List ByteArray) (k : Nat) (A : List Int) : Prop := A.length = 3 ∧ ∀ q, q < 3 → nth A q = if q < k then numA ws q else 0
theorem ArK.zero (ws : List ByteArray) : ArK ws 0 [0, 0, 0] := ⟨rfl, fun q hq => by
  match q, hq with
  | 0, _ => rfl
  | 1, _ => rfl
  | 2, _ => rfl⟩
theorem ArK.put {ws : List ByteArray} {k : Nat} {A : List Int} (h : ArK ws k A) (hk : k < 3) (hn : k + 1 < ws.length) {x : Int} (hx : x = pvS (nthBA ws (k + 1)).data.toList) : ArK ws (k + 1) (A.set k x) := by
  refine ⟨by rw [List.length_set]; exact h.1, fun q hq => ?_⟩
  by_cases e : k = q
  · subst e
    rw [nthS_eq (by rw [h.1]; omega), if_pos (by omega), hx, numA, if_pos hn]
  · rw [nthS_ne e, h.2 q hq]
    by_cases e2 : q < k
    · rw [if_pos e2, if_pos (by omega)]
    · rw [if_neg e2, if_neg (by omega)]
theorem ArK.skip {ws : List ByteArray} {k : Nat} {A : List Int} (h : ArK ws k A) (hk : ¬ k < 3) : ArK ws (k + 1) A :=
  ⟨h.1, fun q hq => by rw [h.2 q hq, if_pos (by omega), if_pos (by omega)]⟩
theorem ArK.done {ws : List ByteArray} {k : Nat} {A : List Int} (h : ArK ws k A) (hk : ws.length = k + 1) : nth A 0 = numA ws 0 ∧ nth A 1 = numA ws 1 ∧ nth A 2 = numA ws 2 := by
  have key : ∀ q, q < 3 → nth A q = numA ws q := fun q hq => by
    rw [h.2 q hq]
    by_cases e : q < k
    · rw [if_pos e]
    · rw [if_neg e, numA, if_neg (by omega)]
  exact ⟨key 0 (by omega), key 1 (by omega), key 2 (by omega)⟩
theorem pOrd_of {line : Bs} {ws : List ByteArray} (h : ws.map (·.data.toList) = cutL 32 line) (h1 : 1 ≤ ws.length) :
    pOrd line = if (nthBA ws 0).data.toList = [97, 100, 100] then ⟨1, numA ws 0, numA ws 1, numA ws 2⟩ else if (nthBA ws 0).data.toList = [115, 117, 98] then ⟨2, numA ws 0, numA ws 1, numA ws 2⟩ else ⟨3, 0, 0, 0⟩ := by
  have e0 : (cutL 32 line)[0]? = some (nthBA ws 0).data.toList := by
    rw [← h, List.getElem?_map, List.getElem?_eq_getElem h1]
    simp [nthBA, show 0 < ws.length by omega]
  have en : ∀ q, (cutL 32 line)[q + 1]? = if q + 1 < ws.length then some (nthBA ws (q + 1)).data.toList else none := fun q => by
    rw [← h, List.getElem?_map]
    by_cases hq : q + 1 < ws.length
    · rw [List.getElem?_eq_getElem hq, if_pos hq]
      simp [nthBA, hq]
    · rw [List.getElem?_eq_none (by omega), if_neg hq]
      rfl
  unfold pOrd
  simp only
  rw [e0, en 0, en 1, en 2]
  simp only [Option.some.injEq]
  unfold numA
  by_cases q0 : 0 + 1 < ws.length <;> by_cases q1 : 1 + 1 < ws.length <;> by_cases q2 : 2 + 1 < ws.length <;> simp only [q0, q1, q2, if_true, if_false]
theorem progRd_a {s : Bs} {ls : List Bs} {ok : Bool} (h1 : (linesOfS s).1 = ls) (h2 : (linesOfS s).2 = ok) (h : ¬ (ok = true ∧ 1 ≤ ls.length ∧ ls.length ≤ 7)) : specRd s = none := by
  have e : linesOfS s = (ls, ok) := by rw [← h1, ← h2]
  rw [← rd_same]
  unfold progRd
  rw [e]
  simp only
  rw [if_neg h]
theorem progRd_b {s : Bs} {ls : List Bs} {ok : Bool} (h1 : (linesOfS s).1 = ls) (h2 : (linesOfS s).2 = ok) (h : ok = true ∧ 1 ≤ ls.length ∧ ls.length ≤ 7) :
    specRd s = if (textB (pHead (ls.getD 0 [])) (ls.tail.map pOrd)).data.toList = s then some (pHead (ls.getD 0 []), ls.tail.map pOrd) else none := by
  have e : linesOfS s = (ls, ok) := by rw [← h1, ← h2]
  rw [← rd_same]
  unfold progRd
  rw [e]
  simp only
  rw [if_pos h]
theorem cntL_ds : ∀ os : List Ord, cntL (os.flatMap Ord.ds) = os.length * 4
  | [] => rfl
  | o :: os => by rw [List.flatMap_cons, cntL_app, cntL_ds os, List.length_cons]; simp [Ord.ds, cntL, cnt]; omega
theorem readProg_cnt (s : Bs) : cnt (dO (readProgS s).1.2) ≤ 100 := by
  unfold readProgS
  cases h : specRd s with
  | none => simp [dO, cnt, cntL]
  | some p =>
    obtain ⟨hv, _⟩ := spec_some h
    obtain ⟨_, _, h6, _⟩ := valid_ok hv
    simp only [dO, cnt]
    rw [cntL_ds]; omega
theorem size_str_c (a : Option Addr) (n c : Nat) (w : World) (_hn : n ≤ maxLen) : Calls Tryd.prog 43 #[.slice a n c] w (RetP w (.int .i64 n)) := by
  unfold maxLen at _hn
  go_enter Tryd.func43, Tryd.ntmps43
  go_wp2
  go_ret
  exact ⟨rfl, rfl⟩
set_option maxHeartbeats 8000000 in
set_option maxRecDepth 100000 in
theorem implReadProgram_d (s : ByteArray) (w : World) (hs : s.size ≤ 2097152) (hlib : LibOk w) :
    Calls Tryd.prog 18 #[.string s] w (RetAQ w [.i (readProgS s.data.toList).1.1, dO (readProgS s.data.toList).1.2] (readProgS s.data.toList).2) := by
  obtain ⟨Q, hQ⟩ : ∃ Q, Q = readProgS s.data.toList := ⟨_, rfl⟩
  rw [← hQ]
  have HQ := Lib.hid hQ
  clear hQ
  have C := Lib.hid ((linesOf_c s hs (w.alloc (.cells #[.int .i64 0, .slice none 0 0] 36)) (hlib.below (below_alloc _ _))).mono (fun e w' h => LinQ.of h))
  have HLIB := Lib.hid hlib
  clear hlib
  go_enter Tryd.func18, Tryd.ntmps18
  go_wp2_with fail
  refine C.out.mono ?_
  rintro e w1 ⟨ws, g, ok, hws, hok, rfl, hwl, hgl, hgB, hcell, hb1⟩
  have HW1 : Hid (Below w.heap.size w w1) := Lib.hid ((below_alloc w _).trans (hb1.mono (by simp)))
  have HRB : Hid (w.heap.size < w1.heap.size) := Lib.hid (by have := hb1.size; simp at this; omega)
  have HR0 : Hid (w1.cell? ⟨w.heap.size, 0, none⟩ = some (.int .i64 0)) := Lib.hid ((bcell1 hb1 (by simp)).trans (by simp [go_sem]))
  have HR1 : Hid (w1.cell? ⟨w.heap.size, 1, none⟩ = some (.slice none 0 0)) := Lib.hid ((bcell1 hb1 (by simp)).trans (by simp [go_sem]))
  have HRZ0 : Hid (w1.frozen? ⟨w.heap.size, 0, none⟩ = false) := Lib.hid ((hb1.frozen (p := ⟨w.heap.size, 0, none⟩) (by simp)).trans (by simp [go_sem]))
  have HRZ1 : Hid (w1.frozen? ⟨w.heap.size, 1, none⟩ = false) := Lib.hid ((hb1.frozen (p := ⟨w.heap.size, 1, none⟩) (by simp)).trans (by simp [go_sem]))
  have HB1 : Hid (Below w1.heap.size w1 w1) := Lib.hid (Below.refl _ _)
  have HOK := Lib.hid hok
  have HWS := Lib.hid hws
  obtain ⟨n, hn⟩ : ∃ n, n = ws.length := ⟨_, rfl⟩
  have hn2 : n ≤ 2097152 := by omega
  have HN := Lib.hid hn
  have HLN : Hid ((ws.map (·.data.toList)).length = n) := Lib.hid (by simpa using hn.symm)
  have HGL := Lib.hid hgl
  have HCL := Lib.hid hcell
  have HWSZ : Hid (∀ j, j < n → (nthBA ws j).size ≤ 2097152) := Lib.hid fun j hj => by
    have h2 := words_mem (ws := ws) rfl (k := j) (by omega)
    rw [hws] at h2
    have h3 := cutL_size 10 s.data.toList _ (List.dropLast_subset _ h2)
    rw [← sizeL, ← sizeL] at h3
    omega
  have CS := size_str_c (some ⟨g, 0, none⟩) n (n + 1) w1 (by unfold maxLen; omega)
  have CI := inRange_c (n : Int) 1 7 w1
  rw [← hn]
  clear hb1 C hok hws hwl hgl hgB hcell
  by_cases hc : ok = true ∧ 1 ≤ n ∧ n ≤ 7
  rotate_left
  · have HF : Hid (Q = ((0, []), 5)) := Lib.hid (by rw [HQ.out, readProg_none (progRd_a HWS.out.symm HOK.out (by rw [HLN.out]; exact hc))])
    clear hn
    cases ok
    · clear hc CS CI
      have sA := setP2 w1 w.heap.size (.int .i64 0) (.slice none 0 0) ((bcell1 HB1.out HRB.out).trans HR0.out) ((bcell1 HB1.out HRB.out).trans HR1.out)
      have rr0 := (bcell1 HB1.out HRB.out).trans HR0.out
      have rr1 := (bcell1 HB1.out HRB.out).trans HR1.out
      have rz0 := (HB1.out.frozen (p := ⟨w.heap.size, 0, none⟩) HRB.out).trans HRZ0.out
      have rz1 := (HB1.out.frozen (p := ⟨w.heap.size, 1, none⟩) HRB.out).trans HRZ1.out
      go_wp2
      refine bodyPost_ret (v := .tuple #[.agg #[.int .i64 0, .slice none 0 0], .int .i64 5]) (by simp [results, Tryd.results18, go_sem, sA]) rfl ?_
      exact RetAQ.none (bnext HW1.out HB1.out (Nat.le_refl _)) (Nat.le_refl _) HF.out
    · have h1 : inRg (n : Int) 1 7 = false := by
        have : ¬ (1 ≤ n ∧ n ≤ 7) := fun h => hc ⟨rfl, h⟩
        simp [inRg]; omega
      rw [h1] at CI
      replace CS := Lib.hid CS
      replace CI := Lib.hid CI
      clear hc h1
      go_wp2_with fail
      refine CS.out.mono ?_
      rintro e wz ⟨rfl, rfl⟩
      go_wp2_with fail
      refine CI.out.mono ?_
      rintro e wz ⟨rfl, rfl⟩
      have sA := setP2 w1 w.heap.size (.int .i64 0) (.slice none 0 0) ((bcell1 HB1.out HRB.out).trans HR0.out) ((bcell1 HB1.out HRB.out).trans HR1.out)
      have rr0 := (bcell1 HB1.out HRB.out).trans HR0.out
      have rr1 := (bcell1 HB1.out HRB.out).trans HR1.out
      have rz0 := (HB1.out.frozen (p := ⟨w.heap.size, 0, none⟩) HRB.out).trans HRZ0.out
      have rz1 := (HB1.out.frozen (p := ⟨w.heap.size, 1, none⟩) HRB.out).trans HRZ1.out
      go_wp2
      refine bodyPost_ret (v := .tuple #[.agg #[.int .i64 0, .slice none 0 0], .int .i64 5]) (by simp [results, Tryd.results18, go_sem, sA]) rfl ?_
      exact RetAQ.none (bnext HW1.out HB1.out (Nat.le_refl _)) (Nat.le_refl _) HF.out
  obtain ⟨rfl, h1, h7⟩ := hc
  have e1 : inRg (n : Int) 1 7 = true := by simp [inRg]; omega
  rw [e1] at CI
  replace CS := Lib.hid CS
  replace CI := Lib.hid CI
  have HRD := Lib.hid (progRd_b HWS.out.symm HOK.out ⟨rfl, by rw [HLN.out]; exact h1, by rw [HLN.out]; exact h7⟩)
  have iw := ix_of (P := Tryd.prog) tabStr.under tabStr.size (a := some ⟨g, 0, none⟩) (n := n) (fun _ => ⟨g, 0, rfl⟩) (n + 1)
  simp only [Nat.mul_one, adr, blk, ofs, Nat.zero_add] at iw
  have j0 := fun w' => iw 0 w' (by omega) (by omega)
  simp only [show Int.toNat 0 = 0 from rfl] at j0
  have y0 := HCL.out 0 (by omega)
  obtain ⟨y, hy0⟩ : ∃ y, y = nthBA ws 0 := ⟨_, rfl⟩
  have hys := HWSZ.out 0 (by omega)
  rw [← hy0] at y0 hys
  have HY0 : Hid ((ws.map (·.data.toList)).getD 0 [] = y.data.toList) := Lib.hid (by rw [hy0]; simp [nthBA, List.getD_eq_getElem?_getD, show 0 < ws.length by omega])
  obtain ⟨x4, hx4⟩ : ∃ x : ByteArray, x = ⟨(Lib.trimPrefix y.data.toList [112, 114, 111, 103, 114, 97, 109, 32]).toArray⟩ := ⟨_, rfl⟩
  obtain ⟨bp, hbp⟩ : ∃ b, b = Lib.hasPrefix y.data.toList [112, 114, 111, 103, 114, 97, 109, 32] := ⟨_, rfl⟩
  have CP : Hid (Calls Tryd.prog 44 #[.string y, .string ⟨#[112, 114, 111, 103, 114, 97, 109, 32]⟩] w1 (RetP w1 (.tuple #[.string x4, .bool bp]))) := Lib.hid (by rw [hx4, hbp]; exact (Tryd.strings_CutPrefix y ⟨#[112, 114, 111, 103, 114, 97, 109, 32]⟩ w1).mono (fun e w' h => ⟨h.1, h.2.symm⟩))
  have hx4s : x4.size ≤ 2097152 := by
    have h3 := sizeL x4
    have h4 : x4.data.toList = Lib.trimPrefix y.data.toList [112, 114, 111, 103, 114, 97, 109, 32] := by rw [hx4]
    have h5 := sizeL y
    rw [h4] at h3
    unfold Lib.trimPrefix at h3
    split at h3
    · rw [List.length_drop] at h3; omega
    · omega
  have HRH : Hid (pvS x4.data.toList = pHead y.data.toList) := Lib.hid (by rw [hx4]; rfl)
  obtain ⟨R, hR⟩ : ∃ R, R = pvS x4.data.toList := ⟨_, rfl⟩
  have C := parse_c x4 hx4s w1 (HLIB.out.below HW1.out)
  rw [← hR] at C HRH
  replace C := Lib.hid C
  clear hn hy0 e1 hx4 hbp hR
  go_wp2_with fail
  refine CS.out.mono ?_
  rintro e wz ⟨rfl, rfl⟩
  go_wp2_with fail
  refine CI.out.mono ?_
  rintro e wz ⟨rfl, rfl⟩
  go_wp2_with fail
  refine CP.out.mono ?_
  rintro e wz ⟨rfl, rfl⟩
  go_wp2_with fail
  refine C.out.mono ?_
  rintro e w4 ⟨er, rfl, hb4⟩
  have HP0 := Lib.hid (Prg.start (R := R) hb4)
  clear hb4 C CP CS CI
  obtain ⟨N, hN⟩ : ∃ N, n = N + 1 := ⟨n - 1, by omega⟩
  have hsl := fun w' => sl_from (P := Tryd.prog) tabStr.under tabStr.size g 0 n N (n + 1) hN w'
  have hne1 : ¬ n + 1 = 1 := by omega
  simp only [if_neg hne1, show n + 1 - 1 = n by omega, Nat.zero_add] at hsl
  have iv := ix_of (P := Tryd.prog) tabStr.under tabStr.size (a := some ⟨g, 1, none⟩) (n := N) (fun _ => ⟨g, 1, rfl⟩) n
  simp only [Nat.mul_one, adr, blk, ofs] at iv
  have HNN := Lib.hid hN
  have hN6 : N ≤ 6 := by omega
  clear hN hne1 y0 iw j0
  go_wp2
  go_loopw [49] (fun i wr => ∃ (k : Nat) (os : List Ord) (v : Value) (G : List Nat), k ≤ N ∧ i = .int .i64 k ∧ Hid (os = ((ws.map (·.data.toList)).tail.take k).map pOrd) ∧ Hid (Prg w1 w4.heap.size R wr os v G)) (fun i _ => N - (intOf i).toNat)
  case atStart => exact ⟨0, [], _, _, Nat.zero_le _, rfl, Lib.hid (by simp), HP0⟩
  case round =>
    obtain ⟨wo, hwo⟩ : ∃ wo, wo = wr := ⟨_, rfl⟩
    obtain ⟨k, os, v, G, hk, rfl, HOS, HPR⟩ := hrel
    subst hwo
    have hosl : os.length ≤ 6 := by rw [HOS.out, List.length_map, List.length_take]; omega
    obtain ⟨_, av, cv, rfl⟩ := HPR.out.lst.val
    by_cases hlt : k < N
    · have hlt' : (k : Int) < N := by omega
      have jk := fun w' => iv k w' (by omega) hlt'
      simp only [Int.toNat_natCast] at jk
      have hys := HWSZ.out (1 + k) (by have := HNN.out; omega)
      have HST : Hid (os ++ [pOrd (nthBA ws (1 + k)).data.toList] = ((ws.map (·.data.toList)).tail.take (k + 1)).map pOrd) := Lib.hid (by rw [HOS.out, show 1 + k = k + 1 by omega]; have h := tail_step pOrd (ws := ws) (k := k + 1) (by omega) (by have := HN.out; have := HNN.out; omega); rw [show k + 1 - 1 = k by omega] at h; exact h)
      have hyc := (bcell1 HPR.out.bel HGL.out).trans (HCL.out (1 + k) (by have := HN.out; have := HNN.out; omega))
      obtain ⟨y, hy⟩ : ∃ y, y = nthBA ws (1 + k) := ⟨_, rfl⟩
      rw [← hy] at hys HST hyc
      obtain ⟨o, ho⟩ : ∃ o, o = pOrd y.data.toList := ⟨_, rfl⟩
      rw [← ho] at HST
      have HO0 := Lib.hid ho
      clear hy ho
      have C := Lib.hid (split_c y 32 hys wo (HLIB.out.below (bnext HW1.out HPR.out.bel (Nat.le_refl _))))
      go_wp2_with fail
      refine C.out.mono ?_
      rintro e w2 ⟨wd, hwd, hwd1, hwdl, rfl, hw2⟩
      have HZ2 : Hid (w2.heap.size = wo.heap.size + 1) := Lib.hid (by rw [hw2]; simp)
      have HNA : Hid (NAr wo (w2.alloc (.cells #[.int .i64 0, .int .i64 0, .int .i64 0] 73)) wo.heap.size w2.heap.size wd [0, 0, 0]) := Lib.hid ⟨by
          have h1 : Below wo.heap.size wo w2 := by rw [hw2]; exact below_alloc _ _
          exact h1.alloc h1.size _, ⟨Nat.le_refl _, by rw [HZ2.out]; omega⟩, by simp, fun j hj => by
          rw [bcell1 (below_alloc w2 _) (by rw [HZ2.out]; omega), hw2]; simp [go_sem, nthBA, hj], fun q hq => by
          match q, hq with
          | 0, _ => simp [go_sem, nth]
          | 1, _ => simp [go_sem, nth]
          | 2, _ => simp [go_sem, nth], fun i => by simp [go_sem]⟩
      have HWD := Lib.hid hwd
      have HDS : Hid (∀ j, j < wd.length → (nthBA wd j).size ≤ 2097152) := Lib.hid fun j hj => by
        have := word_size hwd hj; omega
      obtain ⟨m, hm⟩ : ∃ m, m = wd.length := ⟨_, rfl⟩
      rw [← hm]
      obtain ⟨M, hM⟩ : ∃ M, m = M + 1 := ⟨m - 1, by omega⟩
      have HM := Lib.hid hm
      have HMM := Lib.hid hM
      have hM2 : M ≤ 2097152 := by omega
      have hm2 : m ≤ 2097153 := by omega
      have HOR := Lib.hid (pOrd_of hwd hwd1)
      obtain ⟨Bw, hBw⟩ : ∃ b, b = wo.heap.size := ⟨_, rfl⟩
      have HBW := Lib.hid hBw
      rw [← hBw] at HNA ⊢
      have hsl2 := fun w' => sl_from (P := Tryd.prog) tabStr.under tabStr.size Bw 0 m M m hM w'
      simp only [Nat.zero_add] at hsl2
      obtain ⟨of, hof⟩ : ∃ of, of = if m = 1 then 0 else 1 := ⟨_, rfl⟩
      rw [← hof] at hsl2
      have HOF := Lib.hid hof
      have iu := ix_of (P := Tryd.prog) tabStr.under tabStr.size (a := some ⟨Bw, of, none⟩) (n := M) (fun _ => ⟨Bw, of, rfl⟩) (m - 1)
      simp only [Nat.mul_one, adr, blk, ofs] at iu
      have i0 := fun w' => ix_of (P := Tryd.prog) tabStr.under tabStr.size (a := some ⟨Bw, 0, none⟩) (n := m) (fun _ => ⟨Bw, 0, rfl⟩) m 0 w' (by omega) (by omega)
      simp only [show Int.toNat 0 = 0 from rfl, Nat.mul_one, adr, blk, ofs, Nat.zero_add] at i0
      clear hwd hwd1 hwdl hw2 hm hM hof hBw C jk
      go_wp2
      go_loopw [59] (fun i wr => ∃ (q : Nat) (A : List Int), q ≤ M ∧ i = .int .i64 q ∧ Hid (ArK wd q A) ∧ Hid (NAr wo wr Bw w2.heap.size wd A)) (fun i _ => M - (intOf i).toNat)
      case atStart => exact ⟨0, _, Nat.zero_le _, rfl, Lib.hid (ArK.zero wd), HNA⟩
      case round =>
        obtain ⟨q, A, hq, rfl, HA, HNX⟩ := hrel
        by_cases hlq : q < M
        · have hlq' : (q : Int) < M := by omega
          have ju := fun w' => iu q w' (by omega) hlq'
          simp only [Int.toNat_natCast] at ju
          have hof1 : of = 1 := by rw [HOF.out, if_neg (by have := HMM.out; omega)]
          rw [hof1] at ju
          have hyw := HNX.out.wd (1 + q) (by have := HM.out; have := HMM.out; omega)
          have hzs := HDS.out (1 + q) (by have := HM.out; have := HMM.out; omega)
          have HPU := fun (h3 : q < 3) {x : Int} (hx : x = pvS (nthBA wd (1 + q)).data.toList) => HA.out.put h3 (by have := HM.out; have := HMM.out; omega) (show x = pvS (nthBA wd (q + 1)).data.toList by rw [hx, Nat.add_comm])
          obtain ⟨z, hz⟩ : ∃ z, z = nthBA wd (1 + q) := ⟨_, rfl⟩
          rw [← hz] at hyw hzs HPU
          subst hof1
          clear hz
          by_cases h3 : q < 3
          · have h3' : (q : Int) < 3 := by omega
            obtain ⟨x, hx⟩ : ∃ x, x = pvS z.data.toList := ⟨_, rfl⟩
            have C := parse_c z hzs wr (HLIB.out.below (bnext (bnext HW1.out HPR.out.bel (Nat.le_refl _)) HNX.out.bel (Nat.le_refl _)))
            rw [← hx] at C
            have HAP := Lib.hid (HPU h3 hx)
            replace C := Lib.hid C
            clear HPU hx
            go_wp2_with fail
            refine C.out.mono ?_
            rintro e wy ⟨er2, rfl, hby⟩
            have HNY := Lib.hid (HNX.out.below hby)
            clear hby C
            have gz := HNY.out.ar q h3
            have gf := HNY.out.zf q
            have HNS := Lib.hid (HNY.out.set HA.out.1 h3 x)
            go_wp2
            go_roundw
            case rel => exact ⟨q + 1, A.set q x, by omega, by go_num, HAP, HNS⟩
            case measure => simp [intOf]; omega
          · have h3' : ¬ (q : Int) < 3 := by omega
            have HAP := Lib.hid (HA.out.skip h3)
            clear HPU
            go_wp2
            go_roundw
            case rel => exact ⟨q + 1, A, by omega, by go_num, HAP, HNX⟩
            case measure => simp [intOf]; omega
        · obtain rfl : q = M := by omega
          have hdone := HA.out.done (by have := HM.out; have := HMM.out; omega)
          have a0 := HNX.out.ar 0 (by omega)
          have a1 := HNX.out.ar 1 (by omega)
          have a2 := HNX.out.ar 2 (by omega)
          obtain ⟨n0, hn0⟩ : ∃ x, x = nth A 0 := ⟨_, rfl⟩
          obtain ⟨n1, hn1⟩ : ∃ x, x = nth A 1 := ⟨_, rfl⟩
          obtain ⟨n2', hn2'⟩ : ∃ x, x = nth A 2 := ⟨_, rfl⟩
          rw [← hn0] at a0 hdone
          rw [← hn1] at a1 hdone
          rw [← hn2'] at a2 hdone
          rw [← hdone.1, ← hdone.2.1, ← hdone.2.2] at HOR
          have hzz := HNX.out.hZ
          have A0 := fun O => (bcell1 (i := 0) (below_alloc wr O) hzz).trans a0
          have A1 := fun O => (bcell1 (i := 1) (below_alloc wr O) hzz).trans a1
          have A2 := fun O => (bcell1 (i := 2) (below_alloc wr O) hzz).trans a2
          have hzB := HNX.out.hB
          have h0 := HNX.out.wd 0 (by have := HM.out; have := HMM.out; omega)
          have H0 := fun O => (bcell1 (i := 0) (below_alloc wr O) (by omega)).trans h0
          obtain ⟨z, hz⟩ : ∃ z, z = nthBA wd 0 := ⟨_, rfl⟩
          rw [← hz] at H0 HOR
          have hzl : z.toList = z.data.toList := ByteArray.toList_eq z
          clear hn0 hn1 hn2' hdone a0 a1 a2 h0 hz hlq
          by_cases ha : z.data.toList = [97, 100, 100]
          · have e1 : (z.toList == [97, 100, 100]) = true := by rw [hzl, ha]; rfl
            have HO : Hid (o = ⟨1, n0, n1, n2'⟩) := Lib.hid (by rw [HO0.out, HOR.out, if_pos ha])
            clear hzl ha HOR
            have hb5 : Below wo.heap.size wo ((wr.alloc (.cells #[.int .i64 1, .int .i64 n0, .int .i64 n1, .int .i64 n2'] 60)).alloc (.cells #[.int .i64 1, .int .i64 n0, .int .i64 n1, .int .i64 n2'] 60)) := (HNX.out.bel.alloc HNX.out.bel.size _).alloc (by have := HNX.out.bel.size; simp; omega) _
            have hbz : wo.heap.size ≤ wr.heap.size := HNX.out.bel.size
            have HPA := Lib.hid (HPR.out.go hb5)
            have HROW : Hid (RowAt ((wr.alloc (.cells #[.int .i64 1, .int .i64 n0, .int .i64 n1, .int .i64 n2'] 60)).alloc (.cells #[.int .i64 1, .int .i64 n0, .int .i64 n1, .int .i64 n2'] 60)) (wr.heap.size + 1) 4 (w4.heap.size + 1) (Ord.mk 1 n0 n1 n2').ds [.int .i64 1, .int .i64 n0, .int .i64 n1, .int .i64 n2'] [] G) := Lib.hid (by have h := row_ordR (w5 := wr.alloc (.cells #[.int .i64 1, .int .i64 n0, .int .i64 n1, .int .i64 n2'] 60)) (B := w4.heap.size + 1) (o := Ord.mk 1 n0 n1 n2') (E := 60) (G := G); rw [show (wr.alloc (.cells #[.int .i64 1, .int .i64 n0, .int .i64 n1, .int .i64 n2'] 60)).heap.size = wr.heap.size + 1 from by simp] at h; exact h)
            have hpz : w4.heap.size < wo.heap.size := HPR.out.hz
            have hc1 : ∀ O, (wr.alloc O).cell? ⟨w4.heap.size, 1, none⟩ = some (.slice av os.length cv) := fun O => (bcell1 (HNX.out.bel.alloc HNX.out.bel.size O) hpz).trans HPR.out.c1
            clear hb5
            go_wp2_with (at_builtin; go_loud (refine app_lst rfl _ _ 34 rfl tabOrderSM rfl (by omega) (by decide) (w4.heap.size + 1) _ os.length (os.flatMap Ord.ds) (Ord.mk 1 n0 n1 n2').ds G [] _ rfl HPA.out.lst _ rfl HROW.out (by omega) (by have := HPA.out.hz; omega) ?_))
            intro v7 w7 G7 hN
            obtain ⟨_, a7, c7, rfl⟩ := hN.lst.val
            obtain ⟨d1, d2, _, hPN⟩ := HPA.out.put hN
            have HPN := Lib.hid hPN
            clear hPN hN
            go_wp2
            go_roundw
            case rel => exact ⟨k + 1, os ++ [o], _, _, by omega, by go_num, HST, by rw [HO.out]; exact HPN⟩
            case measure => simp [intOf]; omega
          have e1 : (z.toList == [97, 100, 100]) = false := by rw [hzl]; simpa using ha
          by_cases hsb : z.data.toList = [115, 117, 98]
          · have e2 : (z.toList == [115, 117, 98]) = true := by rw [hzl, hsb]; rfl
            have HO : Hid (o = ⟨2, n0, n1, n2'⟩) := Lib.hid (by rw [HO0.out, HOR.out, if_neg ha, if_pos hsb])
            clear hzl ha hsb HOR
            have hb5 : Below wo.heap.size wo ((wr.alloc (.cells #[.int .i64 2, .int .i64 n0, .int .i64 n1, .int .i64 n2'] 60)).alloc (.cells #[.int .i64 2, .int .i64 n0, .int .i64 n1, .int .i64 n2'] 60)) := (HNX.out.bel.alloc HNX.out.bel.size _).alloc (by have := HNX.out.bel.size; simp; omega) _
            have hbz : wo.heap.size ≤ wr.heap.size := HNX.out.bel.size
            have HPA := Lib.hid (HPR.out.go hb5)
            have HROW : Hid (RowAt ((wr.alloc (.cells #[.int .i64 2, .int .i64 n0, .int .i64 n1, .int .i64 n2'] 60)).alloc (.cells #[.int .i64 2, .int .i64 n0, .int .i64 n1, .int .i64 n2'] 60)) (wr.heap.size + 1) 4 (w4.heap.size + 1) (Ord.mk 2 n0 n1 n2').ds [.int .i64 2, .int .i64 n0, .int .i64 n1, .int .i64 n2'] [] G) := Lib.hid (by have h := row_ordR (w5 := wr.alloc (.cells #[.int .i64 2, .int .i64 n0, .int .i64 n1, .int .i64 n2'] 60)) (B := w4.heap.size + 1) (o := Ord.mk 2 n0 n1 n2') (E := 60) (G := G); rw [show (wr.alloc (.cells #[.int .i64 2, .int .i64 n0, .int .i64 n1, .int .i64 n2'] 60)).heap.size = wr.heap.size + 1 from by simp] at h; exact h)
            have hpz : w4.heap.size < wo.heap.size := HPR.out.hz
            have hc1 : ∀ O, (wr.alloc O).cell? ⟨w4.heap.size, 1, none⟩ = some (.slice av os.length cv) := fun O => (bcell1 (HNX.out.bel.alloc HNX.out.bel.size O) hpz).trans HPR.out.c1
            clear hb5
            go_wp2_with (at_builtin; go_loud (refine app_lst rfl _ _ 34 rfl tabOrderSM rfl (by omega) (by decide) (w4.heap.size + 1) _ os.length (os.flatMap Ord.ds) (Ord.mk 2 n0 n1 n2').ds G [] _ rfl HPA.out.lst _ rfl HROW.out (by omega) (by have := HPA.out.hz; omega) ?_))
            intro v7 w7 G7 hN
            obtain ⟨_, a7, c7, rfl⟩ := hN.lst.val
            obtain ⟨d1, d2, _, hPN⟩ := HPA.out.put hN
            have HPN := Lib.hid hPN
            clear hPN hN
            go_wp2
            go_roundw
            case rel => exact ⟨k + 1, os ++ [o], _, _, by omega, by go_num, HST, by rw [HO.out]; exact HPN⟩
            case measure => simp [intOf]; omega
          have e2 : (z.toList == [115, 117, 98]) = false := by rw [hzl]; simpa using hsb
          have HO : Hid (o = ⟨3, 0, 0, 0⟩) := Lib.hid (by rw [HO0.out, HOR.out, if_neg ha, if_neg hsb])
          clear hzl ha hsb HOR
          have hb5 : Below wo.heap.size wo ((wr.alloc (.cells #[.int .i64 3, .int .i64 0, .int .i64 0, .int .i64 0] 60)).alloc (.cells #[.int .i64 3, .int .i64 0, .int .i64 0, .int .i64 0] 60)) := (HNX.out.bel.alloc HNX.out.bel.size _).alloc (by have := HNX.out.bel.size; simp; omega) _
          have hbz : wo.heap.size ≤ wr.heap.size := HNX.out.bel.size
          have HPA := Lib.hid (HPR.out.go hb5)
          have HROW : Hid (RowAt ((wr.alloc (.cells #[.int .i64 3, .int .i64 0, .int .i64 0, .int .i64 0] 60)).alloc (.cells #[.int .i64 3, .int .i64 0, .int .i64 0, .int .i64 0] 60)) (wr.heap.size + 1) 4 (w4.heap.size + 1) (Ord.mk 3 0 0 0).ds [.int .i64 3, .int .i64 0, .int .i64 0, .int .i64 0] [] G) := Lib.hid (by have h := row_ordR (w5 := wr.alloc (.cells #[.int .i64 3, .int .i64 0, .int .i64 0, .int .i64 0] 60)) (B := w4.heap.size + 1) (o := Ord.mk 3 0 0 0) (E := 60) (G := G); rw [show (wr.alloc (.cells #[.int .i64 3, .int .i64 0, .int .i64 0, .int .i64 0] 60)).heap.size = wr.heap.size + 1 from by simp] at h; exact h)
          have hpz : w4.heap.size < wo.heap.size := HPR.out.hz
          have hc1 : ∀ O, (wr.alloc O).cell? ⟨w4.heap.size, 1, none⟩ = some (.slice av os.length cv) := fun O => (bcell1 (HNX.out.bel.alloc HNX.out.bel.size O) hpz).trans HPR.out.c1
          clear hb5
          go_wp2_with (at_builtin; go_loud (refine app_lst rfl _ _ 34 rfl tabOrderSM rfl (by omega) (by decide) (w4.heap.size + 1) _ os.length (os.flatMap Ord.ds) (Ord.mk 3 0 0 0).ds G [] _ rfl HPA.out.lst _ rfl HROW.out (by omega) (by have := HPA.out.hz; omega) ?_))
          intro v7 w7 G7 hN
          obtain ⟨_, a7, c7, rfl⟩ := hN.lst.val
          obtain ⟨d1, d2, _, hPN⟩ := HPA.out.put hN
          have HPN := Lib.hid hPN
          clear hPN hN
          go_wp2
          go_roundw
          case rel => exact ⟨k + 1, os ++ [o], _, _, by omega, by go_num, HST, by rw [HO.out]; exact HPN⟩
          case measure => simp [intOf]; omega
    · obtain rfl : k = N := by omega
      have HOS2 : Hid (os = (ws.map (·.data.toList)).tail.map pOrd) := Lib.hid (by rw [HOS.out, List.take_of_length_le (by rw [List.length_tail, HLN.out]; have := HNN.out; omega)])
      have HSP : Hid (specRd s.data.toList = if (textB R os).data.toList = s.data.toList then some (R, os) else none) := Lib.hid (by rw [HRD.out, HY0.out, ← HRH.out, ← HOS2.out])
      have p0 := HPR.out.c0
      have p1 := HPR.out.c1
      have C := implProgramText_c R os av cv wo (HPR.out.slO hosl)
      obtain ⟨t, ht⟩ : ∃ t, t = textB R os := ⟨_, rfl⟩
      rw [← ht] at C HSP
      replace C := Lib.hid C
      have htl : t.toList = t.data.toList := ByteArray.toList_eq t
      have hsl' : s.toList = s.data.toList := ByteArray.toList_eq s
      clear ht
      by_cases he : t.data.toList = s.data.toList
      · have e1 : (t.toList == s.toList) = true := by rw [htl, hsl', he]; exact beq_self_eq_true _
        have e2 : (!(t.toList == s.toList)) = false := by rw [e1]; rfl
        have HF : Hid (Q = ((R, os), 0)) := Lib.hid (by rw [HQ.out, readProg_some (by rw [HSP.out, if_pos he])])
        clear htl hsl' he
        go_wp2_with fail
        refine C.out.mono ?_
        rintro e w6 ⟨rfl, hb6⟩
        have HP6 := Lib.hid (HPR.out.go hb6)
        clear hb6 C p0 p1
        have p0 := HP6.out.c0
        have p1 := HP6.out.c1
        have rr0 := (bcell1 HP6.out.bel HRB.out).trans HR0.out
        have rr1 := (bcell1 HP6.out.bel HRB.out).trans HR1.out
        have rz0 := (HP6.out.bel.frozen (p := ⟨w.heap.size, 0, none⟩) HRB.out).trans HRZ0.out
        have rz1 := (HP6.out.bel.frozen (p := ⟨w.heap.size, 1, none⟩) HRB.out).trans HRZ1.out
        have sA := setP2 w6 w.heap.size (.int .i64 R) (.slice av os.length cv) rr0 rr1
        go_wp2
        refine bodyPost_ret (v := .tuple #[.agg #[.int .i64 R, .slice av os.length cv], .int .i64 0]) (by simp [results, Tryd.results18, go_sem, sA]) rfl ?_
        exact HP6.out.ret HW1.out (Nat.le_refl _) HRB.out hosl HF.out
      · have e1 : (t.toList == s.toList) = false := by rw [htl, hsl']; simpa using he
        have e2 : (!(t.toList == s.toList)) = true := by rw [e1]; rfl
        have HF : Hid (Q = ((0, []), 5)) := Lib.hid (by rw [HQ.out, readProg_none (by rw [HSP.out, if_neg he])])
        clear htl hsl' he
        go_wp2_with fail
        refine C.out.mono ?_
        rintro e w6 ⟨rfl, hb6⟩
        have HPF := Lib.hid (HPR.out.go hb6)
        clear hb6 C p0 p1
        have sA := setP2 w6 w.heap.size (.int .i64 0) (.slice none 0 0) ((bcell1 HPF.out.bel HRB.out).trans HR0.out) ((bcell1 HPF.out.bel HRB.out).trans HR1.out)
        have rr0 := (bcell1 HPF.out.bel HRB.out).trans HR0.out
        have rr1 := (bcell1 HPF.out.bel HRB.out).trans HR1.out
        have rz0 := (HPF.out.bel.frozen (p := ⟨w.heap.size, 0, none⟩) HRB.out).trans HRZ0.out
        have rz1 := (HPF.out.bel.frozen (p := ⟨w.heap.size, 1, none⟩) HRB.out).trans HRZ1.out
        go_wp2
        refine bodyPost_ret (v := .tuple #[.agg #[.int .i64 0, .slice none 0 0], .int .i64 5]) (by simp [results, Tryd.results18, go_sem, sA]) rfl ?_
        exact RetAQ.none (bnext HW1.out HPF.out.bel (Nat.le_refl _)) (Nat.le_refl _) HF.out
end Go.Proofs.YtbnikblhnibgiaaDoor
