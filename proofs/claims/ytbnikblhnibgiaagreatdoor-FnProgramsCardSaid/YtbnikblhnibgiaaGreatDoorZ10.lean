/- Programs that are read: the program's function. Written by mkgd.py. -/
import Derived.Test.YtbnikblhnibgiaaGreatDoorZ9
import Derived.Test.YtbnikblhnibgiaaGreatDoorZ5
import Derived.Test.YtbnikblhnibgiaaGreatDoorZ2
import Derived.Sort.OwnSortedInts
import Derived.Shelf.SlGeneric
import Derived.Ground.SlgmProg
import Derived.Ground.SlgnProg
import Derived.Shelf.SortM.Plain
import Derived.Shelf.SortM.SortNone
import Derived.Shelf.SlicesG.CompactI
import Derived.Test.YtbnikblhnibgiaaGreatDoorProg
import Derived.Test.YtbnikblhnibgiaaGreatDoorZ1
import Derived.Test.YtbnikblhnibgiaaGreatDoorTie
import Derived.Test.YtbnikblhnibgiaaGreatDoorCards
import Derived.LaidMore
import Derived.Stop.Joined
import Derived.Lib.LaidTab
import Derived.Stop.LaidErr
namespace Go.Proofs.YtbnikblhnibgiaaGreatDoor
open Go.RowKit
/-- The lines that end with a newline are returned, in memory of their own, and whether the last one is whole. -/
def LinQ (w : World) (s : ByteArray) (e : Ending) (w' : World) : Prop := ∃ (ws : List ByteArray) (g : Nat) (ok : Bool), ws.map (·.data.toList) = (linesOfS s.data.toList).1 ∧ (linesOfS s.data.toList).2 = ok ∧ e = .returned (.tuple #[.slice (some ⟨g, 0, none⟩) ws.length (ws.length + 1), .bool ok]) ∧
  ws.length ≤ 2097152 ∧ g < w'.heap.size ∧ w.heap.size ≤ g ∧ (∀ j, j < ws.length → w'.cell? ⟨g, j, none⟩ = some (.string (nthBA ws j))) ∧ Below w.heap.size w w'
theorem LinQ.of {w w' : World} {s : ByteArray} {e : Ending} (h : LinP w s e w') : LinQ w s e w' := by
  obtain ⟨ws, g, ok, h1, h2, h3, h4, h5, h6, h7, h8, h9⟩ := h
  have hl : ws.dropLast.length = ws.length - 1 := List.length_dropLast
  refine ⟨ws.dropLast, g, ok, by rw [List.map_dropLast, h1]; rfl, h2, by rw [h3, hl, show ws.length - 1 + 1 = ws.length by omega], by omega, h6, h7, fun j hj => ?_, h9⟩
  rw [hl] at hj
  rw [h8 j (by omega)]
  congr 2
  unfold nthBA
  rw [List.getD_eq_getElem?_getD, List.getD_eq_getElem?_getD, List.getElem?_dropLast, if_pos hj]
/-- The numbers of a line that are being read: its words in block B, the numbers in block Z. -/
structure NAr (wr wx : World) (B Z : Nat) (ws : List ByteArray) (A : List Int) : Prop where
  bel : Below wr.heap.size wr wx
  hB : wr.heap.size ≤ B ∧ B < Z
  hZ : Z < wx.heap.size
  wd : ∀ j, j < ws.length → wx.cell? ⟨B, j, none⟩ = some (.string (nthBA ws j))
  ar : ∀ q, q < 3 → wx.cell? ⟨Z, q, none⟩ = some (.int .i64 (nth A q))
  zf : ∀ i, wx.frozen? ⟨Z, i, none⟩ = false
theorem NAr.below {wr wx wy : World} {B Z : Nat} {ws : List ByteArray} {A : List Int} (h : NAr wr wx B Z ws A) (hb : Below wx.heap.size wx wy) : NAr wr wy B Z ws A := by
  have hB := h.hB
  have hZ := h.hZ
  exact ⟨bnext h.bel hb (Nat.le_refl _), hB, Nat.lt_of_lt_of_le hZ hb.size, fun j hj => (bcell1 hb (by omega)).trans (h.wd j hj), fun q hq => (bcell1 hb hZ).trans (h.ar q hq), fun i => (hb.frozen (p := ⟨Z, i, none⟩) hZ).trans (h.zf i)⟩
theorem NAr.set {wr wx : World} {B Z : Nat} {ws : List ByteArray} {A : List Int} (h : NAr wr wx B Z ws A) (hA : A.length = 3) {q : Nat} (hq : q < 3) (y : Int) : NAr wr (wx.setCell ⟨Z, q, none⟩ (.int .i64 y)) B Z ws (A.set q y) := by
  have hB := h.hB
  have hZ := h.hZ
  have hs : (wx.setCell ⟨Z, q, none⟩ (.int .i64 y)).heap.size = wx.heap.size := (Exc.setCell _ _ _).size
  refine ⟨h.bel.setCell (by simp; omega) _, hB, by rw [hs]; exact hZ, fun j hj => (oth_cell (.inl (by omega))).trans (h.wd j hj), fun p hp => ?_, fun i => by rw [World.frozen?_setCell]; exact h.zf i⟩
  by_cases e : q = p
  · subst e
    rw [nthS_eq (by omega)]
    exact World.cell?_setCell_same _ _ _ (h.ar q hq)
  · rw [nthS_ne e, oth_cell (.inr (Ne.symm e))]
    exact h.ar p hp
/-- The number behind the first word. -/
def numA (ws : List ByteArray) (q : Nat) : Int := if q + 1 < ws.length then pvS (nthBA ws (q + 1)).data.toList else 0
/-- The first k numbers have been read. -/
def ArK (ws : List ByteArray) (k : Nat) (A : List Int) : Prop := A.length = 3 ∧ ∀ q, q < 3 → nth A q = if q < k then numA ws q else 0
theorem ArK.zero (ws : List ByteArray) : ArK ws 0 [0, 0, 0] := ⟨rfl, fun q hq => by
  match q, hq with
  | 0, _ => rfl
  | 1, _ => rfl
  | 2, _ => rfl⟩
theorem ArK.put {ws : List ByteArray} {k : Nat} {A : List Int} (h : ArK ws k A) (hk : k < 3) (hn : k + 1 < ws.length) {x : Int} (hx : x = pvS (nthBA ws (k + 1)).data.toList) : ArK ws (k + 1) (A.set k x) := by
  refine ⟨by rw [List.length_set]; exact h.1, fun q hq => ?_⟩
  by_cases e : k = q
  · subst e
    rw [nthS_eq (by rw [h.1]; omega), if_pos (by omega), hx, numA, if_pos hn]
  · rw [nthS_ne e, h.2 q hq]
    by_cases e2 : q < k
    · rw [if_pos e2, if_pos (by omega)]
    · rw [if_neg e2, if_neg (by omega)]
theorem ArK.skip {ws : List ByteArray} {k : Nat} {A : List Int} (h : ArK ws k A) (hk : ¬ k < 3) : ArK ws (k + 1) A :=
  ⟨h.1, fun q hq => by rw [h.2 q hq, if_pos (by omega), if_pos (by omega)]⟩
theorem ArK.done {ws : List ByteArray} {k : Nat} {A : List Int} (h : ArK ws k A) (hk : ws.length = k + 1) : nth A 0 = numA ws 0 ∧ nth A 1 = numA ws 1 ∧ nth A 2 = numA ws 2 := by
  have key : ∀ q, q < 3 → nth A q = numA ws q := fun q hq => by
    rw [h.2 q hq]
    by_cases e : q < k
    · rw [if_pos e]
    · rw [if_neg e, numA, if_neg (by omega)]
  exact ⟨key 0 (by omega), key 1 (by omega), key 2 (by omega)⟩
theorem pOrd_of {line : Bs} {ws : List ByteArray} (h : ws.map (·.data.toList) = cutL 32 line) (h1 : 1 ≤ ws.length) :
    pOrd line = if (nthBA ws 0).data.toList = [97, 100, 100] then ⟨1, numA ws 0, numA ws 1, numA ws 2⟩ else if (nthBA ws 0).data.toList = [115, 117, 98] then ⟨2, numA ws 0, numA ws 1, numA ws 2⟩ else ⟨3, 0, 0, 0⟩ := by
  have e0 : (cutL 32 line)[0]? = some (nthBA ws 0).data.toList := by
    rw [← h, List.getElem?_map, List.getElem?_eq_getElem h1]
    simp [nthBA, show 0 < ws.length by omega]
  have en : ∀ q, (cutL 32 line)[q + 1]? = if q + 1 < ws.length then some (nthBA ws (q + 1)).data.toList else none := fun q => by
    rw [← h, List.getElem?_map]
    by_cases hq : q + 1 < ws.length
    · rw [List.getElem?_eq_getElem hq, if_pos hq]
      simp [nthBA, hq]
    · rw [List.getElem?_eq_none (by omega), if_neg hq]
      rfl
  unfold pOrd
  simp only
  rw [e0, en 0, en 1, en 2]
  simp only [Option.some.injEq]
  unfold numA
  by_cases q0 : 0 + 1 < ws.length <;> by_cases q1 : 1 + 1 < ws.length <;> by_cases q2 : 2 + 1 < ws.length <;> simp only [q0, q1, q2, if_true, if_false]
theorem progRd_a {s : Bs} {ls : List Bs} {ok : Bool} (h1 : (linesOfS s).1 = ls) (h2 : (linesOfS s).2 = ok) (h : ¬ (ok = true ∧ 1 ≤ ls.length ∧ ls.length ≤ 7)) : specRd s = none := by
  have e : linesOfS s = (ls, ok) := by rw [← h1, ← h2]
  rw [← rd_same]
  unfold progRd
  rw [e]
  simp only
  rw [if_neg h]
theorem progRd_b {s : Bs} {ls : List Bs} {ok : Bool} (h1 : (linesOfS s).1 = ls) (h2 : (linesOfS s).2 = ok) (h : ok = true ∧ 1 ≤ ls.length ∧ ls.length ≤ 7) :
    specRd s = if (textB (pHead (ls.getD 0 [])) (ls.tail.map pOrd)).data.toList = s then some (pHead (ls.getD 0 []), ls.tail.map pOrd) else none := by
  have e : linesOfS s = (ls, ok) := by rw [← h1, ← h2]
  rw [← rd_same]
  unfold progRd
  rw [e]
  simp only
  rw [if_pos h]
theorem cntL_ds : ∀ os : List Ord, cntL (os.flatMap Ord.ds) = os.length * 4
  | [] => rfl
  | o :: os => by rw [List.flatMap_cons, cntL_app, cntL_ds os, List.length_cons]; simp [Ord.ds, cntL, cnt]; omega
theorem readProg_cnt (s : Bs) : cnt (dO (readProgS s).1.2) ≤ 100 := by
  unfold readProgS
  cases h : specRd s with
  | none => simp [dO, cnt, cntL]
  | some p =>
    obtain ⟨hv, _⟩ := spec_some h
    obtain ⟨_, _, h6, _⟩ := valid_ok hv
    simp only [dO, cnt]
    rw [cntL_ds]; omega
theorem size_str_c (a : Option Addr) (n c : Nat) (w : World) (_hn : n ≤ maxLen) : Calls Tryz.prog 22 #[.slice a n c] w (RetP w (.int .i64 n)) := by
  unfold maxLen at _hn
  go_enter Tryz.func22, Tryz.ntmps22
  go_wp2
  go_ret
  exact ⟨rfl, rfl⟩
set_option maxHeartbeats 8000000 in
set_option maxRecDepth 100000 in
theorem implReadProgram_d (s : ByteArray) (w : World) (hs : s.size ≤ 2097152) (hlib : LibOk w) :
    Calls Tryz.prog 6 #[.string s] w (RetAQ w [.i (readProgS s.data.toList).1.1, dO (readProgS s.data.toList).1.2] (readProgS s.data.toList).2) := by
  obtain ⟨Q, hQ⟩ : ∃ Q, Q = readProgS s.data.toList := ⟨_, rfl⟩
  rw [← hQ]
  have HQ := Lib.hid hQ
  clear hQ
  have C := Lib.hid ((linesOf_c s hs (w.alloc (.cells #[.int .i64 0, .slice none 0 0] 26)) (hlib.below (below_alloc _ _))).mono (fun e w' h => LinQ.of h))
  have HLIB := Lib.hid hlib
  clear hlib
  go_enter Tryz.func6, Tryz.ntmps6
  go_wp2_with fail
  refine C.out.mono ?_
  rintro e w1 ⟨ws, g, ok, hws, hok, rfl, hwl, hgl, hgB, hcell, hb1⟩
  have HW1 : Hid (Below w.heap.size w w1) := Lib.hid ((below_alloc w _).trans (hb1.mono (by simp)))
  have HRB : Hid (w.heap.size < w1.heap.size) := Lib.hid (by have := hb1.size; simp at this; omega)
  have HR0 : Hid (w1.cell? ⟨w.heap.size, 0, none⟩ = some (.int .i64 0)) := Lib.hid ((bcell1 hb1 (by simp)).trans (by simp [go_sem]))
  have HR1 : Hid (w1.cell? ⟨w.heap.size, 1, none⟩ = some (.slice none 0 0)) := Lib.hid ((bcell1 hb1 (by simp)).trans (by simp [go_sem]))
  have HRZ0 : Hid (w1.frozen? ⟨w.heap.size, 0, none⟩ = false) := Lib.hid ((hb1.frozen (p := ⟨w.heap.size, 0, none⟩) (by simp)).trans (by simp [go_sem]))
  have HRZ1 : Hid (w1.frozen? ⟨w.heap.size, 1, none⟩ = false) := Lib.hid ((hb1.frozen (p := ⟨w.heap.size, 1, none⟩) (by simp)).trans (by simp [go_sem]))
  have HB1 : Hid (Below w1.heap.size w1 w1) := Lib.hid (Below.refl _ _)
  have HOK := Lib.hid hok
  have HWS := Lib.hid hws
  obtain ⟨n, hn⟩ : ∃ n, n = ws.length := ⟨_, rfl⟩
  have hn2 : n ≤ 2097152 := by omega
  have HN := Lib.hid hn
  have HLN : Hid ((ws.map (·.data.toList)).length = n) := Lib.hid (by simpa using hn.symm)
  have HGL := Lib.hid hgl
  have HCL := Lib.hid hcell
  have HWSZ : Hid (∀ j, j < n → (nthBA ws j).size ≤ 2097152) := Lib.hid fun j hj => by
    have h2 := words_mem (ws := ws) rfl (k := j) (by omega)
    rw [hws] at h2
    have h3 := cutL_size 10 s.data.toList _ (List.dropLast_subset _ h2)
    rw [← sizeL, ← sizeL] at h3
    omega
  have CS := size_str_c (some ⟨g, 0, none⟩) n (n + 1) w1 (by unfold maxLen; omega)
  have CI := inRange_c (n : Int) 1 7 w1
  rw [← hn]
  clear hb1 C hok hws hwl hgl hgB hcell
  by_cases hc : ok = true ∧ 1 ≤ n ∧ n ≤ 7
  rotate_left
  · have HF : Hid (Q = ((0, []), 5)) := Lib.hid (by rw [HQ.out, readProg_none (progRd_a HWS.out.symm HOK.out (by rw [HLN.out]; exact hc))])
    clear hn
    cases ok
    · clear hc CS CI
      have sA := setP2 w1 w.heap.size (.int .i64 0) (.slice none 0 0) ((bcell1 HB1.out HRB.out).trans HR0.out) ((bcell1 HB1.out HRB.out).trans HR1.out)
      have rr0 := (bcell1 HB1.out HRB.out).trans HR0.out
      have rr1 := (bcell1 HB1.out HRB.out).trans HR1.out
      have rz0 := (HB1.out.frozen (p := ⟨w.heap.size, 0, none⟩) HRB.out).trans HRZ0.out
      have rz1 := (HB1.out.frozen (p := ⟨w.heap.size, 1, none⟩) HRB.out).trans HRZ1.out
      go_wp2
      refine bodyPost_ret (v := .tuple #[.agg #[.int .i64 0, .slice none 0 0], .int .i64 5]) (by simp [results, Tryz.results6, go_sem, sA]) rfl ?_
      exact RetAQ.none (bnext HW1.out HB1.out (Nat.le_refl _)) (Nat.le_refl _) HF.out
    · have h1 : inRg (n : Int) 1 7 = false := by
        have : ¬ (1 ≤ n ∧ n ≤ 7) := fun h => hc ⟨rfl, h⟩
        simp [inRg]; omega
      rw [h1] at CI
      replace CS := Lib.hid CS
      replace CI := Lib.hid CI
      clear hc h1
      go_wp2_with fail
      refine CS.out.mono ?_
      rintro e wz ⟨rfl, rfl⟩
      go_wp2_with fail
      refine CI.out.mono ?_
      rintro e wz ⟨rfl, rfl⟩
      have sA := setP2 w1 w.heap.size (.int .i64 0) (.slice none 0 0) ((bcell1 HB1.out HRB.out).trans HR0.out) ((bcell1 HB1.out HRB.out).trans HR1.out)
      have rr0 := (bcell1 HB1.out HRB.out).trans HR0.out
      have rr1 := (bcell1 HB1.out HRB.out).trans HR1.out
      have rz0 := (HB1.out.frozen (p := ⟨w.heap.size, 0, none⟩) HRB.out).trans HRZ0.out
      have rz1 := (HB1.out.frozen (p := ⟨w.heap.size, 1, none⟩) HRB.out).trans HRZ1.out
      go_wp2
      refine bodyPost_ret (v := .tuple #[.agg #[.int .i64 0, .slice none 0 0], .int .i64 5]) (by simp [results, Tryz.results6, go_sem, sA]) rfl ?_
      exact RetAQ.none (bnext HW1.out HB1.out (Nat.le_refl _)) (Nat.le_refl _) HF.out
  obtain ⟨rfl, h1, h7⟩ := hc
  have e1 : inRg (n : Int) 1 7 = true := by simp [inRg]; omega
  rw [e1] at CI
  replace CS := Lib.hid CS
  replace CI := Lib.hid CI
  have HRD := Lib.hid (progRd_b HWS.out.symm HOK.out ⟨rfl, by rw [HLN.out]; exact h1, by rw [HLN.out]; exact h7⟩)
  have iw := ix_of (P := Tryz.prog) tabStr.under tabStr.size (a := some ⟨g, 0, none⟩) (n := n) (fun _ => ⟨g, 0, rfl⟩) (n + 1)
  simp only [Nat.mul_one, adr, blk, ofs, Nat.zero_add] at iw
  have j0 := fun w' => iw 0 w' (by omega) (by omega)
  simp only [show Int.toNat 0 = 0 from rfl] at j0
  have y0 := HCL.out 0 (by omega)
  obtain ⟨y, hy0⟩ : ∃ y, y = nthBA ws 0 := ⟨_, rfl⟩
  have hys := HWSZ.out 0 (by omega)
  rw [← hy0] at y0 hys
  have HY0 : Hid ((ws.map (·.data.toList)).getD 0 [] = y.data.toList) := Lib.hid (by rw [hy0]; simp [nthBA, List.getD_eq_getElem?_getD, show 0 < ws.length by omega])
  obtain ⟨x4, hx4⟩ : ∃ x : ByteArray, x = ⟨(Lib.trimPrefix y.data.toList [112, 114, 111, 103, 114, 97, 109, 32]).toArray⟩ := ⟨_, rfl⟩
  obtain ⟨bp, hbp⟩ : ∃ b, b = Lib.hasPrefix y.data.toList [112, 114, 111, 103, 114, 97, 109, 32] := ⟨_, rfl⟩
  have CP : Hid (Calls Tryz.prog 23 #[.string y, .string ⟨#[112, 114, 111, 103, 114, 97, 109, 32]⟩] w1 (RetP w1 (.tuple #[.string x4, .bool bp]))) := Lib.hid (by rw [hx4, hbp]; exact (Tryz.strings_CutPrefix y ⟨#[112, 114, 111, 103, 114, 97, 109, 32]⟩ w1).mono (fun e w' h => ⟨h.1, h.2.symm⟩))
  have hx4s : x4.size ≤ 2097152 := by
    have h3 := sizeL x4
    have h4 : x4.data.toList = Lib.trimPrefix y.data.toList [112, 114, 111, 103, 114, 97, 109, 32] := by rw [hx4]
    have h5 := sizeL y
    rw [h4] at h3
    unfold Lib.trimPrefix at h3
    split at h3
    · rw [List.length_drop] at h3; omega
    · omega
  have HRH : Hid (pvS x4.data.toList = pHead y.data.toList) := Lib.hid (by rw [hx4]; rfl)
  obtain ⟨R, hR⟩ : ∃ R, R = pvS x4.data.toList := ⟨_, rfl⟩
  have C := parse_c x4 hx4s w1 (HLIB.out.below HW1.out)
  rw [← hR] at C HRH
  replace C := Lib.hid C
  clear hn hy0 e1 hx4 hbp hR
  go_wp2_with fail
  refine CS.out.mono ?_
  rintro e wz ⟨rfl, rfl⟩
  go_wp2_with fail
  refine CI.out.mono ?_
  rintro e wz ⟨rfl, rfl⟩
  go_wp2_with fail
  refine CP.out.mono ?_
  rintro e wz ⟨rfl, rfl⟩
  go_wp2_with fail
  refine C.out.mono ?_
  rintro e w4 ⟨er, rfl, hb4⟩
  have HP0 := Lib.hid (Prg.start (R := R) hb4)
  clear hb4 C CP CS CI
  obtain ⟨N, hN⟩ : ∃ N, n = N + 1 := ⟨n - 1, by omega⟩
  have hsl := fun w' => sl_from (P := Tryz.prog) tabStr.under tabStr.size g 0 n N (n + 1) hN w'
  have hne1 : ¬ n + 1 = 1 := by omega
  simp only [if_neg hne1, show n + 1 - 1 = n by omega, Nat.zero_add] at hsl
  have iv := ix_of (P := Tryz.prog) tabStr.under tabStr.size (a := some ⟨g, 1, none⟩) (n := N) (fun _ => ⟨g, 1, rfl⟩) n
  simp only [Nat.mul_one, adr, blk, ofs] at iv
  have HNN := Lib.hid hN
  have hN6 : N ≤ 6 := by omega
  clear hN hne1 y0 iw j0
  go_wp2
  go_loopw [49] (fun i wr => ∃ (k : Nat) (os : List Ord) (v : Value) (G : List Nat), k ≤ N ∧ i = .int .i64 k ∧ Hid (os = ((ws.map (·.data.toList)).tail.take k).map pOrd) ∧ Hid (Prg w1 w4.heap.size R wr os v G)) (fun i _ => N - (intOf i).toNat)
  case atStart => exact ⟨0, [], _, _, Nat.zero_le _, rfl, Lib.hid (by simp), HP0⟩
  case round =>
    obtain ⟨wo, hwo⟩ : ∃ wo, wo = wr := ⟨_, rfl⟩
    obtain ⟨k, os, v, G, hk, rfl, HOS, HPR⟩ := hrel
    subst hwo
    have hosl : os.length ≤ 6 := by rw [HOS.out, List.length_map, List.length_take]; omega
    obtain ⟨_, av, cv, rfl⟩ := HPR.out.lst.val
    by_cases hlt : k < N
    · have hlt' : (k : Int) < N := by omega
      have jk := fun w' => iv k w' (by omega) hlt'
      simp only [Int.toNat_natCast] at jk
      have hys := HWSZ.out (1 + k) (by have := HNN.out; omega)
      have HST : Hid (os ++ [pOrd (nthBA ws (1 + k)).data.toList] = ((ws.map (·.data.toList)).tail.take (k + 1)).map pOrd) := Lib.hid (by rw [HOS.out, show 1 + k = k + 1 by omega]; have h := tail_step pOrd (ws := ws) (k := k + 1) (by omega) (by have := HN.out; have := HNN.out; omega); rw [show k + 1 - 1 = k by omega] at h; exact h)
      have hyc := (bcell1 HPR.out.bel HGL.out).trans (HCL.out (1 + k) (by have := HN.out; have := HNN.out; omega))
      obtain ⟨y, hy⟩ : ∃ y, y = nthBA ws (1 + k) := ⟨_, rfl⟩
      rw [← hy] at hys HST hyc
      obtain ⟨o, ho⟩ : ∃ o, o = pOrd y.data.toList := ⟨_, rfl⟩
      rw [← ho] at HST
      have HO0 := Lib.hid ho
      clear hy ho
      have C := Lib.hid (split_c y 32 hys wo (HLIB.out.below (bnext HW1.out HPR.out.bel (Nat.le_refl _))))
      go_wp2_with fail
      refine C.out.mono ?_
      rintro e w2 ⟨wd, hwd, hwd1, hwdl, rfl, hw2⟩
      have HZ2 : Hid (w2.heap.size = wo.heap.size + 1) := Lib.hid (by rw [hw2]; simp)
      have HNA : Hid (NAr wo (w2.alloc (.cells #[.int .i64 0, .int .i64 0, .int .i64 0] 64)) wo.heap.size w2.heap.size wd [0, 0, 0]) := Lib.hid ⟨by
          have h1 : Below wo.heap.size wo w2 := by rw [hw2]; exact below_alloc _ _
          exact h1.alloc h1.size _, ⟨Nat.le_refl _, by rw [HZ2.out]; omega⟩, by simp, fun j hj => by
          rw [bcell1 (below_alloc w2 _) (by rw [HZ2.out]; omega), hw2]; simp [go_sem, nthBA, hj], fun q hq => by
          match q, hq with
          | 0, _ => simp [go_sem, nth]
          | 1, _ => simp [go_sem, nth]
          | 2, _ => simp [go_sem, nth], fun i => by simp [go_sem]⟩
      have HWD := Lib.hid hwd
      have HDS : Hid (∀ j, j < wd.length → (nthBA wd j).size ≤ 2097152) := Lib.hid fun j hj => by
        have := word_size hwd hj; omega
      obtain ⟨m, hm⟩ : ∃ m, m = wd.length := ⟨_, rfl⟩
      rw [← hm]
      obtain ⟨M, hM⟩ : ∃ M, m = M + 1 := ⟨m - 1, by omega⟩
      have HM := Lib.hid hm
      have HMM := Lib.hid hM
      have hM2 : M ≤ 2097152 := by omega
      have hm2 : m ≤ 2097153 := by omega
      have HOR := Lib.hid (pOrd_of hwd hwd1)
      obtain ⟨Bw, hBw⟩ : ∃ b, b = wo.heap.size := ⟨_, rfl⟩
      have HBW := Lib.hid hBw
      rw [← hBw] at HNA ⊢
      have hsl2 := fun w' => sl_from (P := Tryz.prog) tabStr.under tabStr.size Bw 0 m M m hM w'
      simp only [Nat.zero_add] at hsl2
      obtain ⟨of, hof⟩ : ∃ of, of = if m = 1 then 0 else 1 := ⟨_, rfl⟩
      rw [← hof] at hsl2
      have HOF := Lib.hid hof
      have iu := ix_of (P := Tryz.prog) tabStr.under tabStr.size (a := some ⟨Bw, of, none⟩) (n := M) (fun _ => ⟨Bw, of, rfl⟩) (m - 1)
      simp only [Nat.mul_one, adr, blk, ofs] at iu
      have i0 := fun w' => ix_of (P := Tryz.prog) tabStr.under tabStr.size (a := some ⟨Bw, 0, none⟩) (n := m) (fun _ => ⟨Bw, 0, rfl⟩) m 0 w' (by omega) (by omega)
      simp only [show Int.toNat 0 = 0 from rfl, Nat.mul_one, adr, blk, ofs, Nat.zero_add] at i0
      clear hwd hwd1 hwdl hw2 hm hM hof hBw C jk
      go_wp2
      go_loopw [59] (fun i wr => ∃ (q : Nat) (A : List Int), q ≤ M ∧ i = .int .i64 q ∧ Hid (ArK wd q A) ∧ Hid (NAr wo wr Bw w2.heap.size wd A)) (fun i _ => M - (intOf i).toNat)
      case atStart => exact ⟨0, _, Nat.zero_le _, rfl, Lib.hid (ArK.zero wd), HNA⟩
      case round =>
        obtain ⟨q, A, hq, rfl, HA, HNX⟩ := hrel
        by_cases hlq : q < M
        · have hlq' : (q : Int) < M := by omega
          have ju := fun w' => iu q w' (by omega) hlq'
          simp only [Int.toNat_natCast] at ju
          have hof1 : of = 1 := by rw [HOF.out, if_neg (by have := HMM.out; omega)]
          rw [hof1] at ju
          have hyw := HNX.out.wd (1 + q) (by have := HM.out; have := HMM.out; omega)
          have hzs := HDS.out (1 + q) (by have := HM.out; have := HMM.out; omega)
          have HPU := fun (h3 : q < 3) {x : Int} (hx : x = pvS (nthBA wd (1 + q)).data.toList) => HA.out.put h3 (by have := HM.out; have := HMM.out; omega) (show x = pvS (nthBA wd (q + 1)).data.toList by rw [hx, Nat.add_comm])
          obtain ⟨z, hz⟩ : ∃ z, z = nthBA wd (1 + q) := ⟨_, rfl⟩
          rw [← hz] at hyw hzs HPU
          subst hof1
          clear hz
          by_cases h3 : q < 3
          · have h3' : (q : Int) < 3 := by omega
            obtain ⟨x, hx⟩ : ∃ x, x = pvS z.data.toList := ⟨_, rfl⟩
            have C := parse_c z hzs wr (HLIB.out.below (bnext (bnext HW1.out HPR.out.bel (Nat.le_refl _)) HNX.out.bel (Nat.le_refl _)))
            rw [← hx] at C
            have HAP := Lib.hid (HPU h3 hx)
            replace C := Lib.hid C
            clear HPU hx
            go_wp2_with fail
            refine C.out.mono ?_
            rintro e wy ⟨er2, rfl, hby⟩
            have HNY := Lib.hid (HNX.out.below hby)
            clear hby C
            have gz := HNY.out.ar q h3
            have gf := HNY.out.zf q
            have HNS := Lib.hid (HNY.out.set HA.out.1 h3 x)
            go_wp2
            go_roundw
            case rel => exact ⟨q + 1, A.set q x, by omega, by go_num, HAP, HNS⟩
            case measure => simp [intOf]; omega
          · have h3' : ¬ (q : Int) < 3 := by omega
            have HAP := Lib.hid (HA.out.skip h3)
            clear HPU
            go_wp2
            go_roundw
            case rel => exact ⟨q + 1, A, by omega, by go_num, HAP, HNX⟩
            case measure => simp [intOf]; omega
        · obtain rfl : q = M := by omega
          have hdone := HA.out.done (by have := HM.out; have := HMM.out; omega)
          have a0 := HNX.out.ar 0 (by omega)
          have a1 := HNX.out.ar 1 (by omega)
          have a2 := HNX.out.ar 2 (by omega)
          obtain ⟨n0, hn0⟩ : ∃ x, x = nth A 0 := ⟨_, rfl⟩
          obtain ⟨n1, hn1⟩ : ∃ x, x = nth A 1 := ⟨_, rfl⟩
          obtain ⟨n2', hn2'⟩ : ∃ x, x = nth A 2 := ⟨_, rfl⟩
          rw [← hn0] at a0 hdone
          rw [← hn1] at a1 hdone
          rw [← hn2'] at a2 hdone
          rw [← hdone.1, ← hdone.2.1, ← hdone.2.2] at HOR
          have hzz := HNX.out.hZ
          have A0 := fun O => (bcell1 (i := 0) (below_alloc wr O) hzz).trans a0
          have A1 := fun O => (bcell1 (i := 1) (below_alloc wr O) hzz).trans a1
          have A2 := fun O => (bcell1 (i := 2) (below_alloc wr O) hzz).trans a2
          have hzB := HNX.out.hB
          have h0 := HNX.out.wd 0 (by have := HM.out; have := HMM.out; omega)
          have H0 := fun O => (bcell1 (i := 0) (below_alloc wr O) (by omega)).trans h0
          obtain ⟨z, hz⟩ : ∃ z, z = nthBA wd 0 := ⟨_, rfl⟩
          rw [← hz] at H0 HOR
          have hzl : z.toList = z.data.toList := ByteArray.toList_eq z
          clear hn0 hn1 hn2' hdone a0 a1 a2 h0 hz hlq
          by_cases ha : z.data.toList = [97, 100, 100]
          · have e1 : (z.toList == [97, 100, 100]) = true := by rw [hzl, ha]; rfl
            have HO : Hid (o = ⟨1, n0, n1, n2'⟩) := Lib.hid (by rw [HO0.out, HOR.out, if_pos ha])
            clear hzl ha HOR
            have hb5 : Below wo.heap.size wo ((wr.alloc (.cells #[.int .i64 1, .int .i64 n0, .int .i64 n1, .int .i64 n2'] 66)).alloc (.cells #[.int .i64 1, .int .i64 n0, .int .i64 n1, .int .i64 n2'] 66)) := (HNX.out.bel.alloc HNX.out.bel.size _).alloc (by have := HNX.out.bel.size; simp; omega) _
            have hbz : wo.heap.size ≤ wr.heap.size := HNX.out.bel.size
            have HPA := Lib.hid (HPR.out.go hb5)
            have HROW : Hid (RowAt ((wr.alloc (.cells #[.int .i64 1, .int .i64 n0, .int .i64 n1, .int .i64 n2'] 66)).alloc (.cells #[.int .i64 1, .int .i64 n0, .int .i64 n1, .int .i64 n2'] 66)) (wr.heap.size + 1) 4 (w4.heap.size + 1) (Ord.mk 1 n0 n1 n2').ds [.int .i64 1, .int .i64 n0, .int .i64 n1, .int .i64 n2'] [] G) := Lib.hid (by have h := row_ordR (w5 := wr.alloc (.cells #[.int .i64 1, .int .i64 n0, .int .i64 n1, .int .i64 n2'] 66)) (B := w4.heap.size + 1) (o := Ord.mk 1 n0 n1 n2') (E := 66) (G := G); rw [show (wr.alloc (.cells #[.int .i64 1, .int .i64 n0, .int .i64 n1, .int .i64 n2'] 66)).heap.size = wr.heap.size + 1 from by simp] at h; exact h)
            have hpz : w4.heap.size < wo.heap.size := HPR.out.hz
            have hc1 : ∀ O, (wr.alloc O).cell? ⟨w4.heap.size, 1, none⟩ = some (.slice av os.length cv) := fun O => (bcell1 (HNX.out.bel.alloc HNX.out.bel.size O) hpz).trans HPR.out.c1
            clear hb5
            go_wp2_with (at_builtin; go_loud (refine app_lst rfl _ _ 24 rfl tabOrderSM rfl (by omega) (by decide) (w4.heap.size + 1) _ os.length (os.flatMap Ord.ds) (Ord.mk 1 n0 n1 n2').ds G [] _ rfl HPA.out.lst _ rfl HROW.out (by omega) (by have := HPA.out.hz; omega) ?_))
            intro v7 w7 G7 hN
            obtain ⟨_, a7, c7, rfl⟩ := hN.lst.val
            obtain ⟨d1, d2, _, hPN⟩ := HPA.out.put hN
            have HPN := Lib.hid hPN
            clear hPN hN
            go_wp2
            go_roundw
            case rel => exact ⟨k + 1, os ++ [o], _, _, by omega, by go_num, HST, by rw [HO.out]; exact HPN⟩
            case measure => simp [intOf]; omega
          have e1 : (z.toList == [97, 100, 100]) = false := by rw [hzl]; simpa using ha
          by_cases hsb : z.data.toList = [115, 117, 98]
          · have e2 : (z.toList == [115, 117, 98]) = true := by rw [hzl, hsb]; rfl
            have HO : Hid (o = ⟨2, n0, n1, n2'⟩) := Lib.hid (by rw [HO0.out, HOR.out, if_neg ha, if_pos hsb])
            clear hzl ha hsb HOR
            have hb5 : Below wo.heap.size wo ((wr.alloc (.cells #[.int .i64 2, .int .i64 n0, .int .i64 n1, .int .i64 n2'] 66)).alloc (.cells #[.int .i64 2, .int .i64 n0, .int .i64 n1, .int .i64 n2'] 66)) := (HNX.out.bel.alloc HNX.out.bel.size _).alloc (by have := HNX.out.bel.size; simp; omega) _
            have hbz : wo.heap.size ≤ wr.heap.size := HNX.out.bel.size
            have HPA := Lib.hid (HPR.out.go hb5)
            have HROW : Hid (RowAt ((wr.alloc (.cells #[.int .i64 2, .int .i64 n0, .int .i64 n1, .int .i64 n2'] 66)).alloc (.cells #[.int .i64 2, .int .i64 n0, .int .i64 n1, .int .i64 n2'] 66)) (wr.heap.size + 1) 4 (w4.heap.size + 1) (Ord.mk 2 n0 n1 n2').ds [.int .i64 2, .int .i64 n0, .int .i64 n1, .int .i64 n2'] [] G) := Lib.hid (by have h := row_ordR (w5 := wr.alloc (.cells #[.int .i64 2, .int .i64 n0, .int .i64 n1, .int .i64 n2'] 66)) (B := w4.heap.size + 1) (o := Ord.mk 2 n0 n1 n2') (E := 66) (G := G); rw [show (wr.alloc (.cells #[.int .i64 2, .int .i64 n0, .int .i64 n1, .int .i64 n2'] 66)).heap.size = wr.heap.size + 1 from by simp] at h; exact h)
            have hpz : w4.heap.size < wo.heap.size := HPR.out.hz
            have hc1 : ∀ O, (wr.alloc O).cell? ⟨w4.heap.size, 1, none⟩ = some (.slice av os.length cv) := fun O => (bcell1 (HNX.out.bel.alloc HNX.out.bel.size O) hpz).trans HPR.out.c1
            clear hb5
            go_wp2_with (at_builtin; go_loud (refine app_lst rfl _ _ 24 rfl tabOrderSM rfl (by omega) (by decide) (w4.heap.size + 1) _ os.length (os.flatMap Ord.ds) (Ord.mk 2 n0 n1 n2').ds G [] _ rfl HPA.out.lst _ rfl HROW.out (by omega) (by have := HPA.out.hz; omega) ?_))
            intro v7 w7 G7 hN
            obtain ⟨_, a7, c7, rfl⟩ := hN.lst.val
            obtain ⟨d1, d2, _, hPN⟩ := HPA.out.put hN
            have HPN := Lib.hid hPN
            clear hPN hN
            go_wp2
            go_roundw
            case rel => exact ⟨k + 1, os ++ [o], _, _, by omega, by go_num, HST, by rw [HO.out]; exact HPN⟩
            case measure => simp [intOf]; omega
          have e2 : (z.toList == [115, 117, 98]) = false := by rw [hzl]; simpa using hsb
          have HO : Hid (o = ⟨3, 0, 0, 0⟩) := Lib.hid (by rw [HO0.out, HOR.out, if_neg ha, if_neg hsb])
          clear hzl ha hsb HOR
          have hb5 : Below wo.heap.size wo ((wr.alloc (.cells #[.int .i64 3, .int .i64 0, .int .i64 0, .int .i64 0] 66)).alloc (.cells #[.int .i64 3, .int .i64 0, .int .i64 0, .int .i64 0] 66)) := (HNX.out.bel.alloc HNX.out.bel.size _).alloc (by have := HNX.out.bel.size; simp; omega) _
          have hbz : wo.heap.size ≤ wr.heap.size := HNX.out.bel.size
          have HPA := Lib.hid (HPR.out.go hb5)
          have HROW : Hid (RowAt ((wr.alloc (.cells #[.int .i64 3, .int .i64 0, .int .i64 0, .int .i64 0] 66)).alloc (.cells #[.int .i64 3, .int .i64 0, .int .i64 0, .int .i64 0] 66)) (wr.heap.size + 1) 4 (w4.heap.size + 1) (Ord.mk 3 0 0 0).ds [.int .i64 3, .int .i64 0, .int .i64 0, .int .i64 0] [] G) := Lib.hid (by have h := row_ordR (w5 := wr.alloc (.cells #[.int .i64 3, .int .i64 0, .int .i64 0, .int .i64 0] 66)) (B := w4.heap.size + 1) (o := Ord.mk 3 0 0 0) (E := 66) (G := G); rw [show (wr.alloc (.cells #[.int .i64 3, .int .i64 0, .int .i64 0, .int .i64 0] 66)).heap.size = wr.heap.size + 1 from by simp] at h; exact h)
          have hpz : w4.heap.size < wo.heap.size := HPR.out.hz
          have hc1 : ∀ O, (wr.alloc O).cell? ⟨w4.heap.size, 1, none⟩ = some (.slice av os.length cv) := fun O => (bcell1 (HNX.out.bel.alloc HNX.out.bel.size O) hpz).trans HPR.out.c1
          clear hb5
          go_wp2_with (at_builtin; go_loud (refine app_lst rfl _ _ 24 rfl tabOrderSM rfl (by omega) (by decide) (w4.heap.size + 1) _ os.length (os.flatMap Ord.ds) (Ord.mk 3 0 0 0).ds G [] _ rfl HPA.out.lst _ rfl HROW.out (by omega) (by have := HPA.out.hz; omega) ?_))
          intro v7 w7 G7 hN
          obtain ⟨_, a7, c7, rfl⟩ := hN.lst.val
          obtain ⟨d1, d2, _, hPN⟩ := HPA.out.put hN
          have HPN := Lib.hid hPN
          clear hPN hN
          go_wp2
          go_roundw
          case rel => exact ⟨k + 1, os ++ [o], _, _, by omega, by go_num, HST, by rw [HO.out]; exact HPN⟩
          case measure => simp [intOf]; omega
    · obtain rfl : k = N := by omega
      have HOS2 : Hid (os = (ws.map (·.data.toList)).tail.map pOrd) := Lib.hid (by rw [HOS.out, List.take_of_length_le (by rw [List.length_tail, HLN.out]; have := HNN.out; omega)])
      have HSP : Hid (specRd s.data.toList = if (textB R os).data.toList = s.data.toList then some (R, os) else none) := Lib.hid (by rw [HRD.out, HY0.out, ← HRH.out, ← HOS2.out])
      have p0 := HPR.out.c0
      have p1 := HPR.out.c1
      have C := implProgramText_c R os av cv wo (HPR.out.slO hosl)
      obtain ⟨t, ht⟩ : ∃ t, t = textB R os := ⟨_, rfl⟩
      rw [← ht] at C HSP
      replace C := Lib.hid C
      have htl : t.toList = t.data.toList := ByteArray.toList_eq t
      have hsl' : s.toList = s.data.toList := ByteArray.toList_eq s
      clear ht
      by_cases he : t.data.toList = s.data.toList
      · have e1 : (t.toList == s.toList) = true := by rw [htl, hsl', he]; exact beq_self_eq_true _
        have e2 : (!(t.toList == s.toList)) = false := by rw [e1]; rfl
        have HF : Hid (Q = ((R, os), 0)) := Lib.hid (by rw [HQ.out, readProg_some (by rw [HSP.out, if_pos he])])
        clear htl hsl' he
        go_wp2_with fail
        refine C.out.mono ?_
        rintro e w6 ⟨rfl, hb6⟩
        have HP6 := Lib.hid (HPR.out.go hb6)
        clear hb6 C p0 p1
        have p0 := HP6.out.c0
        have p1 := HP6.out.c1
        have rr0 := (bcell1 HP6.out.bel HRB.out).trans HR0.out
        have rr1 := (bcell1 HP6.out.bel HRB.out).trans HR1.out
        have rz0 := (HP6.out.bel.frozen (p := ⟨w.heap.size, 0, none⟩) HRB.out).trans HRZ0.out
        have rz1 := (HP6.out.bel.frozen (p := ⟨w.heap.size, 1, none⟩) HRB.out).trans HRZ1.out
        have sA := setP2 w6 w.heap.size (.int .i64 R) (.slice av os.length cv) rr0 rr1
        go_wp2
        refine bodyPost_ret (v := .tuple #[.agg #[.int .i64 R, .slice av os.length cv], .int .i64 0]) (by simp [results, Tryz.results6, go_sem, sA]) rfl ?_
        exact HP6.out.ret HW1.out (Nat.le_refl _) HRB.out hosl HF.out
      · have e1 : (t.toList == s.toList) = false := by rw [htl, hsl']; simpa using he
        have e2 : (!(t.toList == s.toList)) = true := by rw [e1]; rfl
        have HF : Hid (Q = ((0, []), 5)) := Lib.hid (by rw [HQ.out, readProg_none (by rw [HSP.out, if_neg he])])
        clear htl hsl' he
        go_wp2_with fail
        refine C.out.mono ?_
        rintro e w6 ⟨rfl, hb6⟩
        have HPF := Lib.hid (HPR.out.go hb6)
        clear hb6 C p0 p1
        have sA := setP2 w6 w.heap.size (.int .i64 0) (.slice none 0 0) ((bcell1 HPF.out.bel HRB.out).trans HR0.out) ((bcell1 HPF.out.bel HRB.out).trans HR1.out)
        have rr0 := (bcell1 HPF.out.bel HRB.out).trans HR0.out
        have rr1 := (bcell1 HPF.out.bel HRB.out).trans HR1.out
        have rz0 := (HPF.out.bel.frozen (p := ⟨w.heap.size, 0, none⟩) HRB.out).trans HRZ0.out
        have rz1 := (HPF.out.bel.frozen (p := ⟨w.heap.size, 1, none⟩) HRB.out).trans HRZ1.out
        go_wp2
        refine bodyPost_ret (v := .tuple #[.agg #[.int .i64 0, .slice none 0 0], .int .i64 5]) (by simp [results, Tryz.results6, go_sem, sA]) rfl ?_
        exact RetAQ.none (bnext HW1.out HPF.out.bel (Nat.le_refl _)) (Nat.le_refl _) HF.out
end Go.Proofs.YtbnikblhnibgiaaGreatDoor

/- Configs whose registers lie in memory that is shared; values that are sorted. -/
namespace Go.Proofs.YtbnikblhnibgiaaGreatDoor
open Go.RowKit

/-- 'append' onto a list of one's own: what the old cells hold. -/
theorem run_app2 {P : Program} (w : World) (base : Nat) (t ty e : TypeId) (i : TypeInfo) (z : Value) (size bytes : Nat) (ht : P.underlying t = some (.slice e)) (hi : P.info? e = some i) (hz : i.zero = some z)
    (hsize : i.size = size) (hby : i.bytes = bytes) (hzs : z.cells.size = size) (hsz : 0 < size)
    (v : Value) (n : Nat) (xs : List Value) (hown : w.ownsRow base e size v n xs)
    (a : Addr) (m c : Nat) (news : List Value) (hl : news.length = m * size) (hnews : ∀ j u, news[j]? = some u → w.cell? (a.add j) = some u) (h1 : ∀ u ∈ news, u.oneCell' = true)
    (h63 : n + m ≤ maxLen) (hbytes : (n + m) * bytes ≤ 140737488355328) (hbase : base ≤ w.heap.size) (hm : 0 < m) :
    ∃ v' w', (Builtin.append_ #[t, t] ty #[v, .slice (some a) m c]).run P w = .ok v' w' ∧ w'.ownsRow base e size v' (n + m) (xs ++ news) ∧ w.grownBy w' v.ownBlock ∧
      (∀ g, v'.ownBlock = some g → v.ownBlock = some g ∨ w.heap.size ≤ g) ∧ (∀ g, v.ownBlock = some g → ∀ j u, xs[j]? = some u → w'.cell? ⟨g, j, none⟩ = some u) := by
  obtain ⟨v', w', hr, h2, h3, h4⟩ := run_app (P := P) (ty := ty) w base t e i z size bytes ht hi hz hsize hby hzs hsz v n xs hown a m c news hl hnews h1 h63 hbytes hbase hm
  refine ⟨v', w', hr, h2, h3, h4, fun g hg j u hu => ?_⟩
  have hsmall : n + m ≤ 9223372036854775807 := by simp only [maxLen] at h63; omega
  subst hsize
  subst hby
  have hlt := hown.lt g hg
  have holds : w.cell? ⟨g, j, none⟩ = some u := by
    have := hown.cells (g := g) hg j u hu
    rwa [Addr.add_lit, Nat.zero_add] at this
  rcases hown.2 with ⟨rfl, rfl⟩ | ⟨g', cap, cur, rfl, hbg, hgh, hnc, hcm, hcs, htake⟩
  · cases hg
  · obtain rfl : g' = g := by simpa [Value.ownBlock] using hg
    by_cases hroom : n + m ≤ cap
    · have hfit : n * i.size + news.length ≤ cur.size := by rw [hl, hcs, ← Nat.add_mul]; exact Nat.mul_le_mul_right _ hroom
      have hr2 := run_append_room (P := P) w t ty e i ht hi g' n cap cur hgh a m c news hl hnews h1 hroom hfit
      rw [hr] at hr2
      injection hr2 with e1 e2
      subst e1
      have hj : j < xs.length := (List.getElem?_eq_some_iff.1 hu).1
      have := h2.cells (g := g') rfl j u (by rw [List.getElem?_append_left hj]; exact hu)
      rwa [Addr.add_lit, Nat.zero_add] at this
    · have holds2 : ∀ j u, xs[j]? = some u → w.cell? ((⟨g', 0, none⟩ : Addr).add j) = some u := hown.cells (g := g') rfl
      have hr2 := run_append_grow (P := P) w t ty e i z ht hi hz ⟨g', 0, none⟩ n cap xs hown.1 holds2 a m c news hl hnews (by omega) (by omega) (growslice_fits (by omega) hbytes)
      rw [hr] at hr2
      injection hr2 with e1 e2
      rw [e2]
      have hb : Below w.heap.size w (w.drew.alloc (.cells (xs.toArray ++ news.toArray ++ Builtin.zeroCells z.cells (grownCap w (n + m) cap e - (n + m))) e)) := (Below.refl _ w).drew.alloc (by simp) _
      exact (hb.cell (p := ⟨g', j, none⟩) hlt.2).trans holds
/-- A config as it lies in memory. -/
structure CfM where
  c : Cfg
  a : Option Addr
  n : Nat
def CfM.vs (t : CfM) : List Value := [.int .i64 t.c.pc, .slice t.a t.c.regs.length t.n]
def vsC (L : List CfM) : List Value := L.flatMap CfM.vs
theorem vsC_len : ∀ L : List CfM, (vsC L).length = L.length * 2
  | [] => rfl
  | t :: L => by have := vsC_len L; simp only [vsC, List.flatMap_cons, List.length_append, List.length_cons, CfM.vs, List.length_nil] at *; omega
theorem vsC_get : ∀ (L : List CfM) (i j : Nat) (t : CfM), L[i]? = some t → j < 2 → (vsC L)[i * 2 + j]? = t.vs[j]?
  | [], i, j, t, h, _ => by simp at h
  | s :: L, 0, j, t, h, hj => by
    simp at h; subst h
    simp only [Nat.zero_mul, Nat.zero_add, vsC, List.flatMap_cons]
    rw [List.getElem?_append_left (by simpa [CfM.vs] using hj)]
  | s :: L, i + 1, j, t, h, hj => by
    have ih := vsC_get L i j t (by simpa using h) hj
    simp only [vsC, List.flatMap_cons]
    rw [List.getElem?_append_right (by simp [CfM.vs]; omega), ← ih]
    congr 1
    simp [CfM.vs]; omega
theorem vsC_one (L : List CfM) : ∀ u ∈ vsC L, u.oneCell' = true := fun u hu => by
  simp only [vsC, List.mem_flatMap] at hu
  obtain ⟨t, _, ht⟩ := hu
  simp [CfM.vs] at ht
  rcases ht with rfl | rfl <;> simp [Value.oneCell']
/-- v is a list of configs that is being built: its own cells are its own, the registers lie elsewhere. -/
structure CfR (E : TypeId) (w : World) (B : Nat) (v : Value) (cs : List Cfg) : Prop where
  ex : ∃ L : List CfM, L.map CfM.c = cs ∧ w.ownsRow B E 2 v cs.length (vsC L) ∧ ∀ t, t ∈ L → SlI (fun g => g ∉ ob v) w t.a t.c.regs
/-- Registers that lie outside of some blocks. -/
theorem SlI.move {S T : Nat → Prop} {w w' : World} {a : Option Addr} {xs : List Int} (h : SlI S w a xs) (hs : ∀ k, k < w.heap.size → S k → w'.heap[k]? = w.heap[k]?) (ht : ∀ k, k < w.heap.size → S k → T k) : SlI T w' a xs := by
  refine ⟨h.len, fun h0 => ⟨?_, (h.ptr h0).2⟩, fun i hi => ?_⟩
  · have := World.block_lt_of_cell? w _ (h.cell 0 h0)
    exact ht _ this (h.ptr h0).1
  · have hb := World.block_lt_of_cell? w _ (h.cell i hi)
    rw [World.cell?_of_block (w := w) (hs _ hb (h.ptr (by omega)).1)]
    exact h.cell i hi
theorem CfR.below {E : TypeId} {w w' : World} {B : Nat} {v : Value} {cs : List Cfg} (h : CfR E w B v cs) (hb : Below w.heap.size w w') : CfR E w' B v cs := by
  obtain ⟨L, h1, h2, h3⟩ := h.ex
  exact ⟨L, h1, ownsRow_kept h2 (fun g hg => hb.block g (ob_lt h2 g hg).2), fun t ht => (h3 t ht).below hb⟩
theorem CfR.lt {E : TypeId} {w : World} {B : Nat} {v : Value} {cs : List Cfg} (h : CfR E w B v cs) : ∀ g, g ∈ ob v → B ≤ g ∧ g < w.heap.size := by
  obtain ⟨L, h1, h2, h3⟩ := h.ex
  exact ob_lt h2
theorem CfR.val {E : TypeId} {w : World} {B : Nat} {v : Value} {cs : List Cfg} (h : CfR E w B v cs) (h0 : 0 < cs.length) : ∃ g c, v = .slice (some ⟨g, 0, none⟩) cs.length c ∧ cs.length ≤ c := by
  obtain ⟨L, h1, h2, h3⟩ := h.ex
  rcases h2.2 with ⟨_, h⟩ | ⟨g, cap, cur, h1, _, _, hn, _⟩
  · omega
  · exact ⟨g, cap, h1, hn⟩
/-- The cells of such a list, at whatever place it has lain. -/
structure VwC (w : World) (S : Nat → Prop) (g : Nat) (cs : List Cfg) : Prop where
  c0 : ∀ i, i < cs.length → w.cell? ⟨g, i * 2, none⟩ = some (.int .i64 (nthCfg cs i).pc)
  c1 : ∀ i, i < cs.length → ∃ a c, w.cell? ⟨g, i * 2 + 1, none⟩ = some (.slice a (nthCfg cs i).regs.length c) ∧ SlI S w a (nthCfg cs i).regs
theorem CfR.vw {E : TypeId} {w : World} {B g n c : Nat} {cs : List Cfg} (h : CfR E w B (.slice (some ⟨g, 0, none⟩) n c) cs) : VwC w (fun x => x ≠ g) g cs := by
  obtain ⟨L, h1, h2, h3⟩ := h.ex
  have hL : L.length = cs.length := by rw [← h1]; simp
  have key : ∀ i (hi : i < cs.length), ∃ t, L[i]? = some t ∧ t.c = nthCfg cs i ∧ t ∈ L := fun i hi => by
    refine ⟨L[i], by simp, ?_, List.getElem_mem (by omega)⟩
    rw [nthCfg_lt hi]
    subst h1
    simp
  have cell : ∀ i j u (t : CfM), L[i]? = some t → j < 2 → t.vs[j]? = some u → w.cell? ⟨g, i * 2 + j, none⟩ = some u := fun i j u t ht hj hu => by
    have := h2.cells (g := g) rfl (i * 2 + j) u (by rw [vsC_get L i j t ht hj]; exact hu)
    rwa [Addr.add_lit, Nat.zero_add] at this
  refine ⟨fun i hi => ?_, fun i hi => ?_⟩
  · obtain ⟨t, ht, hc, _⟩ := key i hi
    have := cell i 0 _ t ht (by omega) rfl
    rw [hc] at this; exact this
  · obtain ⟨t, ht, hc, hm⟩ := key i hi
    have := cell i 1 _ t ht (by omega) rfl
    rw [hc] at this
    refine ⟨t.a, t.n, this, ?_⟩
    rw [← hc]
    have h := h3 t hm
    refine ⟨h.len, fun h0 => ⟨fun e => (h.ptr h0).1 (mem_ob.2 (by rw [e]; rfl)), (h.ptr h0).2⟩, h.cell⟩
theorem VwC.below {w w' : World} {S : Nat → Prop} {g : Nat} {cs : List Cfg} (h : VwC w S g cs) (hb : Below w.heap.size w w') : VwC w' S g cs :=
  ⟨fun i hi => (hb.cell (World.block_lt_of_cell? w _ (h.c0 i hi))).trans (h.c0 i hi), fun i hi => by
    obtain ⟨a, c, h1, h2⟩ := h.c1 i hi
    exact ⟨a, c, (hb.cell (World.block_lt_of_cell? w _ h1)).trans h1, h2.below hb⟩⟩
/-- What one config more brings. -/
structure CfNext (E : TypeId) (w w' : World) (B : Nat) (v v' : Value) (cs : List Cfg) (c : Cfg) : Prop where
  row : CfR E w' B v' (cs ++ [c])
  chg : Chg (ob v) w w'
  mem : ∀ g, g ∈ ob v' → g ∈ ob v ∨ w.heap.size ≤ g
  old : ∀ g, g ∈ ob v → ∀ j u, j < cs.length * 2 → w.cell? ⟨g, j, none⟩ = some u → w'.cell? ⟨g, j, none⟩ = some u
/-- An old place of the list, behind one config more. -/
theorem CfNext.vw {E : TypeId} {w w' : World} {B g : Nat} {v v' : Value} {cs pre : List Cfg} {c : Cfg} (h : CfNext E w w' B v v' cs c) (hv : VwC w (fun x => x ∉ ob v) g pre) (hp : pre.length ≤ cs.length) : VwC w' (fun x => x ∉ ob v') g pre := by
  have key : ∀ j u, j < pre.length * 2 → w.cell? ⟨g, j, none⟩ = some u → w'.cell? ⟨g, j, none⟩ = some u := fun j u hj hu => by
    by_cases hg : g ∈ ob v
    · exact h.old g hg j u (by omega) hu
    · rw [h.chg.cell (World.block_lt_of_cell? w _ hu) hg j]; exact hu
  refine ⟨fun i hi => key _ _ (by omega) (hv.c0 i hi), fun i hi => ?_⟩
  obtain ⟨a, n, h1, h2⟩ := hv.c1 i hi
  refine ⟨a, n, key _ _ (by omega) h1, h2.move (fun k hk hs => h.chg.block k hk hs) (fun k hk hs e => ?_)⟩
  rcases h.mem k e with e | e
  · exact hs e
  · omega
theorem run_cfr {P : Program} {w : World} {B : Nat} {T ty E : TypeId} {bytes : Nat} {z : Value} (tab : Tab P T E z 2 bytes) (hzs : z.cells.size = 2) (hby : bytes ≤ 1024)
    {v : Value} {cs : List Cfg} (h : CfR E w B v cs) {g : Nat} (c : Cfg) (a : Option Addr) (n : Nat) (h0 : w.cell? ⟨g, 0, none⟩ = some (.int .i64 c.pc)) (h1 : w.cell? ⟨g, 1, none⟩ = some (.slice a c.regs.length n)) (hs : SlI (fun g => g ∉ ob v) w a c.regs) (hlen : cs.length < 4294967296) (hB : B ≤ w.heap.size) :
    ∃ v' w', (Builtin.append_ #[T, T] ty #[v, .slice (some ⟨g, 0, none⟩) 1 1]).run P w = .ok v' w' ∧ CfNext E w w' B v v' cs c := by
  obtain ⟨L, q1, q2, q3⟩ := h.ex
  obtain ⟨i0, hi, hz0, hz1, hz2⟩ := info_parts tab.info
  obtain ⟨v', w', e, o1, o2, o3, o4⟩ := run_app2 (P := P) w B T ty E i0 z 2 bytes tab.under hi hz0 hz1 hz2 hzs (by omega) v cs.length (vsC L) q2 ⟨g, 0, none⟩ 1 1 (CfM.vs ⟨c, a, n⟩) rfl (fun j u hu => by
      rw [Addr.add_lit, Nat.zero_add]
      match j, hu with
      | 0, hu => (simp [CfM.vs] at hu; subst hu; exact h0)
      | 1, hu => (simp [CfM.vs] at hu; subst hu; exact h1)) (by simp [CfM.vs, Value.oneCell']) (by unfold maxLen; omega)
    (by have : (cs.length + 1) * bytes ≤ 4294967296 * 1024 := Nat.mul_le_mul (by omega) hby
        omega) hB (by omega)
  have hc := grown_chg o2
  have hmem : ∀ g, g ∈ ob v' → g ∈ ob v ∨ w.heap.size ≤ g := fun g hg => by
    rcases o3 g (mem_ob.1 hg) with h | h
    · exact .inl (mem_ob.2 h)
    · exact .inr h
  have mv : ∀ (a : Option Addr) (xs : List Int), SlI (fun g => g ∉ ob v) w a xs → SlI (fun g => g ∉ ob v') w' a xs := fun a xs h =>
    h.move (fun k hk hs => hc.block k hk hs) (fun k hk hs e => by rcases hmem k e with e | e; exact hs e; omega)
  refine ⟨v', w', e, ⟨⟨L ++ [⟨c, a, n⟩], by simp [q1], ?_, fun t ht => ?_⟩, hc, hmem, fun g hg j u hj hu => ?_⟩⟩
  · have e1 : vsC (L ++ [⟨c, a, n⟩]) = vsC L ++ CfM.vs ⟨c, a, n⟩ := by simp [vsC]
    rw [e1, List.length_append]; exact o1
  · rcases List.mem_append.1 ht with ht | ht
    · exact mv _ _ (q3 t ht)
    · simp at ht; subst ht; exact mv _ _ hs
  · have hv := vsC_len L
    have hL : L.length = cs.length := by rw [← q1]; simp
    have hx : (vsC L)[j]? = some ((vsC L)[j]'(by omega)) := List.getElem?_eq_getElem (by omega)
    have h8 := q2.cells (g := g) (mem_ob.1 hg) j _ hx
    rw [Addr.add_lit, Nat.zero_add] at h8
    rw [h8] at hu
    cases hu
    exact o4 g (mem_ob.1 hg) j _ hx
/-- 'append(v, config)' in the order of the text. -/
theorem app_cfr {P : Program} {ops : Array Oper} {rest : List Oper} {o : Oper} {ac : Act} {Q : Exit → Act → World → Prop} {w : World} (hgd : o.guard = none) (s x : Operand) (T : TypeId)
    (ho : o.op = .call { callee := .builtin .append, args := #[s, x], argTypes := #[T, T] }) {E bytes : Nat} {z : Value} (tab : Tab P T E z 2 bytes) (hzs : z.cells.size = 2) (hby : bytes ≤ 1024)
    (B : Nat) (v : Value) (cs : List Cfg) (hs : ac.eval s = v) (h : CfR E w B v cs) (g : Nat) (c : Cfg) (a : Option Addr) (n : Nat) (hx : ac.eval x = .slice (some ⟨g, 0, none⟩) 1 1) (h0 : w.cell? ⟨g, 0, none⟩ = some (.int .i64 c.pc)) (h1 : w.cell? ⟨g, 1, none⟩ = some (.slice a c.regs.length n)) (hsl : SlI (fun g => g ∉ ob v) w a c.regs) (hlen : cs.length < 4294967296) (hB : B ≤ w.heap.size)
    (K : ∀ v' w', CfNext E w w' B v v' cs c → wpList P ops Q rest (ac.put o.dst v') w') : wpList P ops Q (o :: rest) ac w := by
  refine wpList_plain hgd fun _ hK => ?_
  obtain ⟨v', w', e, hn⟩ := run_cfr (P := P) (ty := o.type) tab hzs hby h c a n h0 h1 hsl hlen hB
  unfold Oper.wp execOp
  simp only [ho, resolve, invoke, builtin, Sem.run_bind, Sem.run_pure, Result.andThen_ok, List.map_toArray, List.map_cons, List.map_nil, hs, hx, e]
  exact hK _ _ (K v' w' hn)
/-- A list of one config. -/
theorem CfR.one {E : TypeId} {w : World} {B : Nat} (c : Cfg) (a : Option Addr) (n : Nat) (hs : SlI Any w a c.regs) (hB : B ≤ w.heap.size) : CfR E (w.alloc (.cells #[.int .i64 c.pc, .slice a c.regs.length n] E)) B (.slice (some ⟨w.heap.size, 0, none⟩) 1 1) [c] := by
  refine ⟨[⟨c, a, n⟩], rfl, ⟨by simp [vsC, CfM.vs], .inr ⟨w.heap.size, 1, _, rfl, hB, heap_alloc_new w _, Nat.le_refl _, by simp [maxLen], rfl, by simp [vsC, CfM.vs]⟩⟩, fun t ht => ?_⟩
  simp at ht; subst ht
  exact hs.move (fun k hk _ => (below_alloc w _).block k hk) (fun k hk _ e => by have := mem_ob.1 e; simp [Value.ownBlock] at this; omega)
/-- Of a list of one's own, the first part. -/
theorem Bld.first {E : Nat} {w : World} {B g n c : Nat} {xs ys : List Value} (h : Bld E w B (.slice (some ⟨g, 0, none⟩) n c) (xs ++ ys)) : Bld E w B (.slice (some ⟨g, 0, none⟩) xs.length c) xs := by
  obtain ⟨h0, h2⟩ := h
  refine ⟨by simp, ?_⟩
  rcases h2 with ⟨h1, _⟩ | ⟨g', cap, cur, h1, hB, hg, hn, hcap, hs, ht⟩
  · cases h1
  · cases h1
    refine .inr ⟨g, c, cur, rfl, hB, hg, ?_, hcap, hs, ?_⟩
    · simp only [List.length_append] at hn; omega
    · simp only [List.length_append, Nat.mul_one] at ht ⊢
      have := congrArg (List.take xs.length) ht
      rw [List.take_take, List.take_append_of_le_length (Nat.le_refl _), List.take_length] at this
      rwa [Nat.min_eq_left (by omega)] at this
end Go.Proofs.YtbnikblhnibgiaaGreatDoor

/-
  DERIVED: THE SHELF's CONTRACTS AT THIS DUMP, IN PLAIN WORDS (tools/lay-plain.mjs out of 'TryShelf.lean', which tools/lay-shelf.mjs wrote): THE SAME DECLARATIONS UNDER THE SAME NAMES: 'import', 'namespace', 'open', 'def', 'theorem' AND NOTHING ELSE: no command of the shelf's: FOR A HAND-IN. Each laying: the table of numbers ('.._ren') and one theorem, a field a fact of the dump's own or the kernel's comparison; each contract: ONE APPLICATION.
-/
namespace Go.Proofs
open Go.Shelf
def Tryz.sortL_ren : Go.Shelf.Ren := ⟨fun | 5 => 63 | 8 => 80 | 7 => 79 | 19 => 104 | 20 => 105 | 10 => 95 | 11 => 96 | 12 => 97 | 13 => 98 | 14 => 99 | 15 => 100 | 16 => 101 | 17 => 102 | 18 => 103 | 30 => 116 | 31 => 117 | 32 => 118 | 33 => 119 | 34 => 120 | 35 => 121 | 40 => 126 | n => n, fun | 23 => 27 | 25 => 2 | 3 => 3 | 32 => 102 | 22 => 27 | 0 => 0 | 44 => 143 | 46 => 82 | 4 => 4 | 36 => 135 | 35 => 134 | 41 => 140 | 5 => 5 | 9 => 9 | 53 => 153 | 57 => 157 | 63 => 165 | 64 => 166 | n => n, fun | n => n⟩
theorem Tryz.sortL : Go.Proofs.SlLaysM.n5 Tryz.prog Tryz.sortL_ren := {
  mixed := by kernel_rfl
  f5 := ⟨Tryz.f63.name, by decide, Tryz.func63.trans (congrArg some (by kernel_rfl))⟩
  f7 := ⟨Tryz.f79.name, by decide, Tryz.func79.trans (congrArg some (by kernel_rfl))⟩
  f8 := Tryz.func80.trans (congrArg some (by kernel_rfl))
  f10 := ⟨Tryz.f95.name, by decide, Tryz.func95.trans (congrArg some (by kernel_rfl))⟩
  f11 := ⟨Tryz.f96.name, by decide, Tryz.func96.trans (congrArg some (by kernel_rfl))⟩
  f12 := ⟨Tryz.f97.name, by decide, Tryz.func97.trans (congrArg some (by kernel_rfl))⟩
  f13 := ⟨Tryz.f98.name, by decide, Tryz.func98.trans (congrArg some (by kernel_rfl))⟩
  f14 := ⟨Tryz.f99.name, by decide, Tryz.func99.trans (congrArg some (by kernel_rfl))⟩
  f15 := ⟨Tryz.f100.name, by decide, Tryz.func100.trans (congrArg some (by kernel_rfl))⟩
  f16 := ⟨Tryz.f101.name, by decide, Tryz.func101.trans (congrArg some (by kernel_rfl))⟩
  f17 := ⟨Tryz.f102.name, by decide, Tryz.func102.trans (congrArg some (by kernel_rfl))⟩
  f18 := ⟨Tryz.f103.name, by decide, Tryz.func103.trans (congrArg some (by kernel_rfl))⟩
  f19 := Tryz.func104.trans (congrArg some (by kernel_rfl))
  f20 := Tryz.func105.trans (congrArg some (by kernel_rfl))
  f30 := ⟨Tryz.f116.name, by decide, Tryz.func116.trans (congrArg some (by kernel_rfl))⟩
  f31 := Tryz.func117.trans (congrArg some (by kernel_rfl))
  f32 := Tryz.func118.trans (congrArg some (by kernel_rfl))
  f33 := ⟨Tryz.f119.name, by decide, Tryz.func119.trans (congrArg some (by kernel_rfl))⟩
  f34 := ⟨Tryz.f120.name, by decide, Tryz.func120.trans (congrArg some (by kernel_rfl))⟩
  f35 := ⟨Tryz.f121.name, by decide, Tryz.func121.trans (congrArg some (by kernel_rfl))⟩
  f40 := ⟨Tryz.f126.name, by decide, Tryz.func126.trans (congrArg some (by kernel_rfl))⟩
  t0 := Tryz.underlying0
  a0 := Tryz.isAgg0
  z0 := Tryz.sizeOf0
  v0 := Tryz.zeroValue0
  t3 := Tryz.underlying3
  a3 := Tryz.isAgg3
  z3 := Tryz.sizeOf3
  v3 := Tryz.zeroValue3
  t4 := Tryz.underlying4
  a4 := Tryz.isAgg4
  z4 := Tryz.sizeOf4
  v4 := Tryz.zeroValue4
  t5 := Tryz.underlying5
  a5 := Tryz.isAgg5
  z5 := Tryz.sizeOf5
  v5 := Tryz.zeroValue5
  t9 := Tryz.underlying9
  a9 := Tryz.isAgg9
  z9 := Tryz.sizeOf9
  v9 := Tryz.zeroValue9
  t22 := Tryz.underlying27
  a22 := Tryz.isAgg27
  z22 := Tryz.sizeOf27
  v22 := Tryz.zeroValue27
  t23 := Tryz.underlying27
  a23 := Tryz.isAgg27
  z23 := Tryz.sizeOf27
  v23 := Tryz.zeroValue27
  t25 := Tryz.underlying2
  a25 := Tryz.isAgg2
  z25 := Tryz.sizeOf2
  v25 := Tryz.zeroValue2
  t32 := Tryz.underlying102
  a32 := Tryz.isAgg102
  z32 := Tryz.sizeOf102
  v32 := Tryz.zeroValue102
  t35 := Tryz.underlying134
  a35 := Tryz.isAgg134
  z35 := Tryz.sizeOf134
  v35 := Tryz.zeroValue134
  t36 := Tryz.underlying135
  a36 := Tryz.isAgg135
  z36 := Tryz.sizeOf135
  v36 := Tryz.zeroValue135
  t41 := Tryz.underlying140
  a41 := Tryz.isAgg140
  z41 := Tryz.sizeOf140
  v41 := Tryz.zeroValue140
  t44 := Tryz.underlying143
  a44 := Tryz.isAgg143
  z44 := Tryz.sizeOf143
  v44 := Tryz.zeroValue143
  t46 := Tryz.underlying82
  a46 := Tryz.isAgg82
  z46 := Tryz.sizeOf82
  v46 := Tryz.zeroValue82
  t53 := Tryz.underlying153
  a53 := Tryz.isAgg153
  z53 := Tryz.sizeOf153
  v53 := Tryz.zeroValue153
  t57 := Tryz.underlying157
  a57 := Tryz.isAgg157
  z57 := Tryz.sizeOf157
  v57 := Tryz.zeroValue157
  t63 := Tryz.underlying165
  a63 := Tryz.isAgg165
  z63 := Tryz.sizeOf165
  v63 := Tryz.zeroValue165
  t64 := Tryz.underlying166
  a64 := Tryz.isAgg166
  z64 := Tryz.sizeOf166
  v64 := Tryz.zeroValue166 }
def Tryz.compactL_ren : Go.Shelf.Ren := ⟨fun | 43 => 64 | n => n, fun | 22 => 27 | 23 => 2 | 3 => 3 | 4 => 4 | 0 => 0 | n => n, fun | n => n⟩
theorem Tryz.compactL : Go.Proofs.SlLaysN.n43 Tryz.prog Tryz.compactL_ren := {
  mixed := by kernel_rfl
  f43 := ⟨Tryz.f64.name, by decide, Tryz.func64.trans (congrArg some (by kernel_rfl))⟩
  t0 := Tryz.underlying0
  a0 := Tryz.isAgg0
  z0 := Tryz.sizeOf0
  v0 := Tryz.zeroValue0
  t3 := Tryz.underlying3
  a3 := Tryz.isAgg3
  z3 := Tryz.sizeOf3
  v3 := Tryz.zeroValue3
  t4 := Tryz.underlying4
  a4 := Tryz.isAgg4
  z4 := Tryz.sizeOf4
  v4 := Tryz.zeroValue4
  t22 := Tryz.underlying27
  a22 := Tryz.isAgg27
  z22 := Tryz.sizeOf27
  v22 := Tryz.zeroValue27
  t23 := Tryz.underlying2
  a23 := Tryz.isAgg2
  z23 := Tryz.sizeOf2
  v23 := Tryz.zeroValue2
  i23 := by kernel_rfl }
end Go.Proofs

/- Configs that are looked for, numbers that are put in order: both programs' small functions. -/
namespace Go.Proofs.YtbnikblhnibgiaaGreatDoor
open Go.RowKit

set_option maxHeartbeats 1000000 in
theorem sameC_c (S T : Nat → Prop) (x y : Cfg) (a b : Option Addr) (c c' : Nat) (w : World) (hx : SlI S w a x.regs) (hy : SlI T w b y.regs) :
    Calls Tryz.prog 38 #[.agg #[.int .i64 x.pc, .slice a x.regs.length c], .agg #[.int .i64 y.pc, .slice b y.regs.length c']] w (RetV w (.bool (eqC x y))) := by
  have hb0 : Below w.heap.size w ((w.alloc (.cells #[.int .i64 x.pc, .slice a x.regs.length c] 35)).alloc (.cells #[.int .i64 y.pc, .slice b y.regs.length c'] 35)) := (below_alloc _ _).alloc (by simp) _
  have HE := Lib.hid (slicesEqualI_c S T a b c c' x.regs y.regs _ (hx.below hb0) (hy.below hb0))
  have HB := Lib.hid hb0
  clear hb0 hx hy
  cases h : (x.pc == y.pc)
  · have e : eqC x y = false := by simp [eqC, h]
    rw [e]
    clear e
    go_enter Tryz.func38, Tryz.ntmps38
    go_wp2
    go_ret
    exact ⟨rfl, HB.out⟩
  · have e : eqC x y = eqI x.regs y.regs := by simp [eqC, h]
    rw [e]
    clear e
    go_enter Tryz.func38, Tryz.ntmps38
    go_wp2_with fail
    refine HE.out.mono ?_
    rintro e w' ⟨rfl, n, rfl⟩
    go_wp2
    go_ret
    exact ⟨rfl, HB.out.trans (below_drewN _ _ _)⟩
set_option maxHeartbeats 1000000 in
theorem foundC_c (S T : Nat → Prop) (x y : Cfg) (a b : Option Addr) (c c' f q : Nat) (w : World) (hx : SlI S w a x.regs) (hy : SlI T w b y.regs) (hf : w.cell? ⟨f, 0, none⟩ = some (.func (.func 38) #[] #[])) (hq0 : w.cell? ⟨q, 0, none⟩ = some (.int .i64 y.pc)) (hq1 : w.cell? ⟨q, 1, none⟩ = some (.slice b y.regs.length c')) :
    Calls Tryz.prog 42 #[.agg #[.int .i64 x.pc, .slice a x.regs.length c], .pointer (some ⟨f, 0, none⟩), .pointer (some ⟨q, 0, none⟩)] w (RetV w (.bool (eqC x y))) := by
  have hb0 : Below w.heap.size w (w.alloc (.cells #[.int .i64 x.pc, .slice a x.regs.length c] 35)) := below_alloc _ _
  have HS := Lib.hid (sameC_c S T x y a b c c' _ (hx.below hb0) (hy.below hb0))
  have f0 := (bcell1 hb0 (World.block_lt_of_cell? w _ hf)).trans hf
  have q0 := (bcell1 hb0 (World.block_lt_of_cell? w _ hq0)).trans hq0
  have q1 := (bcell1 hb0 (World.block_lt_of_cell? w _ hq1)).trans hq1
  have hrun := callFunc_run (P := Tryz.prog) Tryz.func38 (by kernel_rfl) rfl
  have HB := Lib.hid hb0
  clear hb0 hx hy hf hq0 hq1
  go_enter Tryz.func42, Tryz.ntmps42
  go_wp2_with fail
  refine HS.out.mono ?_
  rintro e w' ⟨rfl, hb⟩
  go_wp2
  go_ret
  exact ⟨rfl, bnext HB.out hb (Nat.le_refl _)⟩
set_option maxHeartbeats 1000000 in
theorem indexFuncC_c (f : FuncId) (caps : Array Value) (p : Cfg → Bool) (hcall : ∀ args w, (callFunc f args).run Tryz.prog w = .ok (.enter f args) w)
   (S : Nat → Prop) (g c : Nat) (cs : List Cfg) (w : World) (hv : VwC w S g cs) (hl : cs.length ≤ 1000)
   (hf : Hid (∀ w' i a n, i < cs.length → Below w.heap.size w w' → SlI S w' a (nthCfg cs i).regs → Calls Tryz.prog f (#[.agg #[.int .i64 (nthCfg cs i).pc, .slice a (nthCfg cs i).regs.length n]] ++ caps) w' (RetV w' (.bool (p (nthCfg cs i)))))) :
    Calls Tryz.prog 62 #[.slice (some ⟨g, 0, none⟩) cs.length c, .func (.func f) #[] caps] w (RetV w (.int .i64 (idxC p cs))) := by
  have i1 := ix_of (P := Tryz.prog) tabConfigSM.under tabConfigSM.size (a := some ⟨g, 0, none⟩) (n := cs.length) (fun _ => ⟨g, 0, rfl⟩) c
  simp only [adr, blk, ofs, Nat.zero_add] at i1
  have HV := Lib.hid hv
  clear hv
  go_enter Tryz.func62, Tryz.ntmps62
  go_wp2
  go_loopw [5, 8] (fun _ i wr => ∃ k : Nat, k ≤ cs.length ∧ i = .int .i64 k ∧ Hid (Below w.heap.size w wr) ∧ Hid (∀ j, j < k → p (nthCfg cs j) = false)) (fun _ i _ => cs.length - (intOf i).toNat)
  case atStart => exact ⟨0, Nat.zero_le _, rfl, Lib.hid (Below.refl _ _), Lib.hid (by omega)⟩
  case round =>
      obtain ⟨k, hk, rfl, HBR, HJ⟩ := hrel
      by_cases hlt : k < cs.length
      · have hki : (k : Int) < cs.length := by omega
        have i2 := fun w' => i1 (k : Int) w' (by omega) hki
        simp only [Int.toNat_natCast] at i2
        have hvr := HV.out.below HBR.out
        have d0 := hvr.c0 k hlt
        obtain ⟨a, n, d1, hs⟩ := hvr.c1 k hlt
        have HF := Lib.hid (hf.out wr k a n hlt HBR.out hs)
        clear hvr hs
        go_wp2_with fail
        refine HF.out.mono ?_
        rintro e w' ⟨rfl, hb⟩
        have HB2 := Lib.hid (bnext HBR.out hb (Nat.le_refl _))
        clear hb
        cases hp : p (nthCfg cs k)
        · have hp' := Lib.hid hp
          clear hp
          go_wp2
          go_roundw
          case rel => exact ⟨k + 1, by omega, by go_num, HB2, Lib.hid (upto HJ.out hp'.out)⟩
          case measure => simp [intOf]; omega
        · go_wp2
          go_ret
          exact ⟨ret_int (idxC_at hlt HJ.out hp).symm, HB2.out⟩
      · go_wp2
        go_ret
        have e : k = cs.length := by omega
        exact ⟨ret_int (idxC_none (e ▸ HJ.out)).symm, HBR.out⟩
theorem containsFuncC_c (f : FuncId) (caps : Array Value) (p : Cfg → Bool) (hcall : ∀ args w, (callFunc f args).run Tryz.prog w = .ok (.enter f args) w)
   (S : Nat → Prop) (g c : Nat) (cs : List Cfg) (w : World) (hv : VwC w S g cs) (hl : cs.length ≤ 1000)
   (hf : Hid (∀ w' i a n, i < cs.length → Below w.heap.size w w' → SlI S w' a (nthCfg cs i).regs → Calls Tryz.prog f (#[.agg #[.int .i64 (nthCfg cs i).pc, .slice a (nthCfg cs i).regs.length n]] ++ caps) w' (RetV w' (.bool (p (nthCfg cs i)))))) :
    Calls Tryz.prog 41 #[.slice (some ⟨g, 0, none⟩) cs.length c, .func (.func f) #[] caps] w (RetV w (.bool (cs.any p))) := by
  have HI := Lib.hid (indexFuncC_c f caps p hcall S g c cs w hv hl hf)
  clear hv hf
  go_enter Tryz.func41, Tryz.ntmps41
  go_wp2_with fail
  refine HI.out.mono ?_
  rintro e w' ⟨rfl, hb⟩
  have HB := Lib.hid hb
  clear hb
  go_wp2
  go_ret
  exact ⟨ret_bool (idxC_any p cs), HB.out⟩
/-- What the numbers are that have been put so far. -/
def putTo (xs : List Int) (n : Int) (k : Nat) : List Int := if (xs.take k).any (fun x => decide (n ≤ x)) = true then putS (xs.take k) n else xs.take k
theorem putS_app_done : ∀ (l : List Int) (n x : Int), l.any (fun y => decide (n ≤ y)) = true → putS (l ++ [x]) n = putS l n ++ [x]
  | [], n, x, h => by simp at h
  | y :: l, n, x, h => by
    by_cases hy : n ≤ y
    · simp only [List.cons_append, putS, if_pos hy]
      split <;> simp
    · have h2 : l.any (fun y => decide (n ≤ y)) = true := by simpa [hy] using h
      simp only [List.cons_append, putS, if_neg hy, putS_app_done l n x h2]
theorem putS_app_new : ∀ (l : List Int) (n x : Int), l.any (fun y => decide (n ≤ y)) = false → n ≤ x → putS (l ++ [x]) n = (if n < x then l ++ [n] else l) ++ [x]
  | [], n, x, _, hx => by
    simp only [List.nil_append, putS, if_pos hx]
    split <;> simp
  | y :: l, n, x, h, hx => by
    have hy : ¬ n ≤ y := fun e => by simp [e] at h
    have h2 : l.any (fun y => decide (n ≤ y)) = false := by simpa [hy] using h
    simp only [List.cons_append, putS, if_neg hy, putS_app_new l n x h2 hx]
    split <;> simp
theorem putS_none : ∀ (l : List Int) (n : Int), l.any (fun y => decide (n ≤ y)) = false → putS l n = l ++ [n]
  | [], n, _ => rfl
  | y :: l, n, h => by
    have hy : ¬ n ≤ y := fun e => by simp [e] at h
    have h2 : l.any (fun y => decide (n ≤ y)) = false := by simpa [hy] using h
    simp only [putS, if_neg hy, putS_none l n h2, List.cons_append]
def doneTo (xs : List Int) (n : Int) (k : Nat) : Bool := (xs.take k).any fun x => decide (n ≤ x)
theorem take_nth {xs : List Int} {k : Nat} (h : k < xs.length) : xs.take (k + 1) = xs.take k ++ [nth xs k] := by rw [List.take_succ_eq_append_getElem h, nth_lt h]
theorem putTo_done {xs : List Int} {n : Int} {k : Nat} (hk : k < xs.length) (h : doneTo xs n k = true) : doneTo xs n (k + 1) = true ∧ putTo xs n (k + 1) = putTo xs n k ++ [nth xs k] := by
  unfold doneTo at h
  refine ⟨by unfold doneTo; rw [take_nth hk, List.any_append, h]; rfl, ?_⟩
  unfold putTo
  rw [take_nth hk, if_pos h, if_pos (by rw [List.any_append, h]; rfl), putS_app_done _ _ _ h]
theorem putTo_wait {xs : List Int} {n : Int} {k : Nat} (hk : k < xs.length) (h : doneTo xs n k = false) (hx : ¬ n ≤ nth xs k) : doneTo xs n (k + 1) = false ∧ putTo xs n (k + 1) = putTo xs n k ++ [nth xs k] := by
  unfold doneTo at h
  have e : (xs.take k ++ [nth xs k]).any (fun x => decide (n ≤ x)) = false := by rw [List.any_append, h]; simp; omega
  refine ⟨by unfold doneTo; rw [take_nth hk]; exact e, ?_⟩
  unfold putTo
  rw [take_nth hk]
  simp only [e, h, Bool.false_eq_true, if_false]
theorem putTo_now {xs : List Int} {n : Int} {k : Nat} (hk : k < xs.length) (h : doneTo xs n k = false) (hx : n ≤ nth xs k) : doneTo xs n (k + 1) = true ∧ putTo xs n (k + 1) = (if n < nth xs k then putTo xs n k ++ [n] else putTo xs n k) ++ [nth xs k] := by
  unfold doneTo at h
  have e : (xs.take k ++ [nth xs k]).any (fun x => decide (n ≤ x)) = true := by rw [List.any_append]; simp [hx]
  refine ⟨by unfold doneTo; rw [take_nth hk]; exact e, ?_⟩
  unfold putTo
  rw [take_nth hk]
  simp only [e, h, Bool.false_eq_true, if_false, if_true, putS_app_new _ _ _ h hx]
theorem putTo_end {xs : List Int} {n : Int} : putS xs n = if doneTo xs n xs.length = true then putTo xs n xs.length else putTo xs n xs.length ++ [n] := by
  unfold putTo doneTo
  rw [List.take_length]
  split
  · rfl
  · rename_i h
    exact putS_none _ _ (by simpa using h)
theorem putTo_len (xs : List Int) (n : Int) (k : Nat) : (putTo xs n k).length ≤ k + 1 := by
  have h1 : (xs.take k).length ≤ k := by simp; omega
  unfold putTo
  split
  · have := putS_len (xs.take k) n; omega
  · omega
set_option maxHeartbeats 1000000 in
theorem sorted_c (B g c : Nat) (l : List Int) (w : World) (h : Bld 2 w B (.slice (some ⟨g, 0, none⟩) l.length c) (l.map (.int .i64))) (hl : l.length ≤ 1000) (hB : B ≤ w.heap.size) :
    Calls Tryz.prog 44 #[.slice (some ⟨g, 0, none⟩) l.length c] w (fun e w' => ∃ v F, e = .returned v ∧ Below B w w' ∧ Ow w' (dI (Lib.compact (l.mergeSort fun x y => decide (x ≤ y)))) v F ∧ F.Nodup ∧ ∀ x, x ∈ F → B ≤ x) := by
  obtain ⟨s, hs⟩ : ∃ s, s = l.mergeSort fun x y => decide (x ≤ y) := ⟨_, rfl⟩
  have hsl : s.length = l.length := by rw [hs]; exact List.length_mergeSort _
  have hlen : (Lib.compact s).length ≤ s.length := by
    rw [Lib.compact, Lib.compactUpTo, List.length_map]
    exact Nat.le_trans (List.length_filter_le _ _) (by simp)
  have hrow := h
  obtain ⟨_, h2⟩ := h
  rcases h2 with ⟨h1, _⟩ | ⟨g', cap, cur, h1, hBg, hg, hn, hcap, hsz, htake⟩
  · cases h1
  rw [List.length_map] at h1
  cases h1
  simp only [List.length_map, Nat.mul_one] at hn hsz htake
  have hgl : g < w.heap.size := (Array.getElem?_eq_some_iff.1 hg).1
  have HS := Lib.hid (AnyM.slices_Sort_int Tryz.sortL g 0 c l w (holds_of_blockI hg htake) hgl (by omega))
  have HSS : Hid (∀ n os, World.ownsRow (Sort.grow (Sort.putRow (Value.int .i64) (Sort.ahead w n) g 0 s.toArray) os) B 2 1 (.slice (some ⟨g, 0, none⟩) l.length c) l.length (s.map (.int .i64))) := Lib.hid (fun n os => ownsRow_sortedI hsl hBg hg hn hcap (by rw [hsz, Nat.mul_one]))
  have HBS : Hid (∀ n os, Below B w (Sort.grow (Sort.putRow (Value.int .i64) (Sort.ahead w n) g 0 s.toArray) os)) := Lib.hid (fun n os => (grown_chg (v := .slice (some ⟨g, 0, none⟩) l.length c) (grownBy_sortedI _)).below hB (fun x hx => by have := mem_ob.1 hx; simp [Value.ownBlock] at this; omega))
  rw [← hs] at HS ⊢
  have HSL := Lib.hid hsl
  have HLN := Lib.hid hlen
  clear hs hsl hlen htake hg hsz hrow
  go_enter Tryz.func44, Tryz.ntmps44
  go_wp2_with fail
  refine HS.out.mono ?_
  rintro e w1 ⟨rfl, n1, os1, rfl⟩
  have hr1 := HSS.out n1 os1
  have hb1 := HBS.out n1 os1
  obtain ⟨w1, hw1⟩ : ∃ wz, wz = Sort.grow (Sort.putRow (Value.int .i64) (Sort.ahead w n1) g 0 s.toArray) os1 := ⟨_, rfl⟩
  rw [← hw1] at hr1 hb1 ⊢
  clear hw1 HSS HBS
  rcases hr1.2 with ⟨h1, _⟩ | ⟨g', cap, cur1, h1, hBg1, hg1, hn1, hcap1, hsz1, htake1⟩
  · cases h1
  cases h1
  simp only [Nat.mul_one] at hsz1 htake1
  have HC := Lib.hid (AnyG.slices_Compact_int Tryz.compactL g 0 c s w1 (holds_of_blockI hg1 (by rw [HSL.out]; exact htake1)) (by have := HSL.out; omega) (by have := HSL.out; omega))
  rw [HSL.out] at HC
  have HR2 : Hid (∀ q, World.ownsRow (Sort.putRow (Value.int .i64) (Sort.ahead w1 q) g 0 (Lib.compact s ++ List.replicate (l.length - (Lib.compact s).length) 0).toArray) B 2 1 (.slice (some ⟨g, 0, none⟩) l.length c) l.length ((Lib.compact s ++ List.replicate (l.length - (Lib.compact s).length) 0).map (.int .i64))) := Lib.hid (fun q => by
    have h := ownsRow_sortedI (n := q) (os := #[]) (ss := l) (ts := Lib.compact s ++ List.replicate (l.length - (Lib.compact s).length) 0) (by have := HLN.out; have := HSL.out; simp; omega) hBg1 hg1 hn1 hcap1 (by rw [hsz1, Nat.mul_one])
    rwa [Sort.grow_empty] at h)
  have HB2 : Hid (∀ q, Below B w (Sort.putRow (Value.int .i64) (Sort.ahead w1 q) g 0 (Lib.compact s ++ List.replicate (l.length - (Lib.compact s).length) 0).toArray)) := Lib.hid (fun q => by
    have h := (grown_chg (v := .slice (some ⟨g, 0, none⟩) l.length c) (grownBy_sortedI (w := w1) (n := q) (os := #[]) (Lib.compact s ++ List.replicate (l.length - (Lib.compact s).length) 0).toArray)).below (Nat.le_trans hB hb1.size) (fun x hx => by have := mem_ob.1 hx; simp [Value.ownBlock] at this; omega)
    rw [Sort.grow_empty] at h
    exact hb1.trans h)
  clear hr1 hg1 hsz1 htake1
  go_wp2_with fail
  refine HC.out.mono ?_
  rintro e w2 ⟨rfl, q, rfl⟩
  have hr2 := HR2.out q
  have hb2 := HB2.out q
  rw [List.map_append] at hr2
  have hle : (Lib.compact s).length ≤ l.length := by have := HLN.out; have := HSL.out; omega
  have hbd : Bld 2 (Sort.putRow (Value.int .i64) (Sort.ahead w1 q) g 0 (Lib.compact s ++ List.replicate (l.length - (Lib.compact s).length) 0).toArray) B (.slice (some ⟨g, 0, none⟩) l.length c) ((Lib.compact s).map (Value.int .i64) ++ (List.replicate (l.length - (Lib.compact s).length) 0).map (Value.int .i64)) := by
    have e : ((Lib.compact s).map (Value.int .i64) ++ (List.replicate (l.length - (Lib.compact s).length) 0).map (Value.int .i64)).length = l.length := by simp; omega
    unfold Bld
    rw [e]
    exact hr2
  obtain ⟨a, c2, F, e2, ho, hnd, hF⟩ := hbd.first.ow (by unfold maxLen; omega)
  have e3 : Value.slice (some ⟨g, 0, none⟩) ((Lib.compact s).map (Value.int .i64)).length c = .slice (some ⟨g, 0, none⟩) (Lib.compact s).length c := by rw [List.length_map]
  rw [e3] at e2
  cases e2
  have HO := Lib.hid ho
  have HB3 := Lib.hid hb2
  have HF := Lib.hid hF
  clear HR2 HB2 hr2 hb2 ho hF e3 hbd hle
  go_wp2
  go_ret
  exact ⟨_, F, rfl, HB3.out, HO.out, hnd, HF.out⟩
end Go.Proofs.YtbnikblhnibgiaaGreatDoor

/- The values with which a program can halt: the program's function. Written by mkhy.py. -/
namespace Go.Proofs.YtbnikblhnibgiaaGreatDoor
open Go.RowKit

/-- 's[lo:hi]' of a list of rows of two cells. -/
theorem slice_row {P : Program} {T E : Nat} (hT : P.underlying T = some (.slice E)) (hE : (P.info? E).map (·.size) = some 2) (g n c lo hi : Nat) (hlo : lo ≤ hi) (hhi : hi ≤ c) (w' : World) :
    (Instr.slice T (.slice (some ⟨g, 0, none⟩) n c) (some (.int .i64 lo)) (some (.int .i64 hi)) none).run P w' = .ok (.slice (some ⟨g, if c = lo then 0 else lo * 2, none⟩) (hi - lo) (c - lo)) w' := by
  have hE' : ∃ info, P.info? E = some info ∧ info.size = 2 := by
    cases hh : P.info? E with
    | none => simp [hh] at hE
    | some info => exact ⟨info, rfl, by simpa [hh] using hE⟩
  obtain ⟨info, hi2, hs⟩ := hE'
  by_cases h1 : c = lo
  · have h2 : hi = lo := by omega
    subst h1 h2
    simp [Instr.slice, Instr.sliceBounds, Instr.sliceBound, run_underlying hT, asIntOf, sizeOf, typeInfo, hi2]
  · have hlc : lo < c := by omega
    simp [h1, Instr.slice, Instr.sliceBounds, Instr.sliceBound, run_underlying hT, asIntOf, sizeOf, typeInfo, hi2, hs, Addr.add_lit, hlo, hhi]
theorem rowValH {w : World} {B E k n : Nat} {v : Value} {vs : List Value} (h : w.ownsRow B E k v n vs) (hn : 0 < n) : ∃ g c, v = .slice (some ⟨g, 0, none⟩) n c := by
  rcases h.2 with ⟨_, h0⟩ | ⟨g, cap, cur, h1, _⟩
  · omega
  · exact ⟨g, cap, h1⟩
theorem rndTo_pos (os : List Ord) (regs : List Int) : ∀ n, (rndTo os regs n).2.2 = 0 → 0 < (rndTo os regs n).1.length
  | 0, _ => by simp [rndTo]
  | n + 1, h => by
    unfold rndTo at h ⊢
    split at h
    · rename_i h1
      rw [if_pos h1]
      split at h
      · rename_i h2
        rw [if_pos h2]
        obtain ⟨t, ht⟩ := expTo_pre _ _ _ _ h2
        have := rndTo_pos os regs n h1
        simp only [ht, List.length_append]; omega
      · exact absurd h (by decide)
    · exact absurd h (by decide)
theorem rnd_fall {os : List Ord} {regs : List Int} {k n fr i : Nat} {all : List Cfg} (h : rndTo os regs k = (all, fr, 0)) (hk : k < n) (hi : i ≤ all.length - fr) (h3 : (expTo os all fr i).2 = 3) : (rndTo os regs n).2.2 = 3 :=
  rndTo_fall hk (by rw [h]; exact hi) (by rw [h]; exact h3)
theorem rnd_next {os : List Ord} {regs : List Int} {k fr : Nat} {all cur : List Cfg} (h : rndTo os regs k = (all, fr, 0)) (h3 : expTo os all fr (all.length - fr) = (cur, 0)) : rndTo os regs (k + 1) = (cur, all.length, 0) := by
  have := rndTo_step (os := os) (regs := regs) (n := k) (by rw [h]) (by rw [h]; simp only; rw [h3])
  rw [h] at this
  simp only at this
  rw [h3] at this
  exact this
theorem VwC.sub {w : World} {S T : Nat → Prop} {g : Nat} {cs : List Cfg} (h : VwC w S g cs) (hs : ∀ k, S k → T k) : VwC w T g cs :=
  ⟨h.c0, fun i hi => by
    obtain ⟨a, c, h1, h2⟩ := h.c1 i hi
    exact ⟨a, c, h1, h2.move (fun _ _ _ => rfl) (fun k _ hk => hs k hk)⟩⟩
theorem halt_bad {R : Int} {os : List Ord} {regs : List Int} {steps : Int} (h : ¬ askRun R os regs steps = 0) : haltValuesS R os regs steps = ([], askRun R os regs steps) := by rw [haltValuesS, if_neg h]
theorem halt_err {R : Int} {os : List Ord} {regs : List Int} {n : Nat} (h : askRun R os regs n = 0) (h2 : (rndTo os regs n).2.2 = 3) : haltValuesS R os regs n = ([], 3) := by
  rw [haltValuesS, if_pos h, Int.toNat_natCast, if_neg (by rw [h2]; decide)]
theorem halt_fine {R : Int} {os : List Ord} {regs : List Int} {n : Nat} {all : List Cfg} {fr : Nat} (h : askRun R os regs n = 0) (h2 : rndTo os regs n = (all, fr, 0)) : haltValuesS R os regs n = (valTo os all all.length, 0) := by
  rw [haltValuesS, if_pos h, Int.toNat_natCast, h2]; rfl
set_option maxHeartbeats 8000000 in
set_option maxRecDepth 100000 in
theorem implHaltValues_d (R : Int) (os : List Ord) (regs : List Int) (steps : Int) {vo vr : Value} (w : World) (h1 : Rd Any w (dO os) vo) (h2 : Rd Any w (dI regs) vr) :
    Calls Tryz.prog 15 #[.agg #[.int .i64 R, vo], vr, .int .i64 steps] w (RetDC w (dI (haltValuesS R os regs steps).1) (haltValuesS R os regs steps).2) := by
  obtain ⟨ao, co, rfl, ho⟩ := Rd_O.1 h1
  obtain ⟨a, c, rfl, hx⟩ := Rd_I.1 h2
  obtain ⟨w0, hw0⟩ : ∃ wz, wz = w.alloc (.cells #[.int .i64 R, .slice ao os.length co] 26) := ⟨_, rfl⟩
  have hb0 : Below w.heap.size w w0 := by rw [hw0]; exact below_alloc _ _
  have hz0 : w0.heap.size = w.heap.size + 1 := by rw [hw0]; simp
  have p0 : w0.cell? ⟨w.heap.size, 0, none⟩ = some (.int .i64 R) := by rw [hw0]; simp [go_sem]
  have p1 : w0.cell? ⟨w.heap.size, 1, none⟩ = some (.slice ao os.length co) := by rw [hw0]; simp [go_sem]
  have HC := Lib.hid (regsCode_c R os steps ao co a c regs w0 (ho.below hb0) (hx.below hb0))
  have HP : Hid (∀ wx, Below w0.heap.size w0 wx → SlO Any wx ao os ∧ SlI Any wx a regs ∧ wx.cell? ⟨w.heap.size, 0, none⟩ = some (.int .i64 R) ∧ wx.cell? ⟨w.heap.size, 1, none⟩ = some (.slice ao os.length co)) := Lib.hid (fun wx hb => ⟨(ho.below hb0).below hb, (hx.below hb0).below hb, (bcell1 hb (by omega)).trans p0, (bcell1 hb (by omega)).trans p1⟩)
  have HB0 := Lib.hid hb0
  have HW0 := Lib.hid hw0
  have HZ0 := Lib.hid hz0
  clear h1 h2 ho hx hb0 hw0 hz0 p0 p1
  by_cases hask : askRun R os regs steps = 0
  rotate_left
  · have HR := Lib.hid (halt_bad hask)
    obtain ⟨code, hcd⟩ : ∃ x, x = askRun R os regs steps := ⟨_, rfl⟩
    rw [← hcd] at HC HR hask
    have hne : (code != 0) = true := by simpa using hask
    clear hask hcd
    go_enter Tryz.func15, Tryz.ntmps15
    go_wp2_with fail
    rw [← HW0.out]
    refine HC.out.mono ?_
    rintro e w1 ⟨rfl, hb1⟩
    have HB1 := Lib.hid (HB0.out.trans (hb1.mono (by have := HZ0.out; omega)))
    clear hb1
    go_wp2
    go_ret2
    rw [HR.out]
    exact RetDC.none _ _ _ HB1.out
  · obtain ⟨hvp, hrg, hs0, hs1⟩ := askRun_ok hask
    obtain ⟨n, rfl⟩ : ∃ n : Nat, steps = n := ⟨steps.toNat, by omega⟩
    have hn : n ≤ 200 := by omega
    have hR : 1 ≤ R ∧ R ≤ 3 := by simp [validProgS, inRg] at hvp; omega
    have hlr : (regs.length : Int) = R := (regsOk_ok hrg).1
    rw [hask] at HC
    obtain ⟨_, g0, o0, rfl⟩ : Any (blk a) ∧ ∃ g o, a = some ⟨g, o, none⟩ := (HP.out _ (Below.refl _ _)).2.1.ptr (by omega)
    obtain ⟨ad, had⟩ : ∃ ad : Addr, ad = ⟨g0, o0, none⟩ := ⟨_, rfl⟩
    rw [← had] at HC HP ⊢
    have HCL := Lib.hid (fun wx hb => clone_c Any ad c regs wx (HP.out wx hb).2.1 (by omega))
    have HASK := Lib.hid hask
    have HVP := Lib.hid hvp
    have HRG := Lib.hid hrg
    have HLR := Lib.hid hlr
    have HR1 := Lib.hid hR
    have HRK : Hid (∀ k, RndOk R os (rndTo os regs k)) := Lib.hid (fun k => rndTo_ok hvp hrg k)
    have HERR : Hid (∀ (a : Option Addr) (c : Nat) (w' : World), (rndTo os regs n).2.2 = 3 → Below w.heap.size w w' → RetDC w (dI (haltValuesS R os regs n).1) (haltValuesS R os regs n).2 (.returned (.tuple #[.slice a 0 c, .int .i64 3])) w') := Lib.hid (fun a c w' h hb => by rw [halt_err hask h]; exact RetDC.none _ _ _ hb)
    clear had hask hvp hrg hlr hR hs0 hs1
    go_enter Tryz.func15, Tryz.ntmps15
    go_wp2_with fail
    rw [← HW0.out]
    refine HC.out.mono ?_
    rintro e w1 ⟨rfl, hb1⟩
    have HB1 := Lib.hid hb1
    clear hb1
    go_wp2_with fail
    obtain ⟨wf, hwf⟩ : ∃ wz, wz = w1.alloc (.cells #[.func (.func 38) #[] #[]] 40) := ⟨_, rfl⟩
    rw [← hwf]
    have hbf : Below w1.heap.size w1 wf := by rw [hwf]; exact below_alloc _ _
    have f0 : wf.cell? ⟨w1.heap.size, 0, none⟩ = some (.func (.func 38) #[] #[]) := by rw [hwf]; simp [go_sem]
    have hzf : w1.heap.size < wf.heap.size := by rw [hwf]; simp
    have HBF := Lib.hid (bnext HB1.out hbf (Nat.le_refl _))
    clear hwf hbf
    refine (HCL.out wf HBF.out).mono ?_
    rintro e w2 ⟨v2, F2, rfl, hb2, ho2, hn2, hF2⟩
    obtain ⟨a2, c2, rfl⟩ := ho2.val
    have f2 := (bcell1 hb2 hzf).trans f0
    have hzf2 : w1.heap.size < w2.heap.size := Nat.lt_of_lt_of_le hzf hb2.size
    have HB2 := Lib.hid (bnext HBF.out hb2 (Nat.le_refl _))
    have HCF := Lib.hid (CfR.one (E := 35) (w := w2) (B := w2.heap.size) ⟨0, regs⟩ a2 c2 ho2.arg (Nat.le_refl _))
    have hz2 : w0.heap.size ≤ w2.heap.size := HB2.out.size
    have hbp : w.heap.size < w2.heap.size := by have := HZ0.out; omega
    have HBW : Hid (Below w.heap.size w w2) := Lib.hid (HB0.out.trans (HB2.out.mono (by have := HZ0.out; omega)))
    clear hb2 ho2 hn2 hF2 f0 hzf HCL
    go_wp2
    go_loopw [10, 11, 12] (fun v i11 i12 wr => ∃ (k fr : Nat) (all : List Cfg), k ≤ n ∧ i12 = .int .i64 k ∧ i11 = .int .i64 fr ∧ Hid (rndTo os regs k = (all, fr, 0)) ∧ Hid (Below w2.heap.size w2 wr) ∧ Hid (CfR 35 wr w2.heap.size v all)) (fun _ _ i12 _ => n - (intOf i12).toNat)
    case atStart => exact ⟨0, 0, [⟨0, regs⟩], Nat.zero_le _, rfl, rfl, Lib.hid rfl, Lib.hid (below_alloc _ _), HCF⟩
    case round =>
      obtain ⟨k, fr, all, hk, rfl, rfl, HRD, HBR, HCR⟩ := hrel
      obtain ⟨wo, hwo⟩ : ∃ z, z = wr := ⟨_, rfl⟩
      subst hwo
      have hrk := HRK.out k
      rw [HRD.out] at hrk
      have hfr : fr ≤ all.length := hrk.fr
      have h200 : all.length ≤ 200 := hrk.len
      have hpos : 0 < all.length := by have h := rndTo_pos os regs k (by rw [HRD.out]); rw [HRD.out] at h; exact h
      have HALL := Lib.hid hrk.ok
      obtain ⟨ga, ca, hva, hca⟩ := HCR.out.val hpos
      subst hva
      clear hrk
      by_cases hkn : k < n
      · have hkn2 : (k : Int) < n := by omega
        obtain ⟨m, hm⟩ : ∃ m, m = all.length - fr := ⟨_, rfl⟩
        obtain ⟨oS, hoS⟩ : ∃ x, x = if ca = fr then 0 else fr * 2 := ⟨_, rfl⟩
        obtain ⟨cS, hcS⟩ : ∃ x, x = ca - fr := ⟨_, rfl⟩
        have hsl : ∀ w', (Instr.slice 41 (.slice (some ⟨ga, 0, none⟩) all.length ca) (some (.int .i64 fr)) (some (.int .i64 all.length)) none).run Tryz.prog w' = .ok (.slice (some ⟨ga, oS, none⟩) m cS) w' := fun w' => by
          rw [slice_row tabConfigSM.under tabConfigSM.size ga all.length ca fr all.length hfr hca w', hm, hoS, hcS]
        have i1 := ix_of (P := Tryz.prog) tabConfigSM.under tabConfigSM.size (a := some ⟨ga, oS, none⟩) (n := m) (fun _ => ⟨ga, _, rfl⟩) cS
        have HIX : Hid (∀ (i : Nat) w', i < m → (Instr.indexAt 41 (.slice (some ⟨ga, oS, none⟩) m cS) (.int .i64 i)).run Tryz.prog w' = .ok (.pointer (some ⟨ga, (fr + i) * 2, none⟩)) w') := Lib.hid (fun i w' hi => by
          have h := i1 (i : Int) w' (by omega) (by omega)
          simp only [adr, blk, ofs, Int.toNat_natCast] at h
          rw [h, hoS, if_neg (by omega), Nat.add_mul])
        clear hoS hcS
        have HVW : Hid (VwC wo (fun x => x ∉ ob (.slice (some ⟨ga, 0, none⟩) all.length ca)) ga all) := Lib.hid (by
          have h := HCR.out.vw
          exact ⟨h.c0, fun i hi => by
            obtain ⟨a, c, h1, h2⟩ := h.c1 i hi
            exact ⟨a, c, h1, h2.move (fun _ _ _ => rfl) (fun k _ hk e => hk (by have := mem_ob.1 e; simpa [Value.ownBlock, eq_comm] using this))⟩⟩)
        have hm200 : m ≤ 200 := by omega
        have HM := Lib.hid hm
        clear i1 hm
        go_wp2
        go_loopw [10, 46] (fun v i46 wr => ∃ (i : Nat) (cur : List Cfg), i ≤ m ∧ i46 = .int .i64 i ∧ Hid (expTo os all fr i = (cur, 0)) ∧ Hid (Below w2.heap.size w2 wr) ∧ Hid (CfR 35 wr w2.heap.size v cur) ∧ Hid (VwC wr (fun x => x ∉ ob v) ga all)) (fun _ i46 _ => m - (intOf i46).toNat)
        case atStart => exact ⟨0, all, Nat.zero_le _, rfl, Lib.hid rfl, HBR, HCR, HVW⟩
        case round =>
          obtain ⟨i, cur, him, rfl, HEX, HBQ, HCQ, HVQ⟩ := hrel
          obtain ⟨wq, hwq⟩ : ∃ z, z = wr := ⟨_, rfl⟩
          subst hwq
          have hcl200 : cur.length ≤ 200 := by have h := expTo_len os all fr h200 i; rw [HEX.out] at h; exact h
          have hcpos : 0 < cur.length := by
            obtain ⟨t, ht⟩ := expTo_pre os all fr i (by rw [HEX.out])
            rw [HEX.out] at ht
            simp only at ht
            rw [ht, List.length_append]; omega
          have HAL : Hid (all.length ≤ cur.length) := Lib.hid (by
            obtain ⟨t, ht⟩ := expTo_pre os all fr i (by rw [HEX.out])
            rw [HEX.out] at ht
            simp only at ht
            rw [ht, List.length_append]; omega)
          by_cases hi : i < m
          · have hi2 : (i : Int) < m := by omega
            have i2 := fun w' => HIX.out i w' hi
            have hfi : fr + i < all.length := by have := HM.out; omega
            have d0 := HVQ.out.c0 (fr + i) hfi
            obtain ⟨ac, nc, d1, hds⟩ := HVQ.out.c1 (fr + i) hfi
            have hcf := HALL.out.at hfi
            have HLS : Hid ((nextS os (nthCfg all (fr + i)).pc (nthCfg all (fr + i)).regs).1.length ≤ 2) := Lib.hid (nextS_small _ _ _).1
            have HEB : Hid ((nextS os (nthCfg all (fr + i)).pc (nthCfg all (fr + i)).regs).2 = 3 → (rndTo os regs n).2.2 = 3) := Lib.hid (fun h => rnd_fall (i := i + 1) HRD.out hkn (by have := HM.out; omega) (expTo_stuck (by rw [h]; decide)))
            have HEM : Hid (200 < (addTo cur (nextS os (nthCfg all (fr + i)).pc (nthCfg all (fr + i)).regs).1 (nextS os (nthCfg all (fr + i)).pc (nthCfg all (fr + i)).regs).1.length).length → (rndTo os regs n).2.2 = 3) := Lib.hid (fun h => rnd_fall (i := i + 1) HRD.out hkn (by have := HM.out; omega) (expTo_many (by rw [HEX.out]; exact h)))
            have HES : Hid ((nextS os (nthCfg all (fr + i)).pc (nthCfg all (fr + i)).regs).2 = 0 → ¬ 200 < (addTo cur (nextS os (nthCfg all (fr + i)).pc (nthCfg all (fr + i)).regs).1 (nextS os (nthCfg all (fr + i)).pc (nthCfg all (fr + i)).regs).1.length).length → expTo os all fr (i + 1) = (addTo cur (nextS os (nthCfg all (fr + i)).pc (nthCfg all (fr + i)).regs).1 (nextS os (nthCfg all (fr + i)).pc (nthCfg all (fr + i)).regs).1.length, 0)) := Lib.hid (fun h h2 => by
              have h3 := expTo_step (os := os) (all := all) (fr := fr) (i := i) (by rw [HEX.out]) h (by rw [HEX.out]; exact h2)
              rw [HEX.out] at h3; exact h3)
            obtain ⟨cc, hcc⟩ : ∃ x, x = nthCfg all (fr + i) := ⟨_, rfl⟩
            rw [← hcc] at d0 d1 hds hcf HLS HEB HEM HES
            clear hcc
            have HBP : Hid (Below w0.heap.size w0 wq) := Lib.hid (bnext HB2.out HBQ.out (Nat.le_refl _))
            obtain ⟨ho, _, pp0, pp1⟩ := HP.out wq HBP.out
            have hz2q : w2.heap.size ≤ wq.heap.size := HBQ.out.size
            have hpl : w.heap.size < wq.heap.size := by omega
            have k0 := fun ob => (bcell1 (i := 0) (below_alloc wq ob) hpl).trans pp0
            have k1 := fun ob => (bcell1 (i := 1) (below_alloc wq ob) hpl).trans pp1
            have HNX := Lib.hid (next_c R ao co os cc.pc ac nc cc.regs (wq.alloc (.cells #[.int .i64 cc.pc, .slice ac cc.regs.length nc] 35)) (ho.below (below_alloc _ _)) (hds.below (below_alloc _ _)).any HVP.out hcf)
            clear ho hds hcf pp0 pp1
            go_wp2_with fail
            refine HNX.out.mono ?_
            rintro e w5 ⟨v5, F5, rfl, hb5, ho5, hn5, hF5⟩
            obtain ⟨L, hL⟩ : ∃ L, L = (nextS os cc.pc cc.regs).1 := ⟨_, rfl⟩
            rw [← hL] at HLS HEM HES ho5
            obtain ⟨al, cl, rfl, hcl⟩ := Rd_CS (Ow.rd _ _ _ ho5)
            have hb5q : Below wq.heap.size wq w5 := bnext (below_alloc wq _) hb5 (Nat.le_refl _)
            have HB5 : Hid (Below w2.heap.size w2 w5) := Lib.hid (bnext HBQ.out hb5q (Nat.le_refl _))
            have HC5 := Lib.hid (HCQ.out.below hb5q)
            have HV5 := Lib.hid (HVQ.out.below hb5q)
            have HF5 : Hid (∀ g, g ∈ F5 → wq.heap.size < g ∧ g < w5.heap.size) := Lib.hid (fun g hg => ⟨by have := hF5 g hg; (try simp at this); omega, Ow.lt _ _ _ ho5 g hg⟩)
            have HO5 := Lib.hid ho5
            have hL2 : L.length ≤ 2 := HLS.out
            clear hb5 hb5q ho5 hn5 hF5 hcl HNX hL k0 k1 d0 d1
            rcases nextS_code os cc.pc cc.regs with e0 | ⟨_, e3⟩
            rotate_left
            · have HE3 := Lib.hid (HEB.out e3)
              have b5 : ((nextS os cc.pc cc.regs).2 != 0) = true := by rw [e3]; rfl
              rw [e3]
              clear HEB HEM HES b5 e3
              go_wp2
              go_ret2
              exact HERR.out _ _ _ HE3.out (bnext HBW.out HB5.out (Nat.le_refl _))
            · have HE0 := Lib.hid e0
              rw [e0]
              clear e0
              go_wp2
              go_loopw [10, 61] (fun v i61 wr => ∃ (j : Nat) (cu : List Cfg), j ≤ L.length ∧ i61 = .int .i64 j ∧ Hid (cu = addTo cur L j) ∧ Hid (Below w2.heap.size w2 wr) ∧ Hid (CfR 35 wr w2.heap.size v cu) ∧ Hid (VwC wr (fun x => x ∉ ob v) ga all) ∧ Hid (Ow wr (dCS L) (.slice al L.length cl) F5) ∧ Hid (∀ g, g ∈ F5 → g ∉ ob v) ∧ Hid (w5.heap.size ≤ wr.heap.size)) (fun _ i61 _ => L.length - (intOf i61).toNat)
              case atStart => exact ⟨0, cur, Nat.zero_le _, rfl, Lib.hid rfl, HB5, HC5, HV5, HO5, Lib.hid (fun g hg e => by have := (HF5.out g hg).1; have := (HCQ.out.lt g e).2; omega), Lib.hid (Nat.le_refl _)⟩
              case round =>
                obtain ⟨j, cu, hj, rfl, HCU, HBZ, HCZ, HVZ, HOZ, HFZ, HZZ⟩ := hrel
                obtain ⟨wz, hwz⟩ : ∃ z, z = wr := ⟨_, rfl⟩
                subst hwz
                have hcu : cu.length ≤ 202 := by rw [HCU.out]; have := addTo_len cur L j; omega
                have hcuc : cur.length ≤ cu.length := by
                  obtain ⟨t, ht⟩ := addTo_pre cur L j
                  rw [HCU.out, ht, List.length_append]; omega
                have hcup : 0 < cu.length := by
                  obtain ⟨t, ht⟩ := addTo_pre cur L j
                  rw [HCU.out, ht, List.length_append]; omega
                obtain ⟨gc, cc2, hvc, _⟩ := HCZ.out.val hcup
                subst hvc
                by_cases hjl : j < L.length
                · have hj2 : (j : Int) < L.length := by omega
                  obtain ⟨_, _, ev, hcs⟩ := Rd_CS (Ow.rd _ _ _ HOZ.out)
                  cases ev
                  have i4 := ix_of (P := Tryz.prog) tabConfigSM.under tabConfigSM.size (a := al) (n := L.length) (fun h => hcs.ptr h) cl
                  have i5 := fun w' => i4 (j : Int) w' (by omega) hj2
                  simp only [Int.toNat_natCast] at i5
                  have d0 := hcs.c0 j hjl
                  obtain ⟨ad2, nd, d1, hds⟩ := hcs.c1 j hjl
                  obtain ⟨d, hd⟩ : ∃ d, d = nthCfg L j := ⟨_, rfl⟩
                  rw [← hd] at d0 d1 hds
                  have HDD := Lib.hid hd
                  obtain ⟨wb, hwb⟩ : ∃ wz2, wz2 = wz.alloc (.cells #[.int .i64 d.pc, .slice ad2 d.regs.length nd] 35) := ⟨_, rfl⟩
                  have hbb : Below wz.heap.size wz wb := by rw [hwb]; exact below_alloc _ _
                  have q0 : wb.cell? ⟨wz.heap.size, 0, none⟩ = some (.int .i64 d.pc) := by rw [hwb]; simp [go_sem]
                  have q1 : wb.cell? ⟨wz.heap.size, 1, none⟩ = some (.slice ad2 d.regs.length nd) := by rw [hwb]; simp [go_sem]
                  have hzb : wz.heap.size < wb.heap.size := by rw [hwb]; simp
                  have HSD : Hid (SlI (fun x => x ∉ ob (.slice (some ⟨gc, 0, none⟩) cu.length cc2)) wz ad2 d.regs) := Lib.hid (hds.move (fun _ _ _ => rfl) (fun k _ hk => HFZ.out k hk))
                  have f3 := (bcell1 hbb (by have := HBZ.out.size; omega)).trans ((bcell1 HBZ.out hzf2).trans f2)
                  have HCT := Lib.hid (containsFuncC_c 42 #[.pointer (some ⟨w1.heap.size, 0, none⟩), .pointer (some ⟨wz.heap.size, 0, none⟩)] (fun x => eqC x d) (callFunc_run Tryz.func42 (by kernel_rfl) rfl) _ gc cc2 cu wb (HCZ.out.below hbb).vw (by omega)
                    (Lib.hid fun w' i a n hi hb hs => foundC_c _ _ (nthCfg cu i) d a ad2 n nd w1.heap.size wz.heap.size w' hs ((HSD.out.below hbb).below hb) ((bcell1 hb (World.block_lt_of_cell? wb _ f3)).trans f3) ((bcell1 hb hzb).trans q0) ((bcell1 hb hzb).trans q1)))
                  have HWB := Lib.hid hwb
                  have HBB := Lib.hid hbb
                  clear hwb hbb hd hds hcs i4 f3
                  go_wp2_with fail
                  rw [← HWB.out]
                  refine HCT.out.mono ?_
                  rintro e w6 ⟨rfl, hb6⟩
                  have hbz6 : Below wz.heap.size wz w6 := bnext HBB.out hb6 (Nat.le_refl _)
                  have HB6 : Hid (Below w2.heap.size w2 w6) := Lib.hid (bnext HBZ.out hbz6 (Nat.le_refl _))
                  have HC6 := Lib.hid (HCZ.out.below hbz6)
                  have HV6 := Lib.hid (HVZ.out.below hbz6)
                  have HO6 := Lib.hid (HOZ.out.below hbz6)
                  have HS6 := Lib.hid (HSD.out.below hbz6)
                  have HZ6 : Hid (w5.heap.size ≤ w6.heap.size) := Lib.hid (Nat.le_trans HZZ.out hbz6.size)
                  have r0 := (bcell1 hb6 hzb).trans q0
                  have r1 := (bcell1 hb6 hzb).trans q1
                  clear hbz6 hb6 q0 q1 HCT d0 d1
                  cases hh : cu.any (fun x => eqC x d)
                  · have HAD : Hid (cu ++ [d] = addTo cur L (j + 1)) := Lib.hid (by rw [addTo, ← HCU.out, ← HDD.out, addC, hasC, hh]; rfl)
                    clear hh
                    go_wp2_with (at_builtin; refine app_cfr rfl _ _ 41 rfl tabConfigSM rfl (by decide) w2.heap.size _ cu rfl (HC6.out.below (below_alloc _ _)) w6.heap.size d ad2 nd rfl (by simp [go_sem]) (by simp [go_sem]) (HS6.out.below (below_alloc _ _)) (by omega) (by have := HB6.out.size; simp; omega) ?_)
                    intro v7 w7 hN
                    have HC7 := Lib.hid hN.row
                    rw [HAD.out] at HC7
                    have HB7 : Hid (Below w2.heap.size w2 w7) := Lib.hid ((HB6.out.alloc HB6.out.size _).trans (hN.chg.below (by have := HB6.out.size; simp; omega) (fun g hg => (HC6.out.lt g hg).1)))
                    have HV7 : Hid (VwC w7 (fun x => x ∉ ob v7) ga all) := Lib.hid (hN.vw (HV6.out.below (below_alloc _ _)) (Nat.le_trans HAL.out hcuc))
                    have HO7 : Hid (Ow w7 (dCS L) (.slice al L.length cl) F5) := Lib.hid (hN.chg.ow (HO6.out.below (below_alloc _ _)) HFZ.out)
                    have HF7 : Hid (∀ g, g ∈ F5 → g ∉ ob v7) := Lib.hid (fun g hg e => by
                      rcases hN.mem g e with h | h
                      · exact HFZ.out g hg h
                      · have h1 := (HF5.out g hg).2
                        have h2 := HZ6.out
                        simp at h
                        omega)
                    have HZ7 : Hid (w5.heap.size ≤ w7.heap.size) := Lib.hid (by have := hN.chg.size; simp at this; have := HZ6.out; omega)
                    clear hN
                    go_wp2
                    go_roundw
                    case rel => first | exact ⟨j + 1, _, by omega, by go_num, Lib.hid rfl, HB7, HC7, HV7, HO7, HF7, HZ7⟩ | ((repeat apply Exists.intro); refine ⟨?_, rfl⟩; exact ⟨j + 1, _, by omega, by go_num, Lib.hid rfl, HB7, HC7, HV7, HO7, HF7, HZ7⟩)
                    case measure => simp [intOf]; omega
                  · have HAD : Hid (cu = addTo cur L (j + 1)) := Lib.hid (by rw [addTo, ← HCU.out, ← HDD.out, addC, hasC, hh]; rfl)
                    clear hh
                    go_wp2
                    go_roundw
                    case rel => first | exact ⟨j + 1, cu, by omega, by go_num, HAD, HB6, HC6, HV6, HO6, HFZ, HZ6⟩ | ((repeat apply Exists.intro); refine ⟨?_, rfl⟩; exact ⟨j + 1, cu, by omega, by go_num, HAD, HB6, HC6, HV6, HO6, HFZ, HZ6⟩)
                    case measure => simp [intOf]; omega
                · obtain rfl : j = L.length := by omega
                  by_cases h3 : 200 < cu.length
                  · have HE3 := Lib.hid (HEM.out (by rw [← HCU.out]; exact h3))
                    have b6 : (200 : Int) < cu.length := by omega
                    go_wp2
                    go_ret2
                    exact HERR.out _ _ _ HE3.out (bnext HBW.out HBZ.out (Nat.le_refl _))
                  · have HE4 : Hid (expTo os all fr (i + 1) = (cu, 0)) := Lib.hid (by
                      have h := HES.out HE0.out (by rw [← HCU.out]; exact h3)
                      rw [← HCU.out] at h; exact h)
                    have b6 : (cu.length : Int) ≤ 200 := by omega
                    go_wp2
                    go_roundw
                    case rel => first | exact ⟨i + 1, cu, by omega, by go_num, HE4, HBZ, HCZ, HVZ⟩ | ((repeat apply Exists.intro); refine ⟨?_, rfl⟩; exact ⟨i + 1, cu, by omega, by go_num, HE4, HBZ, HCZ, HVZ⟩)
                    case measure => simp [intOf]; omega
          · obtain rfl : i = m := by omega
            have HRN : Hid (rndTo os regs (k + 1) = (cur, all.length, 0)) := Lib.hid (rnd_next HRD.out (by rw [← HM.out]; exact HEX.out))
            go_wp2
            go_roundw
            case rel => first | exact ⟨k + 1, all.length, cur, by omega, by go_num, rfl, HRN, HBQ, HCQ⟩ | ((repeat apply Exists.intro); refine ⟨?_, rfl⟩; exact ⟨k + 1, all.length, cur, by omega, by go_num, rfl, HRN, HBQ, HCQ⟩)
            case measure => simp [intOf]; omega
      · obtain rfl : k = n := by omega
        have HRES := Lib.hid (halt_fine HASK.out HRD.out)
        have HVA := Lib.hid HCR.out.vw
        have i1 := ix_of (P := Tryz.prog) tabConfigSM.under tabConfigSM.size (a := some ⟨ga, 0, none⟩) (n := all.length) (fun _ => ⟨ga, _, rfl⟩) ca
        simp only [adr, blk, ofs, Nat.zero_add] at i1
        have hpl : w.heap.size < wo.heap.size := by have := HBR.out.size; omega
        have HBP : Hid (Below w0.heap.size w0 wo) := Lib.hid (bnext HB2.out HBR.out (Nat.le_refl _))
        have HBO : Hid (Below w.heap.size w wo) := Lib.hid (bnext HBW.out HBR.out (Nat.le_refl _))
        clear HERR HRK
        go_wp2
        go_loopw [20, 82] (fun vo i82 wr => ∃ (i : Nat), i ≤ all.length ∧ i82 = .int .i64 i ∧ Hid (Below wo.heap.size wo wr) ∧ Hid (Bld 2 wr wo.heap.size vo ((rawTo os all i).map (.int .i64))) ∧ Hid (∃ g c, vo = .slice (some ⟨g, 0, none⟩) (rawTo os all i).length c)) (fun _ i82 _ => all.length - (intOf i82).toNat)
        case atStart => exact ⟨0, Nat.zero_le _, rfl, Lib.hid (below_alloc _ _), Lib.hid (Bld.empty 2 wo wo.heap.size (Nat.le_refl _)), Lib.hid ⟨_, _, rfl⟩⟩
        case round =>
          obtain ⟨i, hi, rfl, HBX, HBL, HSO⟩ := hrel
          obtain ⟨wx, hwx⟩ : ∃ z, z = wr := ⟨_, rfl⟩
          subst hwx
          have hrl := rawTo_len os all i
          by_cases hil : i < all.length
          · have hil2 : (i : Int) < all.length := by omega
            have i2 := fun w' => i1 (i : Int) w' (by omega) hil2
            simp only [Int.toNat_natCast] at i2
            have hvx := HVA.out.below HBX.out
            have d0 := hvx.c0 i hil
            obtain ⟨ac, nc, d1, hds⟩ := hvx.c1 i hil
            have hcf := HALL.out.at hil
            obtain ⟨cc, hcc⟩ : ∃ x, x = nthCfg all i := ⟨_, rfl⟩
            rw [← hcc] at d0 d1 hds hcf
            have HCC := Lib.hid hcc
            have hP : 0 ≤ cc.pc ∧ cc.pc ≤ os.length := by simp [confOk, inRg] at hcf; omega
            have hrr := (regsOk_ok (R := R) (regs := cc.regs) (by simp only [confOk, Bool.and_eq_true] at hcf; exact hcf.2)).1
            have hr0 : 0 < cc.regs.length := by have := HR1.out; omega
            have hr1 : (0 : Int) < cc.regs.length := by omega
            obtain ⟨ho, _, pp0, pp1⟩ := HP.out wx (bnext HBP.out HBX.out (Nat.le_refl _))
            have hpx : w.heap.size < wx.heap.size := by have := HBX.out.size; omega
            have k0 := fun ob => (bcell1 (i := 0) (below_alloc wx ob) hpx).trans pp0
            have k1 := fun ob => (bcell1 (i := 1) (below_alloc wx ob) hpx).trans pp1
            have g1 := hds.cell 0 hr0
            have i3 := fun w' => hds.ix tabI.under tabI.size nc 0 w' (by omega) (by omega)
            simp only [show ((0 : Int)).toNat = 0 from rfl] at i3
            obtain ⟨wb, hwb⟩ : ∃ wz2, wz2 = wx.alloc (.cells #[.int .i64 cc.pc, .slice ac cc.regs.length nc] 35) := ⟨_, rfl⟩
            have hbb : Below wx.heap.size wx wb := by rw [hwb]; exact below_alloc _ _
            have q1 : wb.cell? ⟨wx.heap.size, 1, none⟩ = some (.slice ac cc.regs.length nc) := by rw [hwb]; simp [go_sem]
            have hzb : wx.heap.size < wb.heap.size := by rw [hwb]; simp
            have HHA := Lib.hid (halts_c R ao co os cc.pc (.slice ac cc.regs.length nc) wb (ho.below hbb) hP.1 hP.2)
            have gb := (hbb.cell (World.block_lt_of_cell? wx _ g1)).trans g1
            have HWB := Lib.hid hwb
            have HBB := Lib.hid hbb
            clear hwb hbb hcc hcf hrr ho pp0 pp1 hvx hds g1 hP
            go_wp2_with fail
            rw [← HWB.out]
            refine HHA.out.mono ?_
            rintro e w6 ⟨rfl, hb6⟩
            have HB6 : Hid (Below wo.heap.size wo w6) := Lib.hid (bnext HBX.out (bnext HBB.out hb6 (Nat.le_refl _)) (Nat.le_refl _))
            have HL6 := Lib.hid (HBL.out.below (bnext HBB.out hb6 (Nat.le_refl _)))
            have r1 := (bcell1 hb6 hzb).trans q1
            have r2 := (hb6.cell (World.block_lt_of_cell? wb _ gb)).trans gb
            clear hb6 q1 gb HHA
            cases hh : haltS os cc.pc
            · have HRT : Hid (rawTo os all (i + 1) = rawTo os all i) := Lib.hid (by rw [rawTo, ← HCC.out, hh]; rfl)
              have HL7 := HL6
              rw [← HRT.out] at HL7
              have HS7 := HSO
              rw [← HRT.out] at HS7
              clear hh
              go_wp2
              go_roundw
              case rel => first | exact ⟨i + 1, by omega, by go_num, HB6, HL7, HS7⟩ | ((repeat apply Exists.intro); refine ⟨?_, rfl⟩; exact ⟨i + 1, by omega, by go_num, HB6, HL7, HS7⟩)
              case measure => simp [intOf]; omega
            · have HRT : Hid (rawTo os all (i + 1) = rawTo os all i ++ [nth cc.regs 0]) := Lib.hid (by rw [rawTo, ← HCC.out, if_pos hh])
              clear hh
              obtain ⟨raw, hraw⟩ : ∃ r, r = rawTo os all i := ⟨_, rfl⟩
              rw [← hraw] at HL6 HRT hrl
              have hr200 : raw.length ≤ 200 := by omega
              go_wp2_with (at_builtin; refine app_one rfl _ _ 27 rfl tabI rfl (by decide) wo.heap.size _ (raw.map (.int .i64)) rfl (HL6.out.below (below_alloc _ _)) _ (.int .i64 (nth cc.regs 0)) rfl rfl (by simp [go_sem]) (by simp; omega) (by have := HB6.out.size; simp; omega) ?_)
              intro v7 w7 hbl7 hb7
              have hbl8 : Bld 2 w7 wo.heap.size v7 ((raw ++ [nth cc.regs 0]).map (.int .i64)) := by
                have h := hbl7
                rw [← hraw] at h
                simpa using h
              obtain ⟨g7, c7, hv7⟩ := rowValH (n := (raw ++ [nth cc.regs 0]).length) (vs := (raw ++ [nth cc.regs 0]).map (.int .i64)) (by have h := hbl8; unfold Bld at h; simpa using h) (by simp)
              have HB7 : Hid (Below wo.heap.size wo w7) := Lib.hid ((HB6.out.alloc HB6.out.size _).trans hb7)
              have HL7 := Lib.hid hbl8
              rw [← HRT.out] at HL7 hv7
              have HS7 : Hid (∃ g c, v7 = .slice (some ⟨g, 0, none⟩) (rawTo os all (i + 1)).length c) := Lib.hid ⟨g7, c7, hv7⟩
              clear hbl7 hb7 hbl8 hv7 hraw
              go_wp2
              go_roundw
              case rel => first | exact ⟨i + 1, by omega, by go_num, HB7, HL7, HS7⟩ | ((repeat apply Exists.intro); refine ⟨?_, rfl⟩; exact ⟨i + 1, by omega, by go_num, HB7, HL7, HS7⟩)
              case measure => simp [intOf]; omega
          · obtain rfl : i = all.length := by omega
            obtain ⟨gs, csl, hvs⟩ := HSO.out
            subst hvs
            have HST := Lib.hid (sorted_c wo.heap.size gs csl (rawTo os all all.length) wx HBL.out (by omega) HBX.out.size)
            go_wp2_with fail
            refine HST.out.mono ?_
            rintro e w7 ⟨v7, F7, rfl, hb7, ho7, hn7, hF7⟩
            have HB7 : Hid (Below w.heap.size w w7) := Lib.hid (bnext HBO.out (HBX.out.trans hb7) (Nat.le_refl _))
            have HO7 := Lib.hid ho7
            have HF7 := Lib.hid hF7
            have hzo := HBO.out.size
            clear hb7 ho7 hF7
            go_wp2
            go_ret2
            rw [HRES.out]
            exact ⟨v7, F7, rfl, HB7.out, by rw [← sorted_vals]; exact HO7.out, hn7, fun g hg => by have := HF7.out g hg; omega⟩
end Go.Proofs.YtbnikblhnibgiaaGreatDoor

/- The frame of a law's statement over a row that lists variables: if the call returns true and leaves the old memory alone, the statement holds; the card. -/
namespace Go.Proofs.YtbnikblhnibgiaaGreatDoor
open Go.ChangeShapes Go.WideShapes Go.ChangeAt Go.RowKit

set_option maxRecDepth 100000 in
theorem liftLaid {F : FuncId} {fn : Func} {s : ChangeSpec} {tb : TypeId} {lst : List (String × DataW Unit)} (hfn : Tryz.checked.prog.funcs[F]? = some fn) (noInit : Tryz.checked.prog.inits.idxOf? F = none)
    (hv : s.vars = []) (hres : fn.resultTypes = #[tb]) (htb : Tryz.prog.underlying tb = some .bool)
    (hrd : fn.params.toList.all (fun t => Tryz.prog.readableRec t && decide (t < Tryz.prog.types.size)) = true)
    {H : Type} {enc : TypeId × Value → H} (hs : ∀ ds, ds.length = fn.params.toList.length → s.fn H (ds ++ []) = { results := [.lit (.bool true)], args := ds })
    {os : Os} (started : os.Started)
    (witness : ∃ (w : World) (tape : Tape) (i : Input), w.os = os ∧ (w.forCall tape i).Shaped Tryz.checked.prog ∧ i.vars = [] ∧ Input.okWide Tryz.checked.prog (w.forCall tape i) .any w.heap.size F i ∧
      ((s.pre enc Tryz.checked.prog fn [] false (w.forCall tape i).memory i.args ∧ laidMetH Tryz.checked.prog lst (w.forCall tape i).memory) ∧ sizedMet enc Tryz.checked.prog fn (OpenSpec.ofChange s) false (w.forCall tape i).memory i.args) ∧ ({} : Assume).holds Tryz.checked.prog (lone (Frame.enter Tryz.checked.prog F i.args .normal) [] (w.forCall tape i)))
    (walk : ∀ (W : World) (base : Nat) (args : Array Value) (ds : List (DataW H)) (p : List MemPlace), (∀ (j : Nat) t v, fn.params[j]? = some t → args[j]? = some v → Value.okWide Tryz.prog W .any base t v) → DataW.TrodAll enc Tryz.prog W 0 (fun _ => true) true fn.params.toList args.toList ds p → laidMetH Tryz.prog lst W →
      Calls Tryz.prog F args W fun e w' => e = .returned (.bool true) ∧ Below W.heap.size W w') :
    ReturnsInHanded {} Tryz.checked os F .any (fun w args => (s.pre enc Tryz.prog fn [] false w args ∧ laidMetH Tryz.prog lst w) ∧ sizedMet enc Tryz.prog fn (OpenSpec.ofChange s) false w args) (s.post enc Tryz.prog fn false true false false) := by
  refine returnsInHanded_of_change_and (C := Tryz.checked) (X := fun w _ => laidMetH Tryz.prog lst w) (fun _ _ _ hh h => h.of_heap hh) own started noInit hfn witness ?_
  intro W base args ds gs before hval0 hW _ _ hL _
  have hW' := hW
  obtain ⟨p, q, hA, hV, hp, hfz, hnd⟩ := hW
  rw [hv] at hV
  obtain ⟨rfl, rfl⟩ := trodVars_none hV
  rw [List.append_nil] at hp
  subst hp
  have hval : ∀ (j : Nat) t v, fn.params[j]? = some t → args[j]? = some v → Value.okWide Tryz.prog W .any base t v := hval0
  refine (walk W base args ds _ hval hA hL).mono fun e W' ⟨he, hb⟩ => ?_
  subst he
  have hlen : ∀ (ts : List TypeId) (vs : List Value) (ds : List (DataW H)) (ps : List MemPlace), DataW.TrodAll enc Tryz.prog W 0 (fun _ => true) true ts vs ds ps → ds.length = ts.length := by
    intro ts
    induction ts with
    | nil => intro vs ds ps h; obtain ⟨_, rfl, _⟩ := trodAll_nil h; rfl
    | cons t ts ih => intro vs ds ps h; obtain ⟨_, _, _, _, _, _, rfl, rfl, rfl, _, h2⟩ := trodAll_cons h; simp [ih _ _ _ h2]
  have e1 := hs ds (hlen _ _ _ _ hA)
  refine ⟨_, rfl, ds, [], before, [], before, [], hW', ?_, ?_, ?_, hb.frame _, fun h => by cases h⟩
  · rw [e1, hres]; exact trodAll_mk1 (shut_bool htb true)
  · rw [e1]; exact trodAll_below laidOut hb _ _ _ _ hrd hA (fun x hx => by simpa using hW'.lt x hx)
  · rw [e1, hv]; rfl
end Go.Proofs.YtbnikblhnibgiaaGreatDoor

/- The table of powers, out of what the row lists. -/
namespace Go.Proofs.YtbnikblhnibgiaaGreatDoor
open Go.RowKit

theorem pow_eq : (DataW.agg [.lit (.int .u64 1), .lit (.int .u64 10), .lit (.int .u64 100), .lit (.int .u64 1000), .lit (.int .u64 10000), .lit (.int .u64 100000), .lit (.int .u64 1000000), .lit (.int .u64 10000000), .lit (.int .u64 100000000), .lit (.int .u64 1000000000), .lit (.int .u64 10000000000), .lit (.int .u64 100000000000), .lit (.int .u64 1000000000000), .lit (.int .u64 10000000000000), .lit (.int .u64 100000000000000), .lit (.int .u64 1000000000000000), .lit (.int .u64 10000000000000000), .lit (.int .u64 100000000000000000), .lit (.int .u64 1000000000000000000), .lit (.int .u64 10000000000000000000)] : DataW Unit) = Lib.tabData .u64 Lib.pow10Tab := by
  simp [Lib.tabData, Lib.pow10Tab, List.range, List.range.loop]
end Go.Proofs.YtbnikblhnibgiaaGreatDoor
