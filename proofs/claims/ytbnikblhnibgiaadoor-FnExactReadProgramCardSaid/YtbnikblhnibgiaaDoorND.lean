/- The program with a text: what the program's reader and the reference's make of a text is one; plain. -/
import Derived.Test.YtbnikblhnibgiaaDoorTX
import Derived.Test.YtbnikblhnibgiaaDoorNA
import Derived.Lib.Strings
namespace Go.Proofs.YtbnikblhnibgiaaDoor
def decD (i : Int) : Bs := [UInt8.ofNat (48 + i.toNat)]
def ordL (o : Ord) : Bs := if o.op = 3 then [104, 97, 108, 116] else (if o.op = 2 then [115, 117, 98] else [97, 100, 100]) ++ 32 :: (decD o.reg ++ 32 :: (decD o.to ++ 32 :: decD o.els))
def headL (R : Int) : Bs := [112, 114, 111, 103, 114, 97, 109, 32] ++ decD R
def linesL (R : Int) (os : List Ord) : List Bs := headL R :: os.map ordL
def progL (R : Int) (os : List Ord) : Bs := (linesL R os).flatMap (· ++ [10])
theorem ordT_L (o : Ord) : (ordT o).data.toList = ordL o := by
  unfold ordT ordL
  split
  · rfl
  · split <;> simp [ByteArray.data_append, decB, decL, decD]
theorem progT_L (R : Int) (os : List Ord) : ∀ k, k ≤ os.length → (progT R os k).data.toList = (linesL R (os.take k)).flatMap (· ++ [10])
  | 0, _ => by simp [progT, linesL, headL, ByteArray.data_append, decB, decL, decD]
  | k + 1, h => by
    have e : os.take (k + 1) = os.take k ++ [nthO os k] := by rw [List.take_add_one, nthO_lt (by omega)]; simp [show k < os.length by omega]
    rw [progT, ByteArray.data_append, Array.toList_append, progT_L R os k (by omega), ByteArray.data_append, Array.toList_append, ordT_L, e]
    simp [linesL]
theorem text_L {R : Int} {os : List Ord} (h : validProgS R os = true) : (textB R os).data.toList = progL R os := by
  rw [textB, if_pos h, progT_L R os os.length (Nat.le_refl _), List.take_length, progL]
/-- The lines of a text, each of which ends with a newline; and whether the last one does. -/
def linesOfS (s : Bs) : List Bs × Bool := ((cutL 10 s).dropLast, (cutL 10 s).getLast? == some [])
theorem lines_back (ls : List Bs) (h : ∀ l ∈ ls, (10 : UInt8) ∉ l) : cutL 10 (ls.flatMap (· ++ [10])) = ls ++ [[]] := by
  induction ls with
  | nil => rfl
  | cons l r ih =>
    rw [List.flatMap_cons, List.append_assoc, List.singleton_append, cutL_hit _ (h l (by simp)), ih (fun x hx => h x (by simp [hx]))]
    rfl
/-- An order read by the program. -/
def pOrd (line : Bs) : Ord :=
  let ws := cutL 32 line
  let n := fun i => match ws[i + 1]? with | some w => pvS w | none => 0
  if ws[0]? = some [97, 100, 100] then ⟨1, n 0, n 1, n 2⟩ else if ws[0]? = some [115, 117, 98] then ⟨2, n 0, n 1, n 2⟩ else ⟨3, 0, 0, 0⟩
/-- An order read by the reference. -/
def sOrd (line : Bs) : Ord :=
  let ws := cutL 32 line ++ [[], [], []]
  let n := fun i => num7 (ws.getD (i + 1) [])
  if ws[0]? = some [104, 97, 108, 116] then ⟨3, 0, 0, 0⟩ else ⟨if ws[0]? = some [115, 117, 98] then 2 else if ws[0]? = some [97, 100, 100] then 1 else 3, n 0, n 1, n 2⟩
/-- The first line read by the program. -/
def pHead (line : Bs) : Int := pvS (Lib.trimPrefix line [112, 114, 111, 103, 114, 97, 109, 32])
/-- What stands behind a text's first instance. -/
def behindS (by' : Bs) : Bs → Option Bs
  | [] => if by' = [] then some [] else none
  | x :: l => if by'.isPrefixOf (x :: l) then some ((x :: l).drop by'.length) else behindS by' l
def sHead (line : Bs) : Int := num7 ((behindS [112, 114, 111, 103, 114, 97, 109, 32] line).getD [])
def progRd (s : Bs) : Option (Int × List Ord) :=
  let (ls, ok) := linesOfS s
  if ok = true ∧ 1 ≤ ls.length ∧ ls.length ≤ 7 then
    (if (textB (pHead (ls.getD 0 [])) (ls.tail.map pOrd)).data.toList = s then some (pHead (ls.getD 0 []), ls.tail.map pOrd) else none)
  else none
def specRd (s : Bs) : Option (Int × List Ord) :=
  let (ls, ok) := linesOfS s
  if ok = true ∧ 1 ≤ ls.length ∧ ls.length ≤ 7 then
    (if validProgS (sHead (ls.getD 0 [])) (ls.tail.map sOrd) = true ∧ progL (sHead (ls.getD 0 [])) (ls.tail.map sOrd) = s then some (sHead (ls.getD 0 []), ls.tail.map sOrd) else none)
  else none
theorem decD_eq {i : Int} (h : 0 ≤ i ∧ i < 10) : decD i = Lib.decDigits i.toNat := by rw [Lib.decDigits, dif_pos (by omega)]; rfl
theorem decD_pv {i : Int} (h : 0 ≤ i ∧ i < 10) : pvS (decD i) = i := by rw [decD_eq h, pvS_dec (by omega)]; omega
theorem decD_num {i : Int} (h : 0 ≤ i ∧ i < 10) : num7 (decD i) = i := by rw [decD_eq h, num7_dec (by omega)]; omega
theorem decD_not {i : Int} (h : 0 ≤ i ∧ i < 10) (c : UInt8) (hc : c.toNat < 48) : c ∉ decD i := by
  intro e
  simp only [decD, List.mem_singleton] at e
  have := u8_dig (i := i.toNat) (by omega)
  rw [← e] at this
  omega
theorem ord_cut {o : Ord} (h : OkO o) : cutL 32 (ordL o) = if o.op = 3 then [[104, 97, 108, 116]] else [if o.op = 2 then [115, 117, 98] else [97, 100, 100], decD o.reg, decD o.to, decD o.els] := by
  have h1 := decD_not h.reg 32 (by decide)
  have h2 := decD_not h.to 32 (by decide)
  have h3 := decD_not h.els 32 (by decide)
  unfold ordL
  split
  · rfl
  · rw [cutL_hit _ (by split <;> decide), cutL_hit _ h1, cutL_hit _ h2, cutL_miss h3]
theorem ord_no {o : Ord} (h : OkO o) : (10 : UInt8) ∉ ordL o := by
  have h1 := decD_not h.reg 10 (by decide)
  have h2 := decD_not h.to 10 (by decide)
  have h3 := decD_not h.els 10 (by decide)
  unfold ordL
  split
  · decide
  · simp only [List.mem_append, List.mem_cons]
    rintro (e | e | e | e | e | e)
    · revert e; split <;> decide
    · revert e; decide
    · exact h1 e
    · revert e; decide
    · exact h2 e
    · rcases e with e | e
      · revert e; decide
      · exact h3 e
theorem pOrd_back {R : Int} {n : Nat} {o : Ord} (h : OkO o) (hv : okOrd R n o = true) : pOrd (ordL o) = o := by
  have hc := ord_cut h
  obtain ⟨op, reg, to, els⟩ := o
  rcases h.op with e | e | e
  · simp only at e; subst e
    rw [if_neg (show ¬ (1 : Int) = 3 by decide), if_neg (show ¬ (1 : Int) = 2 by decide)] at hc
    simp [pOrd, hc, decD_pv h.reg, decD_pv h.to, decD_pv h.els]
  · simp only at e; subst e
    rw [if_neg (show ¬ (2 : Int) = 3 by decide), if_pos rfl] at hc
    simp [pOrd, hc, decD_pv h.reg, decD_pv h.to, decD_pv h.els]
  · simp only at e; subst e
    rw [if_pos rfl] at hc
    simp [okOrd] at hv
    obtain ⟨rfl, rfl, rfl⟩ := hv
    simp [pOrd, hc]
theorem sOrd_back {R : Int} {n : Nat} {o : Ord} (h : OkO o) (hv : okOrd R n o = true) : sOrd (ordL o) = o := by
  have hc := ord_cut h
  obtain ⟨op, reg, to, els⟩ := o
  rcases h.op with e | e | e
  · simp only at e; subst e
    rw [if_neg (show ¬ (1 : Int) = 3 by decide), if_neg (show ¬ (1 : Int) = 2 by decide)] at hc
    simp [sOrd, hc, decD_num h.reg, decD_num h.to, decD_num h.els]
  · simp only at e; subst e
    rw [if_neg (show ¬ (2 : Int) = 3 by decide), if_pos rfl] at hc
    simp [sOrd, hc, decD_num h.reg, decD_num h.to, decD_num h.els]
  · simp only at e; subst e
    rw [if_pos rfl] at hc
    simp [okOrd] at hv
    obtain ⟨rfl, rfl, rfl⟩ := hv
    simp [sOrd, hc]
theorem pHead_back {R : Int} (h : 0 ≤ R ∧ R < 10) : pHead (headL R) = R := by
  unfold pHead headL
  rw [show Lib.trimPrefix ([112, 114, 111, 103, 114, 97, 109, 32] ++ decD R) [112, 114, 111, 103, 114, 97, 109, 32] = decD R by
    unfold Lib.trimPrefix Lib.hasPrefix; rw [if_pos (by simp)]; rfl]
  exact decD_pv h
theorem sHead_back {R : Int} (h : 0 ≤ R ∧ R < 10) : sHead (headL R) = R := by
  unfold sHead headL
  rw [show behindS [112, 114, 111, 103, 114, 97, 109, 32] ([112, 114, 111, 103, 114, 97, 109, 32] ++ decD R) = some (decD R) by
    rw [List.cons_append, behindS, if_pos (by simp)]; rfl]
  exact decD_num h
theorem head_no {R : Int} (h : 0 ≤ R ∧ R < 10) : (10 : UInt8) ∉ headL R := by
  have h1 := decD_not h 10 (by decide)
  unfold headL
  rw [List.mem_append]
  rintro (e | e)
  · revert e; decide
  · exact h1 e
theorem map_back (f : Bs → Ord) (os : List Ord) (h : ∀ o ∈ os, f (ordL o) = o) : (os.map ordL).map f = os := by
  rw [List.map_map]
  conv => rhs; rw [← List.map_id os]
  exact List.map_congr_left (fun o ho => h o ho)
theorem okO_of {R : Int} {os : List Ord} (h : validProgS R os = true) : ∀ o ∈ os, OkO o ∧ okOrd R os.length o = true := by
  obtain ⟨_, _, _, h4⟩ := valid_ok h
  intro o ho
  obtain ⟨j, hj, rfl⟩ := List.getElem_of_mem ho
  have h5 := h4 j hj
  rw [nthO_lt hj] at h5
  refine ⟨h5, ?_⟩
  simp only [validProgS, Bool.and_eq_true] at h
  have h2 := h.2
  rw [allO, List.all_eq_true] at h2
  exact h2 _ ho
theorem lines_text {R : Int} {os : List Ord} (h : validProgS R os = true) : linesOfS (progL R os) = (linesL R os, true) ∧ (linesL R os).length = os.length + 1 ∧ 1 ≤ os.length ∧ os.length ≤ 6 := by
  obtain ⟨h1, h2, h3, h4⟩ := valid_ok h
  have hn : 1 ≤ os.length := by simp [validProgS, inRg] at h; omega
  have hc := lines_back (linesL R os) (fun l hl => by
    rw [linesL, List.mem_cons] at hl
    rcases hl with rfl | hl
    · exact head_no ⟨h1, h2⟩
    · obtain ⟨o, ho, rfl⟩ := List.mem_map.1 hl
      exact ord_no (okO_of h o ho).1)
  refine ⟨?_, by simp [linesL], hn, h3⟩
  unfold linesOfS progL
  rw [hc]
  simp
theorem spec_text {R : Int} {os : List Ord} (h : validProgS R os = true) : specRd (progL R os) = some (R, os) := by
  obtain ⟨h1, h2, h3, h4⟩ := lines_text h
  obtain ⟨g1, g2, _, _⟩ := valid_ok h
  have e1 : sHead ((linesL R os).getD 0 []) = R := by simpa [linesL] using sHead_back ⟨g1, g2⟩
  have e2 : (linesL R os).tail.map sOrd = os := map_back sOrd os (fun o ho => sOrd_back (okO_of h o ho).1 (okO_of h o ho).2)
  unfold specRd
  rw [h1]
  simp only
  rw [if_pos ⟨trivial, by omega, by omega⟩, e1, e2, if_pos ⟨h, rfl⟩]
theorem prog_text {R : Int} {os : List Ord} (h : validProgS R os = true) : progRd (progL R os) = some (R, os) := by
  obtain ⟨h1, h2, h3, h4⟩ := lines_text h
  obtain ⟨g1, g2, _, _⟩ := valid_ok h
  have e1 : pHead ((linesL R os).getD 0 []) = R := by simpa [linesL] using pHead_back ⟨g1, g2⟩
  have e2 : (linesL R os).tail.map pOrd = os := map_back pOrd os (fun o ho => pOrd_back (okO_of h o ho).1 (okO_of h o ho).2)
  unfold progRd
  rw [h1]
  simp only
  rw [if_pos ⟨trivial, by omega, by omega⟩, e1, e2, if_pos (text_L h)]
theorem spec_some {s : Bs} {p : Int × List Ord} (h : specRd s = some p) : validProgS p.1 p.2 = true ∧ progL p.1 p.2 = s := by
  unfold specRd at h
  simp only at h
  split at h
  · split at h
    · rename_i hc; cases h; exact hc
    · cases h
  · cases h
theorem prog_some {s : Bs} {p : Int × List Ord} (h : progRd s = some p) : validProgS p.1 p.2 = true ∧ progL p.1 p.2 = s := by
  unfold progRd at h
  simp only at h
  split at h
  · rename_i hl
    split at h
    · rename_i hc
      cases h
      cases hv : validProgS (pHead ((linesOfS s).1.getD 0 [])) ((linesOfS s).1.tail.map pOrd) with
      | true => exact ⟨rfl, by rw [← text_L hv]; exact hc⟩
      | false =>
        exfalso
        rw [textB, if_neg (by rw [hv]; simp)] at hc
        have hs : s = [] := hc.symm
        subst hs
        have := hl.2.1
        simp [linesOfS, cutL] at this
    · cases h
  · cases h
theorem rd_same (s : Bs) : progRd s = specRd s := by
  cases h1 : progRd s with
  | some p =>
    obtain ⟨hv, rfl⟩ := prog_some h1
    exact (spec_text hv).symm
  | none =>
    cases h2 : specRd s with
    | none => rfl
    | some p =>
      obtain ⟨hv, rfl⟩ := spec_some h2
      rw [prog_text hv] at h1; cases h1
end Go.Proofs.YtbnikblhnibgiaaDoor
