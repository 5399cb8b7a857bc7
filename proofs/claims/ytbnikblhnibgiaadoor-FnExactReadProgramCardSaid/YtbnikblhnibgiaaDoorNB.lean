/- The bag with a text: what the program's reader and the reference's make of a text is one; plain. -/
import Derived.Test.YtbnikblhnibgiaaDoorTW
import Derived.Test.YtbnikblhnibgiaaDoorNA
namespace Go.Proofs.YtbnikblhnibgiaaDoor
/-- The word of so many objects of a kind. -/
def wordL (k m : Nat) : Bs := UInt8.ofNat (97 + k) :: (if 1 < m then Lib.decDigits m else [])
/-- The words of the first k kinds. -/
def wordsL (b : List Int) : Nat → List Bs
  | 0 => []
  | k + 1 => if nth b k = 0 then wordsL b k else wordsL b k ++ [wordL k (nth b k).toNat]
def bagL (b : List Int) : Bs := if wordsL b b.length = [] then [45] else Lib.join (wordsL b b.length) [32]
theorem wordT_L (k m : Nat) : (wordT k m).data.toList = wordL k m := by
  unfold wordT wordL
  rw [ByteArray.data_append]
  split <;> simp [decN]
theorem wordsT_L (b : List Int) : ∀ k, (wordsT b k).map (·.data.toList) = wordsL b k
  | 0 => rfl
  | k + 1 => by
    unfold wordsT wordsL
    split
    · exact wordsT_L b k
    · rw [List.map_append, wordsT_L b k, List.map_cons, List.map_nil, wordT_L]
theorem bagT_L {b : List Int} (hb : ∀ j, 0 ≤ nth b j ∧ nth b j ≤ 1000) : (bagTextT b).data.toList = bagL b := by
  obtain ⟨h1, h2⟩ := words_out b hb b.length
  rw [wordsT_L] at h1
  have h3 : wordsL b b.length = [] ↔ (outT b b.length).size = 0 := by rw [← h2, ← wordsT_L]; simp
  unfold bagTextT bagL
  by_cases e : wordsL b b.length = []
  · rw [if_pos e, if_pos (h3.1 e)]
  · rw [if_neg e, if_neg (fun x => e (h3.2 x)), ← h1]
/-- One word read by the program. -/
def pstep (kinds : Nat) (b : List Int) : Bs → Option (List Int)
  | [] => none
  | c :: t => if 97 ≤ c.toNat ∧ c.toNat < 97 + kinds then some (b.set (c.toNat - 97) (if t = [] then 1 else pvS t)) else none
def pfold (kinds : Nat) : List Bs → List Int → Option (List Int)
  | [], b => some b
  | w :: r, b => match pstep kinds b w with
    | none => none
    | some b' => pfold kinds r b'
def checkB (s : Bs) (b : List Int) : Option (List Int) := if isBagS b = true ∧ bagL b = s then some b else none
def progRead (kinds : Nat) (s : Bs) : Option (List Int) := if s = [45] then checkB s (List.replicate kinds 0) else match pfold kinds (cutL 32 s) (List.replicate kinds 0) with
  | none => none
  | some b => checkB s b
/-- One word read by the reference. -/
def sstep (kinds : Nat) (b : List Int) (nx : Nat) : Bs → Option (List Int × Nat)
  | [] => none
  | c :: t => if c.toNat < 97 ∨ 97 + kinds ≤ c.toNat ∨ c.toNat < 97 + nx then none
    else if t = [] then some (b.set (c.toNat - 97) 1, c.toNat - 97 + 1)
    else match numS t with
      | none => none
      | some x => if 2 ≤ x ∧ x ≤ 1000 then some (b.set (c.toNat - 97) x, c.toNat - 97 + 1) else none
def sfold (kinds : Nat) : List Bs → List Int → Nat → Option (List Int)
  | [], b, _ => some b
  | w :: r, b, nx => match sstep kinds b nx w with
    | none => none
    | some (b', nx') => sfold kinds r b' nx'
def specRead (kinds : Nat) (s : Bs) : Option (List Int) := if s = [45] then some (List.replicate kinds 0) else sfold kinds (cutL 32 s) (List.replicate kinds 0) 0

theorem nthS_eq {b : List Int} {k : Nat} {v : Int} (h : k < b.length) : nth (b.set k v) k = v := by simp [nth, h]
theorem nthS_ne {b : List Int} {k j : Nat} {v : Int} (h : k ≠ j) : nth (b.set k v) j = nth b j := by simp [nth, List.getElem?_set_ne h]
theorem nthZ_rep (n j : Nat) : nth (List.replicate n 0) j = 0 := by
  simp only [nth, List.getD_eq_getElem?_getD, List.getElem?_replicate]; split <;> rfl
theorem wordsL_same {b b' : List Int} : ∀ {k : Nat}, (∀ j, j < k → nth b' j = nth b j) → wordsL b' k = wordsL b k
  | 0, _ => rfl
  | k + 1, h => by
    unfold wordsL
    rw [h k (by omega), wordsL_same (fun j hj => h j (by omega))]
theorem wordsL_zeros {b : List Int} {nx : Nat} : ∀ {k : Nat}, nx ≤ k → (∀ j, nx ≤ j → j < k → nth b j = 0) → wordsL b k = wordsL b nx
  | 0, h, _ => by rw [show nx = 0 by omega]
  | k + 1, h, hz => by
    by_cases e : nx = k + 1
    · rw [e]
    · rw [wordsL, if_pos (hz k (by omega) (by omega))]
      exact wordsL_zeros (by omega) (fun j h1 h2 => hz j h1 (by omega))
theorem letter (c : UInt8) (h : 97 ≤ c.toNat) : UInt8.ofNat (97 + (c.toNat - 97)) = c := by
  rw [show 97 + (c.toNat - 97) = c.toNat by omega]; simp
theorem word_back {c : UInt8} {t : Bs} {kinds nx : Nat} {b b' : List Int} {nx' : Nat} (h : sstep kinds b nx (c :: t) = some (b', nx')) :
    ∃ k m : Nat, 97 ≤ c.toNat ∧ c.toNat = 97 + k ∧ k < kinds ∧ nx ≤ k ∧ 1 ≤ m ∧ m ≤ 1000 ∧ b' = b.set k m ∧ nx' = k + 1 ∧ wordL k m = c :: t ∧ (if t = [] then 1 else pvS t) = (m : Int) := by
  simp only [sstep] at h
  split at h
  · cases h
  · rename_i hn
    split at h
    · rename_i ht
      subst ht
      cases h
      refine ⟨c.toNat - 97, 1, by omega, by omega, by omega, by omega, by omega, by omega, rfl, rfl, ?_, rfl⟩
      rw [wordL, letter c (by omega), if_neg (by omega)]
    · rename_i ht
      cases hx : numS t with
      | none => rw [hx] at h; cases h
      | some x =>
        rw [hx] at h
        simp only at h
        split at h
        · rename_i hr
          cases h
          have ht2 := numS_inv hx
          refine ⟨c.toNat - 97, x, by omega, by omega, by omega, by omega, by omega, by omega, rfl, rfl, ?_, ?_⟩
          · rw [wordL, letter c (by omega), if_pos (by omega), ← ht2]
          · rw [if_neg ht, ht2, pvS_dec (by omega)]
        · cases h
theorem sfold_spec {kinds : Nat} : ∀ {ws : List Bs} {b : List Int} {nx : Nat} {b' : List Int}, b.length = kinds → nx ≤ kinds → (∀ j, nx ≤ j → nth b j = 0) → (∀ j, 0 ≤ nth b j ∧ nth b j ≤ 1000) → sfold kinds ws b nx = some b' →
    b'.length = kinds ∧ pfold kinds ws b = some b' ∧ (∀ j, 0 ≤ nth b' j ∧ nth b' j ≤ 1000) ∧ wordsL b' kinds = wordsL b nx ++ ws
  | [], b, nx, b', hl, hn, hz, hb, h => by
    simp only [sfold, Option.some.injEq] at h
    subst h
    exact ⟨hl, rfl, hb, by rw [wordsL_zeros hn (fun j h1 _ => hz j h1)]; simp⟩
  | [] :: r, b, nx, b', hl, hn, hz, hb, h => by simp [sfold, sstep] at h
  | (c :: t) :: r, b, nx, b', hl, hn, hz, hb, h => by
    rw [sfold] at h
    cases hs : sstep kinds b nx (c :: t) with
    | none => rw [hs] at h; cases h
    | some p =>
      obtain ⟨b1, nx1⟩ := p
      rw [hs] at h
      obtain ⟨k, m, h97, hck, hk, hnk, hm1, hm2, rfl, rfl, hw, hv⟩ := word_back hs
      have ih := sfold_spec (by simpa using hl) (by omega) (fun j hj => by rw [nthS_ne (by omega)]; exact hz j (by omega)) (fun j => by
        by_cases e : k = j
        · subst e; rw [nthS_eq (by omega)]; omega
        · rw [nthS_ne e]; exact hb j) h
      obtain ⟨i1, i2, i3, i4⟩ := ih
      refine ⟨i1, ?_, i3, ?_⟩
      · rw [pfold, pstep, if_pos (by omega), hv, show c.toNat - 97 = k by omega]
        exact i2
      · rw [i4, wordsL, nthS_eq (by omega), if_neg (by omega), show ((m : Nat) : Int).toNat = m by omega, hw,
          wordsL_zeros hnk (fun j h1 h2 => by rw [nthS_ne (by omega)]; exact hz j h1),
          wordsL_same (b := b) (fun j hj => nthS_ne (by omega))]
        simp
theorem words_no {b : List Int} : ∀ {k : Nat}, k ≤ 8 → ∀ w ∈ wordsL b k, (32 : UInt8) ∉ w ∧ w ≠ [45]
  | 0, _, w, h => by simp [wordsL] at h
  | k + 1, hk, w, h => by
    rw [wordsL] at h
    split at h
    · exact words_no (by omega) w h
    · rw [List.mem_append] at h
      rcases h with h | h
      · exact words_no (by omega) w h
      · simp only [List.mem_singleton] at h
        subst h
        have hc : (UInt8.ofNat (97 + k)).toNat = 97 + k := by simp; omega
        have hne : ∀ d : UInt8, d.toNat < 97 → UInt8.ofNat (97 + k) ≠ d := fun d hd e => by rw [e] at hc; omega
        constructor
        · intro hm
          rw [wordL, List.mem_cons] at hm
          rcases hm with hm | hm
          · exact hne 32 (by decide) hm.symm
          · split at hm
            · have hd := (dec_dig (nth b k).toNat).1
              rw [digs, List.all_eq_true] at hd
              have := hd _ hm
              simp [digD] at this
            · simp at hm
        · intro e
          rw [wordL] at e
          exact hne 45 (by decide) (by injection e)
theorem sfold_snoc {kinds : Nat} {w : Bs} : ∀ {ws : List Bs} {b : List Int} {nx : Nat} {b1 : List Int} {n1 : Nat}, (∀ r, sfold kinds (ws ++ r) b nx = sfold kinds r b1 n1) → ∀ {b2 : List Int} {n2 : Nat}, sstep kinds b1 n1 w = some (b2, n2) → ∀ r, sfold kinds ((ws ++ [w]) ++ r) b nx = sfold kinds r b2 n2 := by
  intro ws b nx b1 n1 h b2 n2 h2 r
  rw [List.append_assoc, h, List.cons_append, List.nil_append, sfold, h2]
theorem list_eq {a b : List Int} (hl : a.length = b.length) (h : ∀ j, j < b.length → nth a j = nth b j) : a = b := by
  apply List.ext_getElem hl
  intro i h1 h2
  have := h i h2
  simpa [nth, h1, h2] using this
theorem sfold_words {kinds : Nat} {b : List Int} (h8 : kinds ≤ 8) (hl : b.length = kinds) (hb : ∀ j, 0 ≤ nth b j ∧ nth b j ≤ 1000) : ∀ k, k ≤ kinds →
    ∃ b1 n1, n1 ≤ k ∧ b1.length = kinds ∧ (∀ j, j < k → nth b1 j = nth b j) ∧ (∀ j, k ≤ j → nth b1 j = 0) ∧ ∀ r, sfold kinds (wordsL b k ++ r) (List.replicate kinds 0) 0 = sfold kinds r b1 n1
  | 0, _ => ⟨List.replicate kinds 0, 0, Nat.le_refl _, by simp, fun j hj => by omega, fun j _ => nthZ_rep _ _, fun r => rfl⟩
  | k + 1, hk => by
    obtain ⟨b1, n1, h1, h2, h3, h4, h5⟩ := sfold_words h8 hl hb k (by omega)
    by_cases h0 : nth b k = 0
    · refine ⟨b1, n1, by omega, h2, fun j hj => ?_, fun j hj => h4 j (by omega), fun r => ?_⟩
      · by_cases e : j = k
        · subst e; rw [h4 _ (Nat.le_refl _), h0]
        · exact h3 j (by omega)
      · rw [wordsL, if_pos h0]; exact h5 r
    · have hbk := hb k
      obtain ⟨m, hm⟩ : ∃ m : Nat, nth b k = (m : Int) := ⟨(nth b k).toNat, by omega⟩
      have hs : sstep kinds b1 n1 (wordL k m) = some (b1.set k m, k + 1) := by
        have hc : (UInt8.ofNat (97 + k)).toNat = 97 + k := by simp; omega
        rw [wordL]
        simp only [sstep, hc]
        rw [if_neg (by omega), show 97 + k - 97 = k by omega]
        by_cases hm1 : 1 < m
        · rw [if_pos hm1, if_neg (dec_dig m).2.2.1, numS_dec (by omega)]
          simp only
          rw [if_pos (by omega)]
        · rw [if_neg hm1, if_pos rfl, show m = 1 by omega]; rfl
      refine ⟨b1.set k m, k + 1, Nat.le_refl _, by simpa using h2, fun j hj => ?_, fun j hj => ?_, fun r => ?_⟩
      · by_cases e : j = k
        · subst e; rw [nthS_eq (by omega), hm]
        · rw [nthS_ne (by omega)]; exact h3 j (by omega)
      · rw [nthS_ne (by omega)]; exact h4 j (by omega)
      · rw [wordsL, if_neg h0, hm, show ((m : Nat) : Int).toNat = m by omega]
        exact sfold_snoc h5 hs r
theorem read_text {kinds : Nat} {b : List Int} (h8 : kinds ≤ 8) (hl : b.length = kinds) (hb : ∀ j, 0 ≤ nth b j ∧ nth b j ≤ 1000) : specRead kinds (bagL b) = some b := by
  obtain ⟨b1, n1, h1, h2, h3, h4, h5⟩ := sfold_words h8 hl hb kinds (Nat.le_refl _)
  have e1 : b1 = b := list_eq (by omega) (fun j hj => h3 j (by omega))
  subst e1
  unfold specRead bagL
  rw [hl]
  by_cases e : wordsL b1 kinds = []
  · rw [if_pos e, if_pos rfl]
    have h6 := h5 []
    rw [e] at h6
    simpa [sfold] using h6
  · rw [if_neg e]
    have hno := fun w hw => words_no (b := b1) (k := kinds) h8 w hw
    have hcut := cutL_join e (fun w hw => (hno w hw).1)
    have hne : ¬ Lib.join (wordsL b1 kinds) [32] = [45] := by
      intro x
      rw [x] at hcut
      have : wordsL b1 kinds = [[45]] := by rw [← hcut]; rfl
      exact (hno [45] (by rw [this]; simp)).2 rfl
    rw [if_neg hne, hcut]
    have h6 := h5 []
    simpa [sfold] using h6
theorem bagS_of {b : List Int} (h1 : 1 ≤ b.length) (h8 : b.length ≤ 8) (hb : ∀ j, 0 ≤ nth b j ∧ nth b j ≤ 1000) : isBagS b = true := by
  simp only [isBagS, Bool.and_eq_true, allB, List.all_eq_true]
  refine ⟨fun x hx => ?_, by simp [inRg]; omega⟩
  obtain ⟨j, hj, rfl⟩ := List.getElem_of_mem hx
  have := hb j
  simp [nth, hj] at this
  simp [cntOk, inRg]; omega
theorem zeros_words (kinds : Nat) : wordsL (List.replicate kinds 0) kinds = [] := by
  rw [wordsL_zeros (Nat.zero_le _) (fun j _ _ => nthZ_rep _ _)]; rfl
theorem read_same {kinds : Nat} (h1 : 1 ≤ kinds) (h8 : kinds ≤ 8) (s : Bs) : progRead kinds s = specRead kinds s := by
  by_cases e : s = [45]
  · unfold progRead specRead checkB
    rw [if_pos e, if_pos e, if_pos]
    refine ⟨bagS_of (by simpa using h1) (by simpa using h8) (fun j => by rw [nthZ_rep]; omega), ?_⟩
    rw [bagL, List.length_replicate, if_pos (zeros_words kinds), e]
  · have key : ∀ b, progRead kinds s = some b → specRead kinds s = some b := fun b hb => by
      have hpl : ∀ {ws : List Bs} {b b' : List Int}, pfold kinds ws b = some b' → b'.length = b.length := by
        intro ws
        induction ws with
        | nil => intro b b' h; simp only [pfold, Option.some.injEq] at h; rw [h]
        | cons w r ih =>
          intro b b' h
          rw [pfold] at h
          cases hw : pstep kinds b w with
          | none => rw [hw] at h; cases h
          | some b1 =>
            rw [hw] at h
            rw [ih h]
            cases w with
            | nil => cases hw
            | cons c t =>
              simp only [pstep] at hw
              split at hw
              · cases hw; simp
              · cases hw
      unfold progRead at hb
      rw [if_neg e] at hb
      cases hp : pfold kinds (cutL 32 s) (List.replicate kinds 0) with
      | none => rw [hp] at hb; cases hb
      | some b1 =>
        rw [hp] at hb
        simp only [checkB] at hb
        split at hb
        · rename_i hc
          cases hb
          have := isBagS_ok hc.1
          rw [← hc.2]
          exact read_text h8 (by rw [hpl hp]; simp) this.2
        · cases hb
    cases hs : specRead kinds s with
    | none =>
      cases hp : progRead kinds s with
      | none => rfl
      | some b => rw [key b hp] at hs; cases hs
    | some b =>
      have hs' := hs
      unfold specRead at hs'
      rw [if_neg e] at hs'
      obtain ⟨i1, i2, i3, i4⟩ := sfold_spec (by simp) (Nat.zero_le _) (fun j _ => nthZ_rep _ _) (fun j => by rw [nthZ_rep]; omega) hs'
      have hw : wordsL b kinds = cutL 32 s := by rw [i4]; rfl
      have hne : wordsL b kinds ≠ [] := by rw [hw]; exact cutL_ne _ _
      unfold progRead
      rw [if_neg e, i2]
      simp only [checkB]
      rw [if_pos]
      refine ⟨bagS_of (by omega) (by omega) i3, ?_⟩
      rw [bagL, i1, if_neg hne, hw, join_cutL]
end Go.Proofs.YtbnikblhnibgiaaDoor
