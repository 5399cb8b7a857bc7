/- Texts read: cutting at a byte, decimal numbers; plain laws over lists of bytes. -/
import Derived.Lib.SplitLaws
import Derived.Lib.ParseIntBTie
import Derived.Lib.AtoiTie
import Derived.Lib.ItoaNum
import Derived.Lib.Join
namespace Go.Proofs.YtbnikblhnibgiaaGreatDoor
abbrev Bs := List UInt8
/-- A text cut at each byte of a kind. -/
def cutL (c : UInt8) : Bs → List Bs
  | [] => [[]]
  | x :: l => if x = c then [] :: cutL c l else match cutL c l with
    | [] => [[x]]
    | a :: r => (x :: a) :: r
theorem cutL_ne (c : UInt8) : ∀ s, cutL c s ≠ []
  | [] => by simp [cutL]
  | x :: l => by
    unfold cutL
    split
    · simp
    · split <;> simp
theorem cutL_miss {c : UInt8} : ∀ {s : Bs}, c ∉ s → cutL c s = [s]
  | [], _ => rfl
  | x :: l, h => by
    have h1 : x ≠ c := fun e => h (by simp [e])
    have h2 : c ∉ l := fun e => h (by simp [e])
    rw [cutL, if_neg h1, cutL_miss h2]
theorem cutL_hit {c : UInt8} : ∀ {a : Bs} (r : Bs), c ∉ a → cutL c (a ++ c :: r) = a :: cutL c r
  | [], r, _ => by simp [cutL]
  | x :: l, r, h => by
    have h1 : x ≠ c := fun e => h (by simp [e])
    have h2 : c ∉ l := fun e => h (by simp [e])
    rw [List.cons_append, cutL, if_neg h1, cutL_hit r h2]
theorem cutL_join {c : UInt8} : ∀ {ws : List Bs}, ws ≠ [] → (∀ w ∈ ws, c ∉ w) → cutL c (Lib.join ws [c]) = ws
  | [], h, _ => absurd rfl h
  | [w], _, h => by rw [Lib.join_one]; exact cutL_miss (h w (by simp))
  | w :: v :: r, _, h => by
    have ih := cutL_join (c := c) (ws := v :: r) (by simp) (fun w hw => h w (List.mem_cons_of_mem _ hw))
    rw [Lib.join_cons]
    have e : Lib.joinTail [c] (v :: r) = c :: Lib.join (v :: r) [c] := by rw [Lib.join_cons]; simp [Lib.joinTail]
    first
      | rw [e]
      | (have e : Lib.joinTail (v :: r) [c] = c :: Lib.join (v :: r) [c] := by rw [Lib.join_cons]; simp [Lib.joinTail]
         rw [e])
    rw [cutL_hit _ (h w (by simp)), ih]
theorem join_cutL (c : UInt8) : ∀ s : Bs, Lib.join (cutL c s) [c] = s
  | [] => rfl
  | x :: l => by
    have ih := join_cutL c l
    have hne := cutL_ne c l
    obtain ⟨a, r, ha⟩ := List.exists_cons_of_ne_nil hne
    rw [ha, Lib.join_cons] at ih
    unfold cutL
    split
    · rename_i h
      subst h
      rw [ha, Lib.join_cons]
      have e : Lib.joinTail [x] (a :: r) = x :: (a ++ Lib.joinTail [x] r) := by simp [Lib.joinTail]
      rw [List.nil_append, e, ih]
    · rw [ha]
      simp only
      rw [Lib.join_cons, List.cons_append, ih]
theorem idx_one (c : UInt8) : ∀ s : Bs, (Lib.index s [c] = -1 ∧ c ∉ s) ∨ ∃ a r, s = a ++ c :: r ∧ c ∉ a ∧ Lib.index s [c] = (a.length : Int)
  | [] => Or.inl ⟨by simp [Lib.index], by simp⟩
  | x :: l => by
    by_cases h : x = c
    · subst h
      exact Or.inr ⟨[], l, rfl, by simp, by simp [Lib.index, List.isPrefixOf]⟩
    · have hp : ([c] : List UInt8).isPrefixOf (x :: l) = false := by simp [List.isPrefixOf, Ne.symm h]
      have hix : Lib.index (x :: l) [c] = if Lib.index l [c] == -1 then -1 else Lib.index l [c] + 1 := by rw [Lib.index, hp]; simp
      rcases idx_one c l with ⟨h1, h2⟩ | ⟨a, r, rfl, h2, h3⟩
      · exact Or.inl ⟨by rw [hix, if_pos (beq_iff_eq.2 h1)], by simp [Ne.symm h, h2]⟩
      · refine Or.inr ⟨x :: a, r, rfl, by simp [Ne.symm h, h2], ?_⟩
        rw [hix, h3, if_neg (by intro e; have := beq_iff_eq.1 e; omega)]; simp
theorem split_cutL (c : UInt8) : ∀ (k : Nat) (s : Bs), s.count c = k → Lib.splitK [c] 0 k s = cutL c s
  | 0, s, h => by
    rw [Lib.splitK, cutL_miss (fun e => by have := List.count_pos_iff.2 e; omega)]
  | k + 1, s, h => by
    rcases idx_one c s with ⟨h1, h2⟩ | ⟨a, r, rfl, h2, h3⟩
    · rw [List.count_eq_zero_of_not_mem h2] at h; omega
    · rw [Lib.splitK, if_neg (by rw [h3]; intro e; have := beq_iff_eq.1 e; omega), h3, cutL_hit r h2]
      have hc : r.count c = k := by
        rw [List.count_append, List.count_cons_self, List.count_eq_zero_of_not_mem h2] at h; omega
      have e1 : (a ++ c :: r).take ((a.length : Int).toNat + 0) = a := by simp
      have e2 : (a ++ c :: r).drop ((a.length : Int).toNat + [c].length) = r := by
        rw [show (a.length : Int).toNat + [c].length = a.length + 1 by simp]
        simp [List.drop_append]
      rw [e1, e2, split_cutL c k r hc]
theorem split_cut (c : UInt8) (s : Bs) : Lib.split s [c] = cutL c s := by
  unfold Lib.split
  rw [Lib.count_one]
  exact split_cutL c _ s rfl

/-- The value of a row of digits. -/
def valD (s : Bs) : Nat := s.foldl (fun n d => n * 10 + (d.toNat - 48)) 0
def digD (d : UInt8) : Bool := decide (48 ≤ d.toNat) && decide (d.toNat ≤ 57)
def digs (s : Bs) : Bool := s.all digD
theorem valD_snoc (s : Bs) (d : UInt8) : valD (s ++ [d]) = valD s * 10 + (d.toNat - 48) := by simp [valD]
theorem digs_snoc (s : Bs) (d : UInt8) : digs (s ++ [d]) = (digs s && digD d) := by simp [digs]
theorem u8_dig {i : Nat} (h : i < 10) : (UInt8.ofNat (48 + i)).toNat = 48 + i := by simp; omega
theorem dec_dig : ∀ (n : Nat), digs (Lib.decDigits n) = true ∧ valD (Lib.decDigits n) = n ∧ Lib.decDigits n ≠ [] ∧ ((Lib.decDigits n).head? = some 48 → n = 0) := by
  intro n
  induction n using Nat.strongRecOn with
  | _ n ih =>
    by_cases h : n < 10
    · rw [Lib.decDigits, dif_pos h]
      refine ⟨by simp [digs, digD]; omega, by simp [valD]; omega, by simp, ?_⟩
      intro e
      simp only [List.head?_cons, Option.some.injEq] at e
      have := congrArg UInt8.toNat e
      rw [u8_dig h] at this
      have : (48 : UInt8).toNat = 48 := rfl
      omega
    · obtain ⟨i1, i2, i3, i4⟩ := ih (n / 10) (by omega)
      rw [Lib.decDigits, dif_neg h]
      refine ⟨?_, ?_, by simp, ?_⟩
      · rw [digs_snoc, i1]; simp [digD]; omega
      · rw [valD_snoc, i2, u8_dig (by omega)]; omega
      · intro e
        rw [List.head?_append] at e
        obtain ⟨x, l, hx⟩ := List.exists_cons_of_ne_nil i3
        rw [hx] at e i4
        have := i4 (by simpa using e)
        omega
theorem snocRec {P : Bs → Prop} (h0 : P []) (h1 : ∀ s d, P s → P (s ++ [d])) (s : Bs) : P s := by
  have h : ∀ l : Bs, P l.reverse := fun l => by
    induction l with
    | nil => exact h0
    | cons d r ih => rw [List.reverse_cons]; exact h1 _ _ ih
  have h2 := h s.reverse
  rwa [List.reverse_reverse] at h2
theorem val_pos {s : Bs} : digs s = true → s ≠ [] → s.head? ≠ some 48 → 0 < valD s := by
  refine snocRec (P := fun s => digs s = true → s ≠ [] → s.head? ≠ some 48 → 0 < valD s) (fun _ h => absurd rfl h) ?_ s
  · intro s d ih hd _ hh
    rw [digs_snoc, Bool.and_eq_true] at hd
    rw [valD_snoc]
    by_cases he : s = []
    · subst he
      have h2 := hd.2
      simp [digD] at h2
      have : d.toNat ≠ 48 := fun e => hh (by simp [← UInt8.toNat_inj, e])
      simp [valD]; omega
    · have := ih hd.1 he (by
        intro e; apply hh; rw [List.head?_append, e]; rfl)
      omega
theorem dec_val {s : Bs} : digs s = true → s ≠ [] → (s.head? ≠ some 48 ∨ s.length = 1) → Lib.decDigits (valD s) = s := by
  refine snocRec (P := fun s => digs s = true → s ≠ [] → (s.head? ≠ some 48 ∨ s.length = 1) → Lib.decDigits (valD s) = s) (fun _ h => absurd rfl h) ?_ s
  · intro s d ih hd _ hh
    rw [digs_snoc, Bool.and_eq_true] at hd
    obtain ⟨h1, h2⟩ := hd
    simp [digD] at h2
    rw [valD_snoc]
    have hu : UInt8.ofNat (48 + (d.toNat - 48)) = d := by
      rw [show 48 + (d.toNat - 48) = d.toNat by omega]; simp
    by_cases he : s = []
    · subst he
      rw [show valD [] * 10 + (d.toNat - 48) = d.toNat - 48 by simp [valD], Lib.decDigits, dif_pos (by omega), hu]; rfl
    · have hh' : s.head? ≠ some 48 := by
        rcases hh with hh | hh
        · intro e; apply hh; rw [List.head?_append, e]; rfl
        · exfalso; apply he; simp at hh; exact hh
      have hp := val_pos h1 he hh'
      rw [Lib.decDigits, dif_neg (by omega), show (valD s * 10 + (d.toNat - 48)) / 10 = valD s by omega,
        show (valD s * 10 + (d.toNat - 48)) % 10 = d.toNat - 48 by omega, hu, ih h1 he (Or.inl hh')]
theorem dec_len : ∀ {n : Nat} (k : Nat), n < 10 ^ (k + 1) → (Lib.decDigits n).length ≤ k + 1
  | n, 0, h => by rw [Lib.decDigits, dif_pos (by omega)]; simp
  | n, k + 1, h => by
    rw [Lib.decDigits]
    split
    · simp
    · have := dec_len (n := n / 10) k (by rw [Nat.pow_succ] at h; omega)
      simp; omega
/-- The reference's number of one to nine digits. -/
def numS (s : Bs) : Option Nat := if s.length < 1 ∨ 9 < s.length ∨ (s.head? = some 48 ∧ 1 < s.length) then none else if digs s = true then some (valD s) else none
theorem numS_dec {n : Nat} (h : n < 10000) : numS (Lib.decDigits n) = some n := by
  obtain ⟨h1, h2, h3, h4⟩ := dec_dig n
  have hl := dec_len (n := n) 3 (by omega)
  have hp := List.length_pos_iff.2 h3
  unfold numS
  rw [if_neg, if_pos h1, h2]
  rintro (h | h | ⟨e, h⟩)
  · omega
  · omega
  · have := h4 e
    subst this
    rw [Lib.decDigits, dif_pos (by omega)] at h
    simp at h
theorem numS_inv {s : Bs} {n : Nat} (h : numS s = some n) : s = Lib.decDigits n := by
  unfold numS at h
  split at h
  · cases h
  · rename_i hn
    split at h
    · rename_i hd
      cases h
      refine (dec_val hd (by rintro rfl; exact hn (Or.inl (by simp))) ?_).symm
      by_cases e : s.head? = some 48
      · refine Or.inr ?_
        have h1 : ¬ 1 < s.length := fun h => hn (Or.inr (Or.inr ⟨e, h⟩))
        have h2 : ¬ s.length < 1 := fun h => hn (Or.inl h)
        omega
      · exact Or.inl e
    · cases h
/-- The reference's number of one to four digits, or -1. -/
def num7 (s : Bs) : Int := if s.length < 1 ∨ 4 < s.length then -1 else if digs s = true then valD s else -1
theorem num7_dec {n : Nat} (h : n < 10000) : num7 (Lib.decDigits n) = n := by
  obtain ⟨h1, h2, h3, _⟩ := dec_dig n
  have hl := dec_len (n := n) 3 (by omega)
  have hp := List.length_pos_iff.2 h3
  unfold num7
  rw [if_neg (by omega), if_pos h1, h2]
/-- What strconv.ParseInt tells, its error left aside. -/
def pvS (s : Bs) : Int := match Lib.parseIntB 64 s with
  | .ok v => v
  | .syntax => 0
  | .range => Lib.intSat 64 s
theorem decFrom_val : ∀ (s : Bs) (acc : Nat), digs s = true → Lib.decFrom acc s = some (s.foldl (fun n d => n * 10 + (d.toNat - 48)) acc)
  | [], _, _ => rfl
  | d :: r, acc, h => by
    have h1 : digD d = true ∧ digs r = true := by simpa [digs] using h
    have h2 := h1.1
    simp [digD] at h2
    simp only [Lib.decFrom, Lib.digitVal]
    rw [if_pos (by omega)]
    simp only [List.foldl_cons]
    exact decFrom_val r _ h1.2
theorem pvS_dec {n : Nat} (h : n < 10000) : pvS (Lib.decDigits n) = n := by
  obtain ⟨h1, h2, h3, _⟩ := dec_dig n
  have hl := dec_len (n := n) 3 (by omega)
  have hn : Lib.decNat (Lib.decDigits n) = some n := by
    unfold Lib.decNat
    rw [if_neg (by simpa using h3), decFrom_val _ _ h1]
    exact congrArg some h2
  unfold pvS
  rw [Lib.parseIntB_64, Lib.atoiAll_short _ (by omega)]
  obtain ⟨c, r, hc⟩ := List.exists_cons_of_ne_nil h3
  rw [hc] at h1 hn
  have h4 : digD c = true := by simp [digs] at h1; exact h1.1
  simp [digD] at h4
  have e1 : (c == 45) = false := by simp [← UInt8.toNat_inj]; omega
  have e2 : (c == 43) = false := by simp [← UInt8.toNat_inj]; omega
  rw [hc]
  simp only [Lib.atoi, e1, e2, hn]
  rfl
end Go.Proofs.YtbnikblhnibgiaaGreatDoor
