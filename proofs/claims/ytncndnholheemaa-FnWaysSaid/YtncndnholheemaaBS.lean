/- All bags of a size, all parts of a bag: the plain lists, and the functions that collect them. -/
import Derived.Test.YtncndnholheemaaBL
import Derived.Deep.DeepCutAuto
import Derived.Laws.EntriesVeiled
namespace Go.Proofs.Ytncndnholheemaa
open Go.RowKit

/-- The first 2001 of what has been collected and of what is added. -/
def capA (L all : List (List Int)) : List (List Int) := (L ++ all).take 2001
theorem capA_len (L all : List (List Int)) : (capA L all).length ≤ 2001 := by simp [capA]; omega
theorem capA_nil {L : List (List Int)} (h : L.length ≤ 2001) : capA L [] = L := by simp [capA, List.take_of_length_le h]
theorem capA_capA (L a b : List (List Int)) : capA (capA L a) b = capA L (a ++ b) := by
  unfold capA
  rw [← List.append_assoc, List.take_append (l₁ := (L ++ a).take 2001), List.take_append (l₁ := L ++ a), List.take_take, Nat.min_self, List.length_take]
  congr 2
  omega
theorem capA_one {L : List (List Int)} (h : L.length ≤ 2000) (x : List Int) : capA L [x] = L ++ [x] := by
  unfold capA; rw [List.take_of_length_le]; simp; omega
theorem capA_le {L a b : List (List Int)} (h : (capA L (a ++ b)).length ≤ 2000) : (capA L a).length ≤ 2000 := by
  simp [capA] at h ⊢; omega
theorem capA_full {L a : List (List Int)} (b : List (List Int)) (h : ¬ (capA L a).length ≤ 2000) : capA L (a ++ b) = capA L a := by
  have h' : 2001 ≤ (L ++ a).length := by simp [capA] at h ⊢; omega
  unfold capA
  rw [← List.append_assoc, List.take_append_of_le_length h']
/-- All lists of r + 1 numbers with the sum l. -/
def ofSz : Nat → Nat → List (List Int)
  | 0, l => [[(l : Int)]]
  | r + 1, l => (List.range (l + 1)).flatMap fun n => (ofSz r (l - n)).map ((n : Int) :: ·)
theorem ofSz_len : ∀ (r l : Nat) (x : List Int), x ∈ ofSz r l → x.length = r + 1
  | 0, l, x, h => by simp [ofSz] at h; subst h; rfl
  | r + 1, l, x, h => by
    simp only [ofSz, List.mem_flatMap, List.mem_map] at h
    obtain ⟨n, _, y, hy, rfl⟩ := h
    simp [ofSz_len r _ y hy]
/-- The lists that begin with p and one of the first j numbers. -/
def ofSzTo (p : List Int) (r l j : Nat) : List (List Int) := (List.range j).flatMap fun n => (ofSz r (l - n)).map fun y => p ++ (n : Int) :: y
theorem ofSzTo_succ (p : List Int) (r l j : Nat) : ofSzTo p r l (j + 1) = ofSzTo p r l j ++ (ofSz r (l - j)).map fun y => p ++ (j : Int) :: y := by simp [ofSzTo, List.range_succ]
theorem ofSzTo_full (p : List Int) (r l : Nat) : ofSzTo p r l (l + 1) = (ofSz (r + 1) l).map (p ++ ·) := by
  simp [ofSzTo, ofSz, List.map_flatMap, List.map_map, Function.comp_def]
theorem ofSzTo_split (p : List Int) (r l : Nat) {j m : Nat} (h : j ≤ m) : ∃ rest, ofSzTo p r l m = ofSzTo p r l j ++ rest := by
  induction m with
  | zero => exact ⟨[], by rw [show j = 0 from by omega]; simp⟩
  | succ m ih =>
    by_cases e : j = m + 1
    · subst e; exact ⟨[], by simp⟩
    · obtain ⟨rest, e⟩ := ih (by omega)
      exact ⟨_, by rw [ofSzTo_succ, e, List.append_assoc]⟩
theorem take_set_succ {bs : List Int} {k : Nat} (hk : k < bs.length) (x : Int) : (bs.set k x).take (k + 1) = bs.take k ++ [x] := by
  rw [List.take_succ_eq_append_getElem (by simpa using hk), List.take_set, List.set_eq_of_length_le (by simp; omega)]
  simp
/-- All lists, if there are not too many. -/
def lim (all : List (List Int)) : List (List Int) × Int := if all.length ≤ 2000 then (all, 0) else ([], 3)
theorem lim_take (all : List (List Int)) : lim (all.take 2001) = lim all := by
  unfold lim
  rw [List.length_take]
  by_cases hq : all.length ≤ 2000
  · rw [if_pos (by omega), if_pos hq, List.take_of_length_le (by omega)]
  · rw [if_neg (by omega), if_neg hq]
def bagsOfSizeS (kinds size : Int) : List (List Int) × Int :=
  if inRg kinds 1 8 = true ∧ inRg size 0 1000 = true then lim (ofSz (kinds.toNat - 1) size.toNat) else ([], 2)
/-- All lists within a list, over the places from k on. -/
def partsS : List Int → List (List Int)
  | [] => [[]]
  | b :: bs => (List.range (b.toNat + 1)).flatMap fun (n : Nat) => (partsS bs).map ((n : Int) :: ·)
theorem partsS_len : ∀ (b : List Int) (x : List Int), x ∈ partsS b → x.length = b.length
  | [], x, h => by simp [partsS] at h; subst h; rfl
  | b :: bs, x, h => by
    simp only [partsS, List.mem_flatMap, List.mem_map] at h
    obtain ⟨n, _, y, hy, rfl⟩ := h
    simp [partsS_len bs y hy]
def partsTo (p : List Int) (bs : List Int) (j : Nat) : List (List Int) := (List.range j).flatMap fun (n : Nat) => (partsS bs).map fun y => p ++ (n : Int) :: y
theorem partsTo_succ (p : List Int) (bs : List Int) (j : Nat) : partsTo p bs (j + 1) = partsTo p bs j ++ (partsS bs).map fun y => p ++ (j : Int) :: y := by simp [partsTo, List.range_succ]
theorem partsTo_full (p : List Int) (b : Int) (bs : List Int) : partsTo p bs (b.toNat + 1) = (partsS (b :: bs)).map (p ++ ·) := by
  simp [partsTo, partsS, List.map_flatMap, List.map_map, Function.comp_def]
def partsOfS (b : List Int) : List (List Int) × Int := if isBagS b = true then lim (partsS b) else ([], 1)

theorem cntL_lists {m : Nat} : ∀ xss : List (List Int), (∀ x, x ∈ xss → x.length ≤ m) → cntL (xss.map dI) ≤ xss.length * m
  | [], _ => by simp [cntL]
  | x :: xss, h => by
    have h1 := h x (by simp)
    have h2 := cntL_lists xss (fun y hy => h y (by simp [hy]))
    simp only [List.map_cons, cntL, cnt_dI, List.length_cons, Nat.add_mul]
    omega
theorem lim_cnt {all : List (List Int)} {m : Nat} (hm : m ≤ 1000) (h : ∀ x, x ∈ all → x.length ≤ m) : cnt (dII (lim all).1) ≤ 16777216 := by
  unfold lim
  split
  · rename_i hq
    have := cntL_lists all h
    have h2 : all.length * m ≤ 2000 * 1000 := Nat.mul_le_mul hq hm
    show cntL (all.map dI) ≤ _
    omega
  · simp [dII, cnt, cntL]
theorem bagsOfSize_cnt (kinds size : Int) : cnt (dII (bagsOfSizeS kinds size).1) ≤ 16777216 := by
  unfold bagsOfSizeS
  split
  · rename_i h
    have b1 : 1 ≤ kinds ∧ kinds ≤ 8 := by simpa [inRg] using h.1
    exact lim_cnt (m := 8) (by omega) (fun x hx => by rw [ofSz_len _ _ x hx]; omega)
  · simp [dII, cnt, cntL]
theorem partsOf_cnt (b : List Int) : cnt (dII (partsOfS b).1) ≤ 16777216 := by
  unfold partsOfS
  split
  · rename_i h
    have := isBagS_len h
    exact lim_cnt (m := 8) (by omega) (fun x hx => by rw [partsS_len _ x hx]; omega)
  · simp [dII, cnt, cntL]
/-- A closure's state: the captured variables C, the numbers bs in block gb, the lists L that are being collected at gl. -/
structure Enm (w : World) (B : Nat) (C : List (Nat × Value)) (gb gl : Nat) (bs : List Int) (L : List (List Int)) (G : List Nat) (E : TypeId) : Prop where
  caps : ∀ p v, (p, v) ∈ C → w.cell? ⟨p, 0, none⟩ = some v ∧ p ≠ gb ∧ p ≠ gl ∧ p ∉ G
  cells : ∀ i, i < bs.length → w.cell? ⟨gb, i, none⟩ = some (.int .i64 (nth bs i))
  free : ∀ i, w.frozen? ⟨gb, i, none⟩ = false
  box : Box E 1 w B gl L.length (L.map dI) G
  ne : gb ≠ gl
  out : gb ∉ G
  lt : gb < w.heap.size
  base : B ≤ gb ∧ B ≤ gl ∧ B ≤ w.heap.size
theorem Enm.slI {w : World} {B : Nat} {C : List (Nat × Value)} {gb gl : Nat} {bs : List Int} {L : List (List Int)} {G : List Nat} {E : TypeId} (h : Enm w B C gb gl bs L G E) (hl : bs.length ≤ maxLen) : SlI Any w (some ⟨gb, 0, none⟩) bs :=
  ⟨hl, fun _ => ⟨trivial, gb, 0, rfl⟩, fun i hi => by have := h.cells i hi; simpa [adr, blk, ofs] using this⟩
/-- A number is stored. -/
theorem Enm.set {w : World} {B : Nat} {C : List (Nat × Value)} {gb gl : Nat} {bs : List Int} {L : List (List Int)} {G : List Nat} {E : TypeId} (h : Enm w B C gb gl bs L G E) {k : Nat} (hk : k < bs.length) (x : Int) :
    Enm (w.setCell ⟨gb, k, none⟩ (.int .i64 x)) B C gb gl (bs.set k x) L G E := by
  have hc := chg_set w ⟨gb, k, none⟩ (.int .i64 x) [gb] (by simp)
  have hs : w.heap.size = (w.setCell ⟨gb, k, none⟩ (.int .i64 x)).heap.size := (Exc.setCell w ⟨gb, k, none⟩ (.int .i64 x)).size.symm
  refine ⟨fun p v hp => ?_, fun i hi => ?_, fun i => by rw [World.frozen?_setCell]; exact h.free i, h.box.keep hc ⟨by simp; exact fun e => h.ne e.symm, fun g hg => by simp; rintro rfl; exact h.out hg⟩, h.ne, h.out, by rw [← hs]; exact h.lt, by rw [← hs]; exact h.base⟩
  · obtain ⟨h1, h2, h3, h4⟩ := h.caps p v hp
    exact ⟨by rw [World.cell?_setCell_other _ _ _ _ (by intro e; simp at e <;> omega)]; exact h1, h2, h3, h4⟩
  · simp at hi
    by_cases e : i = k
    · subst e
      rw [World.cell?_setCell_same _ _ _ (h.cells i hi)]
      simp [nth, hi]
    · rw [World.cell?_setCell_other _ _ _ _ (by intro e'; simp at e' <;> omega), h.cells i hi]
      simp [nth, Ne.symm e]
/-- The old blocks but those of the numbers and of the lists are as they were. -/
theorem Enm.chg {w w' : World} {B : Nat} {C : List (Nat × Value)} {gb gl : Nat} {bs : List Int} {L L' : List (List Int)} {G G' : List Nat} {E : TypeId} (h : Enm w B C gb gl bs L G E) (hc : Chg (gl :: G) w w') (hb : Box E 1 w' B gl L'.length (L'.map dI) G') (hm : ∀ g, g ∈ G' → g ∈ G ∨ w.heap.size ≤ g) :
    Enm w' B C gb gl bs L' G' E := by
  have n1 : gb ∉ gl :: G := by simp; exact ⟨h.ne, h.out⟩
  refine ⟨fun p v hp => ?_, fun i hi => by rw [hc.cell h.lt n1]; exact h.cells i hi, fun i => by rw [hc.frozen h.lt n1]; exact h.free i, hb, h.ne, fun hg => ?_, Nat.lt_of_lt_of_le h.lt hc.size, ⟨h.base.1, h.base.2.1, Nat.le_trans h.base.2.2 hc.size⟩⟩
  · obtain ⟨h1, h2, h3, h4⟩ := h.caps p v hp
    have hlt := World.block_lt_of_cell? w _ h1
    refine ⟨by rw [hc.cell hlt (by simp; exact ⟨h3, h4⟩)]; exact h1, h2, h3, fun hg => ?_⟩
    rcases hm p hg with hh | hh
    · exact h4 hh
    · simp at hlt; omega
  · rcases hm gb hg with hh | hh
    · exact h.out hh
    · have := h.lt; omega
/-- What a closure's call leaves: lists added, the numbers from place k on changed. -/
def EnmPost (w : World) (B : Nat) (C : List (Nat × Value)) (gb gl : Nat) (bs : List Int) (k : Nat) (L' : List (List Int)) (G : List Nat) (E : TypeId) (e : Ending) (w' : World) : Prop :=
  e = .returned (.bool (decide (L'.length ≤ 2000))) ∧ ∃ bs' G', Enm w' B C gb gl bs' L' G' E ∧ bs'.length = bs.length ∧ bs'.take k = bs.take k ∧ Chg (gb :: gl :: G) w w' ∧ ∀ g, g ∈ G' → g ∈ G ∨ w.heap.size ≤ g
theorem take_set_of_le {bs : List Int} {k : Nat} {x : Int} : (bs.set k x).take k = bs.take k := by
  rw [List.take_set, List.set_eq_of_length_le (by simp; omega)]
/-- The four cells that a function which lists lists begins with: at po what points to gl, where the lists are collected; at pb the numbers' slice, the numbers in gb. -/
def Init (w : World) (K : Nat) (s6 s7 : Value) (wx : World) : Prop :=
  ∃ po pb gl gb : Nat, s6 = .pointer (some ⟨po, 0, none⟩) ∧ s7 = .pointer (some ⟨pb, 0, none⟩) ∧ wx.cell? ⟨po, 0, none⟩ = some (.pointer (some ⟨gl, 0, none⟩)) ∧ wx.cell? ⟨pb, 0, none⟩ = some (.slice (some ⟨gb, 0, none⟩) K K) ∧ wx.cell? ⟨gl, 0, none⟩ = some (.slice none 0 0) ∧
    wx.frozen? ⟨gl, 0, none⟩ = false ∧ (∀ i, i < K → wx.cell? ⟨gb, i, none⟩ = some (.int .i64 0)) ∧ (∀ i, wx.frozen? ⟨gb, i, none⟩ = false) ∧ (w.heap.size ≤ po ∧ w.heap.size ≤ pb ∧ w.heap.size ≤ gl ∧ w.heap.size ≤ gb) ∧ (gb < wx.heap.size ∧ po ≠ pb ∧ po ≠ gl ∧ po ≠ gb ∧ pb ≠ gl ∧ pb ≠ gb ∧ gl ≠ gb) ∧ Below w.heap.size w wx
theorem Init.enm {wx : World} {K gl gb B : Nat} {C : List (Nat × Value)} {E : TypeId} (h1 : wx.cell? ⟨gl, 0, none⟩ = some (.slice none 0 0)) (h2 : wx.frozen? ⟨gl, 0, none⟩ = false) (h3 : ∀ i, i < K → wx.cell? ⟨gb, i, none⟩ = some (.int .i64 0)) (h4 : ∀ i, wx.frozen? ⟨gb, i, none⟩ = false)
    (h5 : gb < wx.heap.size) (h6 : gl ≠ gb) (h7 : B ≤ gb ∧ B ≤ gl ∧ B ≤ wx.heap.size) (hC : ∀ p v, (p, v) ∈ C → wx.cell? ⟨p, 0, none⟩ = some v ∧ p ≠ gb ∧ p ≠ gl) : Enm wx B C gb gl (List.replicate K 0) [] [] E :=
  ⟨fun p v hp => ⟨(hC p v hp).1, (hC p v hp).2.1, (hC p v hp).2.2, by simp⟩, fun i hi => by simp at hi; rw [h3 i hi]; simp [nth, hi], h4, ⟨h2, ⟨_, h1, Lst.nil _ _ _ _⟩, by simp⟩, fun e => h6 e.symm, by simp, h5, h7⟩

/- All bags of a size, all parts of a bag: the program's functions. -/
