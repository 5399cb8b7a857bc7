/- All bags of a size, all parts of a bag: the plain lists, and the functions that collect them. -/
import Derived.Test.YthlbogmnnenkoaaBL
import Derived.Deep.DeepCutAuto
import Derived.Laws.EntriesVeiled
namespace Go.Proofs.Ythlbogmnnenkoaa
open Go.RowKit

/-- The first 2001 of what has been collected and of what is added. -/
def capA (L all : List (List Int)) : List (List Int) := (L ++ all).take 2001
theorem capA_len (L all : List (List Int)) : (capA L all).length ≤ 2001 := by simp [capA]; omega
theorem capA_nil {L : List (List Int)} (h : L.length ≤ 2001) : capA L [] = L := by simp [capA, List.take_of_length_le h]
theorem capA_capA (L a b : List (List Int)) : capA (capA L a) b = capA L (a ++ b) := by
  unfold capA
  rw [← List.append_assoc, List.take_append (l₁ := (L ++ a).take 2001), List.take_append (l₁ := L ++ a), List.take_take, Nat.min_self, List.length_take]
  congr 2
  omega
theorem capA_one {L : List (List Int)} (h : L.length ≤ 2000) (x : List Int) : capA L [x] = L ++ [x] := by
  unfold capA; rw [List.take_of_length_le]; simp; omega
theorem capA_le {L a b : List (List Int)} (h : (capA L (a ++ b)).length ≤ 2000) : (capA L a).length ≤ 2000 := by
  simp [capA] at h ⊢; omega
theorem capA_full {L a : List (List Int)} (b : List (List Int)) (h : ¬ (capA L a).length ≤ 2000) : capA L (a ++ b) = capA L a := by
  have h' : 2001 ≤ (L ++ a).length := by simp [capA] at h ⊢; omega
  unfold capA
  rw [← List.append_assoc, List.take_append_of_le_length h']
/-- All lists of r + 1 numbers with the sum l. -/
def ofSz : Nat → Nat → List (List Int)
  | 0, l => [[(l : Int)]]
  | r + 1, l => (List.range (l + 1)).flatMap fun n => (ofSz r (l - n)).map ((n : Int) :: ·)
theorem ofSz_len : ∀ (r l : Nat) (x : List Int), x ∈ ofSz r l → x.length = r + 1
  | 0, l, x, h => by simp [ofSz] at h; subst h; rfl
  | r + 1, l, x, h => by
    simp only [ofSz, List.mem_flatMap, List.mem_map] at h
    obtain ⟨n, _, y, hy, rfl⟩ := h
    simp [ofSz_len r _ y hy]
/-- The lists that begin with p and one of the first j numbers. -/
def ofSzTo (p : List Int) (r l j : Nat) : List (List Int) := (List.range j).flatMap fun n => (ofSz r (l - n)).map fun y => p ++ (n : Int) :: y
theorem ofSzTo_succ (p : List Int) (r l j : Nat) : ofSzTo p r l (j + 1) = ofSzTo p r l j ++ (ofSz r (l - j)).map fun y => p ++ (j : Int) :: y := by simp [ofSzTo, List.range_succ]
theorem ofSzTo_full (p : List Int) (r l : Nat) : ofSzTo p r l (l + 1) = (ofSz (r + 1) l).map (p ++ ·) := by
  simp [ofSzTo, ofSz, List.map_flatMap, List.map_map, Function.comp_def]
theorem ofSzTo_split (p : List Int) (r l : Nat) {j m : Nat} (h : j ≤ m) : ∃ rest, ofSzTo p r l m = ofSzTo p r l j ++ rest := by
  induction m with
  | zero => exact ⟨[], by rw [show j = 0 from by omega]; simp⟩
  | succ m ih =>
    by_cases e : j = m + 1
    · subst e; exact ⟨[], by simp⟩
    · obtain ⟨rest, e⟩ := ih (by omega)
      exact ⟨_, by rw [ofSzTo_succ, e, List.append_assoc]⟩
theorem take_set_succ {bs : List Int} {k : Nat} (hk : k < bs.length) (x : Int) : (bs.set k x).take (k + 1) = bs.take k ++ [x] := by
  rw [List.take_succ_eq_append_getElem (by simpa using hk), List.take_set, List.set_eq_of_length_le (by simp; omega)]
  simp
/-- All lists, if there are not too many. -/
def lim (all : List (List Int)) : List (List Int) × Int := if all.length ≤ 2000 then (all, 0) else ([], 3)
theorem lim_take (all : List (List Int)) : lim (all.take 2001) = lim all := by
  unfold lim
  rw [List.length_take]
  by_cases hq : all.length ≤ 2000
  · rw [if_pos (by omega), if_pos hq, List.take_of_length_le (by omega)]
  · rw [if_neg (by omega), if_neg hq]
def bagsOfSizeS (kinds size : Int) : List (List Int) × Int :=
  if inRg kinds 1 8 = true ∧ inRg size 0 1000 = true then lim (ofSz (kinds.toNat - 1) size.toNat) else ([], 2)
/-- All lists within a list, over the places from k on. -/
def partsS : List Int → List (List Int)
  | [] => [[]]
  | b :: bs => (List.range (b.toNat + 1)).flatMap fun (n : Nat) => (partsS bs).map ((n : Int) :: ·)
theorem partsS_len : ∀ (b : List Int) (x : List Int), x ∈ partsS b → x.length = b.length
  | [], x, h => by simp [partsS] at h; subst h; rfl
  | b :: bs, x, h => by
    simp only [partsS, List.mem_flatMap, List.mem_map] at h
    obtain ⟨n, _, y, hy, rfl⟩ := h
    simp [partsS_len bs y hy]
def partsTo (p : List Int) (bs : List Int) (j : Nat) : List (List Int) := (List.range j).flatMap fun (n : Nat) => (partsS bs).map fun y => p ++ (n : Int) :: y
theorem partsTo_succ (p : List Int) (bs : List Int) (j : Nat) : partsTo p bs (j + 1) = partsTo p bs j ++ (partsS bs).map fun y => p ++ (j : Int) :: y := by simp [partsTo, List.range_succ]
theorem partsTo_full (p : List Int) (b : Int) (bs : List Int) : partsTo p bs (b.toNat + 1) = (partsS (b :: bs)).map (p ++ ·) := by
  simp [partsTo, partsS, List.map_flatMap, List.map_map, Function.comp_def]
def partsOfS (b : List Int) : List (List Int) × Int := if isBagS b = true then lim (partsS b) else ([], 1)

theorem cntL_lists {m : Nat} : ∀ xss : List (List Int), (∀ x, x ∈ xss → x.length ≤ m) → cntL (xss.map dI) ≤ xss.length * m
  | [], _ => by simp [cntL]
  | x :: xss, h => by
    have h1 := h x (by simp)
    have h2 := cntL_lists xss (fun y hy => h y (by simp [hy]))
    simp only [List.map_cons, cntL, cnt_dI, List.length_cons, Nat.add_mul]
    omega
theorem lim_cnt {all : List (List Int)} {m : Nat} (hm : m ≤ 1000) (h : ∀ x, x ∈ all → x.length ≤ m) : cnt (dII (lim all).1) ≤ 16777216 := by
  unfold lim
  split
  · rename_i hq
    have := cntL_lists all h
    have h2 : all.length * m ≤ 2000 * 1000 := Nat.mul_le_mul hq hm
    show cntL (all.map dI) ≤ _
    omega
  · simp [dII, cnt, cntL]
theorem bagsOfSize_cnt (kinds size : Int) : cnt (dII (bagsOfSizeS kinds size).1) ≤ 16777216 := by
  unfold bagsOfSizeS
  split
  · rename_i h
    have b1 : 1 ≤ kinds ∧ kinds ≤ 8 := by simpa [inRg] using h.1
    exact lim_cnt (m := 8) (by omega) (fun x hx => by rw [ofSz_len _ _ x hx]; omega)
  · simp [dII, cnt, cntL]
theorem partsOf_cnt (b : List Int) : cnt (dII (partsOfS b).1) ≤ 16777216 := by
  unfold partsOfS
  split
  · rename_i h
    have := isBagS_len h
    exact lim_cnt (m := 8) (by omega) (fun x hx => by rw [partsS_len _ x hx]; omega)
  · simp [dII, cnt, cntL]
/-- A closure's state: the captured variables C, the numbers bs in block gb, the lists L that are being collected at gl. -/
structure Enm (w : World) (B : Nat) (C : List (Nat × Value)) (gb gl : Nat) (bs : List Int) (L : List (List Int)) (G : List Nat) (E : TypeId) : Prop where
  caps : ∀ p v, (p, v) ∈ C → w.cell? ⟨p, 0, none⟩ = some v ∧ p ≠ gb ∧ p ≠ gl ∧ p ∉ G
  cells : ∀ i, i < bs.length → w.cell? ⟨gb, i, none⟩ = some (.int .i64 (nth bs i))
  free : ∀ i, w.frozen? ⟨gb, i, none⟩ = false
  box : Box E 1 w B gl L.length (L.map dI) G
  ne : gb ≠ gl
  out : gb ∉ G
  lt : gb < w.heap.size
  base : B ≤ gb ∧ B ≤ gl ∧ B ≤ w.heap.size
theorem Enm.slI {w : World} {B : Nat} {C : List (Nat × Value)} {gb gl : Nat} {bs : List Int} {L : List (List Int)} {G : List Nat} {E : TypeId} (h : Enm w B C gb gl bs L G E) (hl : bs.length ≤ maxLen) : SlI Any w (some ⟨gb, 0, none⟩) bs :=
  ⟨hl, fun _ => ⟨trivial, gb, 0, rfl⟩, fun i hi => by have := h.cells i hi; simpa [adr, blk, ofs] using this⟩
/-- A number is stored. -/
theorem Enm.set {w : World} {B : Nat} {C : List (Nat × Value)} {gb gl : Nat} {bs : List Int} {L : List (List Int)} {G : List Nat} {E : TypeId} (h : Enm w B C gb gl bs L G E) {k : Nat} (hk : k < bs.length) (x : Int) :
    Enm (w.setCell ⟨gb, k, none⟩ (.int .i64 x)) B C gb gl (bs.set k x) L G E := by
  have hc := chg_set w ⟨gb, k, none⟩ (.int .i64 x) [gb] (by simp)
  have hs : w.heap.size = (w.setCell ⟨gb, k, none⟩ (.int .i64 x)).heap.size := (Exc.setCell w ⟨gb, k, none⟩ (.int .i64 x)).size.symm
  refine ⟨fun p v hp => ?_, fun i hi => ?_, fun i => by rw [World.frozen?_setCell]; exact h.free i, h.box.keep hc ⟨by simp; exact fun e => h.ne e.symm, fun g hg => by simp; rintro rfl; exact h.out hg⟩, h.ne, h.out, by rw [← hs]; exact h.lt, by rw [← hs]; exact h.base⟩
  · obtain ⟨h1, h2, h3, h4⟩ := h.caps p v hp
    exact ⟨by rw [World.cell?_setCell_other _ _ _ _ (by intro e; simp at e <;> omega)]; exact h1, h2, h3, h4⟩
  · simp at hi
    by_cases e : i = k
    · subst e
      rw [World.cell?_setCell_same _ _ _ (h.cells i hi)]
      simp [nth, hi]
    · rw [World.cell?_setCell_other _ _ _ _ (by intro e'; simp at e' <;> omega), h.cells i hi]
      simp [nth, Ne.symm e]
/-- The old blocks but those of the numbers and of the lists are as they were. -/
theorem Enm.chg {w w' : World} {B : Nat} {C : List (Nat × Value)} {gb gl : Nat} {bs : List Int} {L L' : List (List Int)} {G G' : List Nat} {E : TypeId} (h : Enm w B C gb gl bs L G E) (hc : Chg (gl :: G) w w') (hb : Box E 1 w' B gl L'.length (L'.map dI) G') (hm : ∀ g, g ∈ G' → g ∈ G ∨ w.heap.size ≤ g) :
    Enm w' B C gb gl bs L' G' E := by
  have n1 : gb ∉ gl :: G := by simp; exact ⟨h.ne, h.out⟩
  refine ⟨fun p v hp => ?_, fun i hi => by rw [hc.cell h.lt n1]; exact h.cells i hi, fun i => by rw [hc.frozen h.lt n1]; exact h.free i, hb, h.ne, fun hg => ?_, Nat.lt_of_lt_of_le h.lt hc.size, ⟨h.base.1, h.base.2.1, Nat.le_trans h.base.2.2 hc.size⟩⟩
  · obtain ⟨h1, h2, h3, h4⟩ := h.caps p v hp
    have hlt := World.block_lt_of_cell? w _ h1
    refine ⟨by rw [hc.cell hlt (by simp; exact ⟨h3, h4⟩)]; exact h1, h2, h3, fun hg => ?_⟩
    rcases hm p hg with hh | hh
    · exact h4 hh
    · simp at hlt; omega
  · rcases hm gb hg with hh | hh
    · exact h.out hh
    · have := h.lt; omega
/-- What a closure's call leaves: lists added, the numbers from place k on changed. -/
def EnmPost (w : World) (B : Nat) (C : List (Nat × Value)) (gb gl : Nat) (bs : List Int) (k : Nat) (L' : List (List Int)) (G : List Nat) (E : TypeId) (e : Ending) (w' : World) : Prop :=
  e = .returned (.bool (decide (L'.length ≤ 2000))) ∧ ∃ bs' G', Enm w' B C gb gl bs' L' G' E ∧ bs'.length = bs.length ∧ bs'.take k = bs.take k ∧ Chg (gb :: gl :: G) w w' ∧ ∀ g, g ∈ G' → g ∈ G ∨ w.heap.size ≤ g
theorem take_set_of_le {bs : List Int} {k : Nat} {x : Int} : (bs.set k x).take k = bs.take k := by
  rw [List.take_set, List.set_eq_of_length_le (by simp; omega)]
set_option maxHeartbeats 2000000 in
theorem bagsFrom_c (B gb gl : Nat) (pk pb po pf : Nat) (K : Nat) (C : List (Nat × Value)) (hC : C = [(pk, .int .i64 K), (pb, .slice (some ⟨gb, 0, none⟩) K K), (po, .pointer (some ⟨gl, 0, none⟩)), (pf, .func (.func 159) #[] #[.pointer (some ⟨pk, 0, none⟩), .pointer (some ⟨pb, 0, none⟩), .pointer (some ⟨po, 0, none⟩), .pointer (some ⟨pf, 0, none⟩)])]) (hK : K ≤ 8) :
    ∀ (r k l : Nat) (bs : List Int) (L : List (List Int)) (G : List Nat) (w : World) (kv lv : Int), kv = k → lv = l → K = k + r + 1 → l ≤ 1000 → bs.length = K → L.length ≤ 2000 → Enm w B C gb gl bs L G 34 →
    Calls Try.prog 159 #[.int .i64 kv, .int .i64 lv, .pointer (some ⟨pk, 0, none⟩), .pointer (some ⟨pb, 0, none⟩), .pointer (some ⟨po, 0, none⟩), .pointer (some ⟨pf, 0, none⟩)] w (EnmPost w B C gb gl bs k (capA L ((ofSz r l).map (bs.take k ++ ·))) G 34) := by
  have HC := Lib.hid hC
  clear hC
  intro r
  induction r with
  | zero =>
    intro k l bs L G w kv lv hkv hlv hKr hl hbs hL hE
    subst hkv hlv
    have c1 := (hE.caps _ _ (by rw [HC.out]; exact .head _)).1
    have c2 := (hE.caps _ _ (by rw [HC.out]; exact .tail _ (.head _))).1
    have c3 := (hE.caps _ _ (by rw [HC.out]; exact .tail _ (.tail _ (.head _)))).1
    have i1 := ix_of (P := Try.prog) tabI.under tabI.size (a := some ⟨gb, 0, none⟩) (n := K) (fun _ => ⟨gb, 0, rfl⟩) K
    simp only [Nat.mul_one, adr, blk, ofs, Nat.zero_add] at i1
    have hkb : k < bs.length := by omega
    have g1 := hE.cells k hkb
    have g2 := hE.free k
    have hset := hE.set hkb l
    have ht : ((k : Int) == (K : Int) - 1) = true := by simp; omega
    have hk2 : (k : Int) < K := by omega
    have HK := Lib.hid hKr
    have HBS := Lib.hid hbs
    have hbs2 : bs.set k l = bs.take k ++ [(l : Int)] := by
      apply List.ext_getElem?
      intro i
      by_cases e : i < k
      · rw [List.getElem?_set_ne (by omega), List.getElem?_append_left (by simp; omega), List.getElem?_take_of_lt e]
      · by_cases e2 : i = k
        · subst e2
          rw [List.getElem?_set_self hkb, List.getElem?_append_right (by simp; omega)]
          simp [Nat.min_eq_left (Nat.le_of_lt hkb)]
        · rw [List.getElem?_eq_none (by simp; omega), List.getElem?_eq_none (by simp; omega)]
    have n2 := (hE.caps _ _ (by rw [HC.out]; exact .tail _ (.head _))).2.1
    have n3 := (hE.caps _ _ (by rw [HC.out]; exact .tail _ (.tail _ (.head _)))).2.1
    have d2 := (hset.caps _ _ (by rw [HC.out]; exact .tail _ (.head _))).1
    have d3 := (hset.caps _ _ (by rw [HC.out]; exact .tail _ (.tail _ (.head _)))).1
    have hA := add_c B gl ⟨gb, 0, none⟩ K (bs.set k l) L.length (L.map dI) G _ hset.box (hset.slI (by simp; unfold maxLen; omega)) (by simp; omega) hL hset.base.2.2
    rw [show (bs.set k (l : Int)).length = K from by simp; omega] at hA
    have HA := Lib.hid hA
    clear hA
    have HS := Lib.hid hset
    have HB2 := Lib.hid hbs2
    have hE' := Lib.hid hE
    clear hset hbs2 hbs hKr hE
    go_enter Try.func159, Try.ntmps159
    go_wp2_with fail
    refine HA.out.mono ?_
    rintro e w1 ⟨rfl, G1, hb1, hc1, hm1⟩
    have hlen : (capA L ((ofSz 0 l).map (bs.take k ++ ·))).length = L.length + 1 := by simp [ofSz, capA_one hL]
    have HP : Hid (EnmPost w B C gb gl bs k (capA L ((ofSz 0 l).map (bs.take k ++ ·))) G 34 (.returned (.bool (decide ((L.length : Int) + 1 ≤ 2000)))) w1) := Lib.hid (by
      have hz : (w.setCell ⟨gb, k, none⟩ (.int .i64 l)).heap.size = w.heap.size := (Exc.setCell w ⟨gb, k, none⟩ (.int .i64 l)).size
      refine ⟨ret_bool ?_, bs.set k l, G1, HS.out.chg (L' := capA L ((ofSz 0 l).map (bs.take k ++ ·))) hc1 ?_ hm1, by simp, take_set_of_le, (chg_set w ⟨gb, k, none⟩ (.int .i64 l) _ (by simp)).trans (hc1.wider (fun x hx => List.mem_cons_of_mem _ hx)), fun g hg => by have := hm1 g hg; rwa [hz] at this⟩
      · rw [hlen]; simp; omega
      · rw [hlen, show capA L ((ofSz 0 l).map (bs.take k ++ ·)) = L ++ [bs.set k l] from by rw [HB2.out]; simp [ofSz, capA_one hL], List.map_append]
        exact hb1)
    clear hb1 hc1 hm1 hlen
    go_wp2
    go_ret
    exact HP.out
  | succ r ih =>
    intro k l bs L G w kv lv hkv hlv hKr hl hbs hL hE
    subst hkv hlv
    have IH := Lib.hid ih
    have c1 := (hE.caps _ _ (by rw [HC.out]; exact .head _)).1
    have i1 := ix_of (P := Try.prog) tabI.under tabI.size (a := some ⟨gb, 0, none⟩) (n := K) (fun _ => ⟨gb, 0, rfl⟩) K
    simp only [Nat.mul_one, adr, blk, ofs, Nat.zero_add] at i1
    have ht : ((k : Int) == (K : Int) - 1) = false := by simp; omega
    have hk2 : (k : Int) < K := by omega
    have HK := Lib.hid hKr
    have HBS := Lib.hid hbs
    have HE := Lib.hid hE
    clear hbs hKr hE ih
    go_enter Try.func159, Try.ntmps159
    go_wp2
    go_loopw [9] (fun i0 wr => ∃ (j : Nat) (bs' : List Int) (L' : List (List Int)) (G' : List Nat), j ≤ l + 1 ∧ i0 = .int .i64 j ∧ Hid (L' = capA L (ofSzTo (bs.take k) r l j)) ∧ L'.length ≤ 2000 ∧ Enm wr B C gb gl bs' L' G' 34 ∧ Hid (bs'.length = bs.length ∧ bs'.take k = bs.take k) ∧ Chg (gb :: gl :: G) w wr ∧ (∀ g, g ∈ G' → g ∈ G ∨ w.heap.size ≤ g)) (fun i0 _ => l + 1 - (intOf i0).toNat)
    case atStart => exact ⟨0, bs, L, G, by omega, rfl, Lib.hid (by simp [ofSzTo, capA_nil (show L.length ≤ 2001 by omega)]), hL, HE.out, Lib.hid ⟨rfl, rfl⟩, Chg.refl _ _, fun g hg => .inl hg⟩
    case round =>
      obtain ⟨j, bs', L', G', hj, rfl, hL', hn', hE', hb', hc', hm'⟩ := hrel
      have HCH := Lib.hid hc'
      have HM := Lib.hid hm'
      clear hc' hm' c1 ht
      by_cases hlt : j ≤ l
      · have hkb : k < bs'.length := by have := hb'.out.1; have := HBS.out; have := HK.out; omega
        have c2 := (hE'.caps _ _ (by rw [HC.out]; exact .tail _ (.head _))).1
        have g1 := hE'.cells k hkb
        have g2 := hE'.free k
        have hset := hE'.set hkb j
        have d4 := (hset.caps _ _ (by rw [HC.out]; exact .tail _ (.tail _ (.tail _ (.head _))))).1
        have n4 := (hset.caps _ _ (by rw [HC.out]; exact .tail _ (.tail _ (.tail _ (.head _))))).2.1
        have hcall := IH.out (k + 1) (l - j) (bs'.set k j) L' G' _ ((k : Int) + 1) ((l : Int) - j) (by omega) (by omega) (by have := HK.out; omega) (by omega) (by have := hb'.out.1; have := HBS.out; simp; omega) hn' hset
        rw [take_set_succ hkb, hb'.out.2] at hcall
        have hL2 : capA L' ((ofSz r (l - j)).map (bs.take k ++ [(j : Int)] ++ ·)) = capA L (ofSzTo (bs.take k) r l (j + 1)) := by
          rw [hL'.out, capA_capA, ofSzTo_succ]; simp
        rw [hL2] at hcall
        have hz : (wr.setCell ⟨gb, k, none⟩ (.int .i64 j)).heap.size = wr.heap.size := (Exc.setCell wr ⟨gb, k, none⟩ (.int .i64 j)).size
        have HCL := Lib.hid hcall
        have HZ := Lib.hid hz
        have HKB := Lib.hid hkb
        clear hcall hL2 hset hz hE'
        obtain ⟨L2, hL2⟩ : ∃ L2, L2 = capA L (ofSzTo (bs.take k) r l (j + 1)) := ⟨_, rfl⟩
        rw [← hL2] at HCL
        have HL2 := Lib.hid hL2
        clear hL2
        have hfin : ∀ (bs2 : List Int) (G2 : List Nat) (w1 : World), bs2.length = (bs'.set k (j : Int)).length → bs2.take (k + 1) = bs.take k ++ [(j : Int)] → Chg (gb :: gl :: G') (wr.setCell ⟨gb, k, none⟩ (.int .i64 j)) w1 → (∀ g, g ∈ G2 → g ∈ G' ∨ (wr.setCell ⟨gb, k, none⟩ (.int .i64 j)).heap.size ≤ g) →
            (bs2.length = bs.length ∧ bs2.take k = bs.take k) ∧ Chg (gb :: gl :: G) w w1 ∧ ∀ g, g ∈ G2 → g ∈ G ∨ w.heap.size ≤ g := by
          intro bs2 G2 w1 h1 h2 h3 h4
          have hw := HCH.out.size
          refine ⟨⟨by have := hb'.out.1; simp at h1; omega, ?_⟩, ?_, fun g hg => ?_⟩
          · have := congrArg (List.take k) h2
            rw [List.take_take, Nat.min_eq_left (by omega)] at this
            rw [this, List.take_append_of_le_length (by have := HKB.out; have := hb'.out.1; simp; omega), List.take_take, Nat.min_self]
          · refine ⟨(h3.os.trans ?_).trans HCH.out.os, (h3.tape.trans ?_).trans HCH.out.tape, (h3.output.trans ?_).trans HCH.out.output, by have := h3.size; rw [HZ.out] at this; omega, fun q hq hn => ?_⟩
            · exact (Exc.setCell wr ⟨gb, k, none⟩ (.int .i64 j)).os
            · exact (Exc.setCell wr ⟨gb, k, none⟩ (.int .i64 j)).tape
            · exact (Exc.setCell wr ⟨gb, k, none⟩ (.int .i64 j)).output
            · have a1 := HCH.out.block q hq hn
              have a2 := (Exc.setCell wr ⟨gb, k, none⟩ (.int .i64 j)).block q (by simp at hn ⊢; exact hn.1)
              have a3 := h3.block q (by rw [HZ.out]; omega) (by
                simp at hn ⊢
                refine ⟨hn.1, hn.2.1, fun hg => ?_⟩
                rcases HM.out q hg with hh | hh
                · exact hn.2.2 hh
                · omega)
              rw [a3, a2, a1]
          · rcases h4 g hg with hh | hh
            · exact HM.out g hh
            · rw [HZ.out] at hh; exact .inr (by omega)
        have HF := Lib.hid hfin
        clear hfin
        go_wp2_with fail
        refine HCL.out.mono ?_
        rintro e w1 ⟨he, bs2, G2, hE2, hbl2, hbt2, hc2, hm2⟩
        have HR := Lib.hid (HF.out bs2 G2 w1 hbl2 (hbt2.trans (by rw [take_set_succ HKB.out, hb'.out.2])) hc2 hm2)
        have HE2 := Lib.hid hE2
        clear hbl2 hbt2 hc2 hm2 g1 g2 d4 c2 hE2
        by_cases hq : L2.length ≤ 2000
        · rw [decide_eq_true hq] at he
          subst he
          go_wp2
          go_roundw
          case rel => exact ⟨j + 1, bs2, L2, G2, by omega, by go_num, HL2, hq, HE2.out, Lib.hid HR.out.1, HR.out.2.1, HR.out.2.2⟩
          case measure => simp [intOf]; omega
        · rw [decide_eq_false hq] at he
          subst he
          go_wp2
          go_ret
          have hfull : capA L ((ofSz (r + 1) l).map (bs.take k ++ ·)) = L2 := by
            obtain ⟨rest, hr⟩ := ofSzTo_split (bs.take k) r l (show j + 1 ≤ l + 1 by omega)
            rw [← ofSzTo_full, hr, capA_full rest (by rw [← HL2.out]; exact hq), ← HL2.out]
          rw [hfull]
          exact ⟨ret_bool (by simpa using hq), bs2, G2, HE2.out, HR.out.1.1, HR.out.1.2, HR.out.2.1, HR.out.2.2⟩
      · go_wp2
        go_ret
        have e : j = l + 1 := by omega
        have hfull : capA L ((ofSz (r + 1) l).map (bs.take k ++ ·)) = L' := by rw [← ofSzTo_full, ← e, ← hL'.out]
        rw [hfull]
        exact ⟨ret_bool (by simpa using hn'), bs', G', hE', hb'.out.1, hb'.out.2, HCH.out, HM.out⟩
/-- What a function that lists lists returns: all of them, or nothing and a code. -/
def RetLists (w : World) (R : List (List Int) × Int) (e : Ending) (w' : World) : Prop := RetDC w (dII R.1) R.2 e w'
set_option maxHeartbeats 1000000 in
theorem result_c (B gl : Nat) (L : List (List Int)) (G : List Nat) (w0 w : World) (hb : Box 34 1 w B gl L.length (L.map dI) G) (h0 : Below w0.heap.size w0 w) (hB : w0.heap.size ≤ B) (hl : L.length ≤ 2001) :
    Calls Try.prog 161 #[.pointer (some ⟨gl, 0, none⟩)] w (RetLists w0 (lim L)) := by
  obtain ⟨v, hc, hL⟩ := hb.has
  obtain ⟨G', hO, hN, hS⟩ := hL.ow (by omega) (by unfold maxLen; omega)
  have hlt := hb.lt
  obtain ⟨_, a, cp, rfl⟩ := hL.val
  by_cases hq : L.length ≤ 2000
  · rw [lim, if_pos hq]
    have HR : Hid (RetLists w0 (L, 0) (.returned (.tuple #[.slice a L.length cp, .int .i64 0])) w) := Lib.hid ⟨_, G', rfl, h0, hO, hN, fun g hg => Nat.le_trans hB (hlt.2 g (hS g hg)).1⟩
    clear hb hL hO hlt
    go_enter Try.func161, Try.ntmps161
    go_wp2
    go_ret2
    exact HR.out
  · rw [lim, if_neg hq]
    clear hb hL hO hlt
    go_enter Try.func161, Try.ntmps161
    go_wp2
    go_ret2
    exact RetDC.none _ _ _ h0
/-- The four cells that a function which lists lists begins with: at po what points to gl, where the lists are collected; at pb the numbers' slice, the numbers in gb. -/
def Init (w : World) (K : Nat) (s6 s7 : Value) (wx : World) : Prop :=
  ∃ po pb gl gb : Nat, s6 = .pointer (some ⟨po, 0, none⟩) ∧ s7 = .pointer (some ⟨pb, 0, none⟩) ∧ wx.cell? ⟨po, 0, none⟩ = some (.pointer (some ⟨gl, 0, none⟩)) ∧ wx.cell? ⟨pb, 0, none⟩ = some (.slice (some ⟨gb, 0, none⟩) K K) ∧ wx.cell? ⟨gl, 0, none⟩ = some (.slice none 0 0) ∧
    wx.frozen? ⟨gl, 0, none⟩ = false ∧ (∀ i, i < K → wx.cell? ⟨gb, i, none⟩ = some (.int .i64 0)) ∧ (∀ i, wx.frozen? ⟨gb, i, none⟩ = false) ∧ (w.heap.size ≤ po ∧ w.heap.size ≤ pb ∧ w.heap.size ≤ gl ∧ w.heap.size ≤ gb) ∧ (gb < wx.heap.size ∧ po ≠ pb ∧ po ≠ gl ∧ po ≠ gb ∧ pb ≠ gl ∧ pb ≠ gb ∧ gl ≠ gb) ∧ Below w.heap.size w wx
theorem Init.enm {wx : World} {K gl gb B : Nat} {C : List (Nat × Value)} {E : TypeId} (h1 : wx.cell? ⟨gl, 0, none⟩ = some (.slice none 0 0)) (h2 : wx.frozen? ⟨gl, 0, none⟩ = false) (h3 : ∀ i, i < K → wx.cell? ⟨gb, i, none⟩ = some (.int .i64 0)) (h4 : ∀ i, wx.frozen? ⟨gb, i, none⟩ = false)
    (h5 : gb < wx.heap.size) (h6 : gl ≠ gb) (h7 : B ≤ gb ∧ B ≤ gl ∧ B ≤ wx.heap.size) (hC : ∀ p v, (p, v) ∈ C → wx.cell? ⟨p, 0, none⟩ = some v ∧ p ≠ gb ∧ p ≠ gl) : Enm wx B C gb gl (List.replicate K 0) [] [] E :=
  ⟨fun p v hp => ⟨(hC p v hp).1, (hC p v hp).2.1, (hC p v hp).2.2, by simp⟩, fun i hi => by simp at hi; rw [h3 i hi]; simp [nth, hi], h4, ⟨h2, ⟨_, h1, Lst.nil _ _ _ _⟩, by simp⟩, fun e => h6 e.symm, by simp, h5, h7⟩

/- All bags of a size, all parts of a bag: the program's functions. -/
set_option maxHeartbeats 2000000 in
theorem implBagsOfSize_d (kinds size : Int) (w : World) :
    Calls Try.prog 56 #[.int .i64 kinds, .int .i64 size] w (RetLists w (bagsOfSizeS kinds size)) := by
  cases h1 : inRg kinds 1 8
  · have e : bagsOfSizeS kinds size = ([], 2) := by simp [bagsOfSizeS, h1]
    rw [e]
    have H1 := Lib.hid h1
    clear h1 e
    go_enter Try.func56, Try.ntmps56
    go_wp2_with fail
    refine (inRange_c _ _ _ _).mono ?_
    rintro e w' ⟨rfl, rfl⟩
    rw [H1.out]
    go_wp2
    go_ret2
    exact RetDC.none _ _ _ (below_alloc _ _)
  · cases h2 : inRg size 0 1000
    · have e : bagsOfSizeS kinds size = ([], 2) := by simp [bagsOfSizeS, h2]
      rw [e]
      have H1 := Lib.hid h1
      have H2 := Lib.hid h2
      clear h1 h2 e
      go_enter Try.func56, Try.ntmps56
      go_wp2_with fail
      refine (inRange_c _ _ _ _).mono ?_
      rintro e w' ⟨rfl, rfl⟩
      rw [H1.out]
      go_wp2_with fail
      refine (inRange_c _ _ _ _).mono ?_
      rintro e w' ⟨rfl, rfl⟩
      rw [H2.out]
      go_wp2
      go_ret2
      exact RetDC.none _ _ _ (below_alloc _ _)
    · have b1 : 1 ≤ kinds ∧ kinds ≤ 8 := by simpa [inRg] using h1
      have b2 : 0 ≤ size ∧ size ≤ 1000 := by simpa [inRg] using h2
      obtain ⟨K, rfl⟩ : ∃ K : Nat, kinds = K := ⟨kinds.toNat, by omega⟩
      obtain ⟨l, rfl⟩ : ∃ l : Nat, size = l := ⟨size.toNat, by omega⟩
      have e : bagsOfSizeS K l = lim (ofSz (K - 1) l) := by simp [bagsOfSizeS, h1, h2]
      rw [e]
      have H1 := Lib.hid h1
      have H2 := Lib.hid h2
      clear h1 h2 e
      have hmk := make_run1 (P := Try.prog) tabI rfl (by decide) K (by omega)
      go_enter Try.func56, Try.ntmps56
      go_upto_region 3 with (go_at_call 156; refine (inRange_c _ _ _ _).mono ?_; rintro e w' ⟨rfl, rfl⟩; (first | rw [H1.out] | rw [H2.out]))
      go_cut [6, 7] (fun s6 s7 wx => Init (w.alloc (.cells #[.int .i64 K] 2)) K s6 s7 wx)
      case first =>
        go_region
        all_goals
          go_wp2_with fail
          go_meet
        all_goals first
          | (refine ⟨_, _, w.heap.size + 1, w.heap.size + 1 + 1, rfl, rfl, ?_, ?_, ?_, ?_, ?_, ?_, ?_, ?_, ?_⟩ <;> (first | (simp [go_sem]; done) | omega | (simp; omega) | (intro i hi; simp [go_sem, hi]; done) | (intro i; simp [go_sem]; done) | ((repeat (first | exact Below.refl _ _ | refine Below.drew ?_ | refine Below.alloc ?_ (by simp <;> omega) _)); done)))
          | (refine ⟨_, _, w.heap.size + 1, w.heap.size + 1 + 1 + 1, rfl, rfl, ?_, ?_, ?_, ?_, ?_, ?_, ?_, ?_, ?_⟩ <;> (first | (simp [go_sem]; done) | omega | (simp; omega) | (intro i hi; simp [go_sem, hi]; done) | (intro i; simp [go_sem]; done) | ((repeat (first | exact Below.refl _ _ | refine Below.drew ?_ | refine Below.alloc ?_ (by simp <;> omega) _)); done)))
          | (refine ⟨_, _, w.heap.size + 1, w.heap.size + 1 + 1 + 1 + 1, rfl, rfl, ?_, ?_, ?_, ?_, ?_, ?_, ?_, ?_, ?_⟩ <;> (first | (simp [go_sem]; done) | omega | (simp; omega) | (intro i hi; simp [go_sem, hi]; done) | (intro i; simp [go_sem]; done) | ((repeat (first | exact Below.refl _ _ | refine Below.drew ?_ | refine Below.alloc ?_ (by simp <;> omega) _)); done)))
          | (refine ⟨_, _, w.heap.size + 1 + 1, w.heap.size + 1, rfl, rfl, ?_, ?_, ?_, ?_, ?_, ?_, ?_, ?_, ?_⟩ <;> (first | (simp [go_sem]; done) | omega | (simp; omega) | (intro i hi; simp [go_sem, hi]; done) | (intro i; simp [go_sem]; done) | ((repeat (first | exact Below.refl _ _ | refine Below.drew ?_ | refine Below.alloc ?_ (by simp <;> omega) _)); done)))
          | (refine ⟨_, _, w.heap.size + 1 + 1, w.heap.size + 1 + 1 + 1, rfl, rfl, ?_, ?_, ?_, ?_, ?_, ?_, ?_, ?_, ?_⟩ <;> (first | (simp [go_sem]; done) | omega | (simp; omega) | (intro i hi; simp [go_sem, hi]; done) | (intro i; simp [go_sem]; done) | ((repeat (first | exact Below.refl _ _ | refine Below.drew ?_ | refine Below.alloc ?_ (by simp <;> omega) _)); done)))
          | (refine ⟨_, _, w.heap.size + 1 + 1, w.heap.size + 1 + 1 + 1 + 1, rfl, rfl, ?_, ?_, ?_, ?_, ?_, ?_, ?_, ?_, ?_⟩ <;> (first | (simp [go_sem]; done) | omega | (simp; omega) | (intro i hi; simp [go_sem, hi]; done) | (intro i; simp [go_sem]; done) | ((repeat (first | exact Below.refl _ _ | refine Below.drew ?_ | refine Below.alloc ?_ (by simp <;> omega) _)); done)))
          | (refine ⟨_, _, w.heap.size + 1 + 1 + 1, w.heap.size + 1, rfl, rfl, ?_, ?_, ?_, ?_, ?_, ?_, ?_, ?_, ?_⟩ <;> (first | (simp [go_sem]; done) | omega | (simp; omega) | (intro i hi; simp [go_sem, hi]; done) | (intro i; simp [go_sem]; done) | ((repeat (first | exact Below.refl _ _ | refine Below.drew ?_ | refine Below.alloc ?_ (by simp <;> omega) _)); done)))
          | (refine ⟨_, _, w.heap.size + 1 + 1 + 1, w.heap.size + 1 + 1, rfl, rfl, ?_, ?_, ?_, ?_, ?_, ?_, ?_, ?_, ?_⟩ <;> (first | (simp [go_sem]; done) | omega | (simp; omega) | (intro i hi; simp [go_sem, hi]; done) | (intro i; simp [go_sem]; done) | ((repeat (first | exact Below.refl _ _ | refine Below.drew ?_ | refine Below.alloc ?_ (by simp <;> omega) _)); done)))
          | (refine ⟨_, _, w.heap.size + 1 + 1 + 1, w.heap.size + 1 + 1 + 1 + 1, rfl, rfl, ?_, ?_, ?_, ?_, ?_, ?_, ?_, ?_, ?_⟩ <;> (first | (simp [go_sem]; done) | omega | (simp; omega) | (intro i hi; simp [go_sem, hi]; done) | (intro i; simp [go_sem]; done) | ((repeat (first | exact Below.refl _ _ | refine Below.drew ?_ | refine Below.alloc ?_ (by simp <;> omega) _)); done)))
          | (refine ⟨_, _, w.heap.size + 1 + 1 + 1 + 1, w.heap.size + 1, rfl, rfl, ?_, ?_, ?_, ?_, ?_, ?_, ?_, ?_, ?_⟩ <;> (first | (simp [go_sem]; done) | omega | (simp; omega) | (intro i hi; simp [go_sem, hi]; done) | (intro i; simp [go_sem]; done) | ((repeat (first | exact Below.refl _ _ | refine Below.drew ?_ | refine Below.alloc ?_ (by simp <;> omega) _)); done)))
          | (refine ⟨_, _, w.heap.size + 1 + 1 + 1 + 1, w.heap.size + 1 + 1, rfl, rfl, ?_, ?_, ?_, ?_, ?_, ?_, ?_, ?_, ?_⟩ <;> (first | (simp [go_sem]; done) | omega | (simp; omega) | (intro i hi; simp [go_sem, hi]; done) | (intro i; simp [go_sem]; done) | ((repeat (first | exact Below.refl _ _ | refine Below.drew ?_ | refine Below.alloc ?_ (by simp <;> omega) _)); done)))
          | (refine ⟨_, _, w.heap.size + 1 + 1 + 1 + 1, w.heap.size + 1 + 1 + 1, rfl, rfl, ?_, ?_, ?_, ?_, ?_, ?_, ?_, ?_, ?_⟩ <;> (first | (simp [go_sem]; done) | omega | (simp; omega) | (intro i hi; simp [go_sem, hi]; done) | (intro i; simp [go_sem]; done) | ((repeat (first | exact Below.refl _ _ | refine Below.drew ?_ | refine Below.alloc ?_ (by simp <;> omega) _)); done)))
      case rest =>
        obtain ⟨po, pb, gl, gb, rfl, rfl, h1, h2, h3, h4, h5, h6, ⟨o1, o2, o3, o4⟩, ⟨k1, k2, k3, k4, k5, k6, k7⟩, hb⟩ := hcut
        have hk0 : wc.cell? ⟨w.heap.size, 0, none⟩ = some (.int .i64 K) := by rw [bcell1 hb (by simp)]; simp [go_sem]
        simp only [World.size_alloc] at o1 o2 o3 o4
        have z1 := World.block_lt_of_cell? wc _ h1
        have z2 := World.block_lt_of_cell? wc _ h2
        have z3 := World.block_lt_of_cell? wc _ h3
        have z0 := World.block_lt_of_cell? wc _ hk0
        simp only at z1 z2 z3 z0
        have hE : Enm (wc.alloc (.cells #[.func (.func 159) #[] #[.pointer (some ⟨w.heap.size, 0, none⟩), .pointer (some ⟨pb, 0, none⟩), .pointer (some ⟨po, 0, none⟩), .pointer (some ⟨wc.heap.size, 0, none⟩)]] 183)) w.heap.size
            [(w.heap.size, .int .i64 K), (pb, .slice (some ⟨gb, 0, none⟩) K K), (po, .pointer (some ⟨gl, 0, none⟩)), (wc.heap.size, .func (.func 159) #[] #[.pointer (some ⟨w.heap.size, 0, none⟩), .pointer (some ⟨pb, 0, none⟩), .pointer (some ⟨po, 0, none⟩), .pointer (some ⟨wc.heap.size, 0, none⟩)])]
            gb gl (List.replicate K 0) [] [] 34 := by
          have hA := below_alloc wc (.cells #[.func (.func 159) #[] #[.pointer (some ⟨w.heap.size, 0, none⟩), .pointer (some ⟨pb, 0, none⟩), .pointer (some ⟨po, 0, none⟩), .pointer (some ⟨wc.heap.size, 0, none⟩)]] 183)
          refine Init.enm (by rw [bcell1 hA z3]; exact h3) (by rw [hA.frozen (p := ⟨gl, 0, none⟩) z3]; exact h4) (fun i hi => by rw [bcell1 hA k1]; exact h5 i hi) (fun i => by rw [hA.frozen (p := ⟨gb, i, none⟩) k1]; exact h6 i) (by simp; omega) k7 ⟨by omega, by omega, by simp; omega⟩ ?_
          intro p v hp
          simp only [List.mem_cons, Prod.mk.injEq, List.not_mem_nil, or_false] at hp
          rcases hp with ⟨rfl, rfl⟩ | ⟨rfl, rfl⟩ | ⟨rfl, rfl⟩ | ⟨rfl, rfl⟩
          · exact ⟨by rw [bcell1 hA z0]; exact hk0, by omega, by omega⟩
          · exact ⟨by rw [bcell1 hA z2]; exact h2, by omega, by omega⟩
          · exact ⟨by rw [bcell1 hA z1]; exact h1, by omega, by omega⟩
          · exact ⟨by simp [go_sem], by omega, by omega⟩
        have hcall := bagsFrom_c w.heap.size gb gl w.heap.size pb po wc.heap.size K _ rfl (by omega) (K - 1) 0 l (List.replicate K 0) [] [] _ 0 l rfl rfl (by omega) (by omega) (by simp) (by simp) hE
        have HCL := Lib.hid hcall
        have hb0 : Below w.heap.size w wc := bnext (below_alloc _ _) hb (Nat.le_refl _)
        have HB := Lib.hid hb0
        have HE := Lib.hid hE
        clear hE hcall hb0 hb h1 h2 h3 h4 h5 h6 hk0
        go_wp2_with fail
        refine HCL.out.mono ?_
        rintro e w1 ⟨he, bs', G', hE', -, -, hc', hm'⟩
        have hlen : (capA [] ((ofSz (K - 1) l).map ((List.replicate K (0 : Int)).take 0 ++ ·))) = (ofSz (K - 1) l).take 2001 := by simp [capA]
        rw [hlen] at he hE'
        subst he
        have o5 := (hE'.caps po _ (.tail _ (.tail _ (.head _)))).1
        have hb1 : Below w.heap.size w w1 := (HB.out.alloc (by have := HB.out.size; omega) _).trans (hc'.below (by have := HB.out.size; simp; omega) (fun g hg => by simp at hg; rcases hg with rfl | rfl <;> omega))
        have hres := result_c w.heap.size gl _ G' w w1 hE'.box hb1 (Nat.le_refl _) (by simp; omega)
        rw [lim_take] at hres
        have HR := Lib.hid hres
        clear hE' hc' hm' hb1 hres hlen
        go_wp2_with fail
        refine HR.out.mono ?_
        rintro e w2 ⟨v, F, rfl, h1, h2, h3, h4⟩
        have HX := Lib.hid (show RetLists w (lim (ofSz (K - 1) l)) _ w2 from ⟨v, F, rfl, h1, h2, h3, h4⟩)
        clear h1 h2 h3 h4
        go_wp2
        go_ret2
        exact HX.out
end Go.Proofs.Ythlbogmnnenkoaa
