/- The rules that a program becomes: what they are; rules under construction in memory. -/
import Derived.Test.YtncndnholheemaaNH
import Derived.Test.YtncndnholheemaaTR
namespace Go.Proofs.Ytncndnholheemaa
open Go.RowKit

/-- One object more of a kind. -/
def incr (xs : List Int) (k : Nat) : List Int := xs.set k (nth xs k + 1)
theorem incr_len (xs : List Int) (k : Nat) : (incr xs k).length = xs.length := by simp [incr]
def bagTo (K : Nat) (ks : List Int) : Nat → List Int
  | 0 => List.replicate K 0
  | i + 1 => incr (bagTo K ks i) (nth ks i).toNat
/-- A bag with one object of some kinds each. -/
def bagK (K : Nat) (ks : List Int) : List Int := bagTo K ks ks.length
theorem bagTo_len (K : Nat) (ks : List Int) : ∀ i, (bagTo K ks i).length = K
  | 0 => by simp [bagTo]
  | i + 1 => by rw [bagTo, incr_len]; exact bagTo_len K ks i
theorem bagK_len (K : Nat) (ks : List Int) : (bagK K ks).length = K := bagTo_len _ _ _
theorem nth_upd {xs : List Int} {i j : Nat} {v : Int} (h : i < xs.length) : nth (xs.set i v) j = if j = i then v else nth xs j := by
  by_cases e : j = i
  · subst e; simp [nth, h]
  · simp [nth, e, Ne.symm e]
theorem nth_incr {xs : List Int} {k j : Nat} (h : k < xs.length) : nth (incr xs k) j = if j = k then nth xs k + 1 else nth xs j := nth_upd h
theorem bagTo_bd (K : Nat) (ks : List Int) (h : ∀ j, j < ks.length → 0 ≤ nth ks j ∧ nth ks j < K) : ∀ i, i ≤ ks.length → ∀ j, 0 ≤ nth (bagTo K ks i) j ∧ nth (bagTo K ks i) j ≤ i
  | 0, _, j => by
    have : nth (List.replicate K (0 : Int)) j = 0 := by
      simp only [nth, List.getD_eq_getElem?_getD, List.getElem?_replicate]
      split <;> rfl
    rw [bagTo, this]; omega
  | i + 1, hi, j => by
    have ih := bagTo_bd K ks h i (by omega)
    have := h i (by omega)
    rw [bagTo, nth_incr (by rw [bagTo_len]; omega)]
    split
    · have := ih (nth ks i).toNat; omega
    · have := ih j; omega
def isSub (o : Ord) : Bool := o.op == 2
/-- How many orders ahead of one take away. -/
def subsTo (os : List Ord) : Nat → Nat
  | 0 => 0
  | i + 1 => subsTo os i + if isSub (nthO os i) = true then 1 else 0
theorem subsTo_le (os : List Ord) : ∀ i, subsTo os i ≤ i
  | 0 => Nat.le_refl _
  | i + 1 => by have := subsTo_le os i; rw [subsTo]; split <;> omega
theorem subsTo_mono (os : List Ord) : ∀ i d, subsTo os i ≤ subsTo os (i + d)
  | _, 0 => Nat.le_refl _
  | i, d + 1 => by have := subsTo_mono os i d; rw [← Nat.add_assoc, subsTo]; omega
/-- How many kinds of objects there are. -/
def kindsN (R : Nat) (os : List Ord) (mode : Int) : Nat := R + os.length + 1 + if mode = 3 then subsTo os os.length + 1 else 0
def rulK (K : Nat) (rank : Int) (need hav lack here : List Int) : Rul := ⟨0, rank, bagK K need, bagK K hav, bagK K lack, bagK K here, bagK K [], [], false⟩
/-- The rules of an order. -/
def ordRules (R : Nat) (os : List Ord) (mode : Int) (K i : Nat) : List Rul :=
  if (nthO os i).op = 1 then
    rulK K 0 [(R : Int) + i] [] [] [(nthO os i).reg, R + (nthO os i).to] :: (if (nthO os i).els = (nthO os i).to then [] else [rulK K 0 [(R : Int) + i] [] [] [(nthO os i).reg, R + (nthO os i).els]])
  else if (nthO os i).op = 2 then
    if mode = 1 then [rulK K 1 [(R : Int) + i, (nthO os i).reg] [] [] [R + (nthO os i).to], rulK K 0 [(R : Int) + i] [] [] [R + (nthO os i).els]]
    else if mode = 2 then [rulK K 0 [(R : Int) + i, (nthO os i).reg] [] [] [R + (nthO os i).to], rulK K 0 [(R : Int) + i] [] [(nthO os i).reg] [R + (nthO os i).els]]
    else [rulK K 0 [(R : Int) + i, (nthO os i).reg] [] [] [R + (nthO os i).to], rulK K 0 [(R : Int) + i] [] [] [(R + os.length + 1 + subsTo os i : Nat)], rulK K 0 [(R + os.length + 1 + subsTo os i : Nat)] [] [] [R + (nthO os i).els],
      rulK K 0 [(nthO os i).reg] [(R + os.length + 1 + subsTo os i : Nat)] [] [(K : Int) - 1]]
  else []
def rulesTo (R : Nat) (os : List Ord) (mode : Int) (K : Nat) : Nat → List Rul
  | 0 => []
  | i + 1 => rulesTo R os mode K i ++ ordRules R os mode K i
/-- All rules. -/
def rulesS (R : Nat) (os : List Ord) (mode : Int) : List Rul :=
  rulesTo R os mode (kindsN R os mode) os.length ++ if mode = 3 then [rulK (kindsN R os mode) 0 [(kindsN R os mode : Int) - 1] [] [] [(kindsN R os mode : Int) - 1]] else []
/-- The index of the first rule of each order. -/
def firstTo (R : Nat) (os : List Ord) (mode : Int) (K : Nat) (i : Nat) : List Int := (List.range i).map fun j => ((rulesTo R os mode K j).length : Int)
theorem firstTo_succ (R : Nat) (os : List Ord) (mode : Int) (K i : Nat) : firstTo R os mode K (i + 1) = firstTo R os mode K i ++ [((rulesTo R os mode K i).length : Int)] := by simp [firstTo, List.range_succ]
theorem firstTo_len (R : Nat) (os : List Ord) (mode : Int) (K i : Nat) : (firstTo R os mode K i).length = i := by simp [firstTo]
theorem ordRules_len (R : Nat) (os : List Ord) (mode : Int) (K i : Nat) : (ordRules R os mode K i).length ≤ 4 := by
  unfold ordRules
  repeat' split
  all_goals simp
theorem rulesTo_len (R : Nat) (os : List Ord) (mode : Int) (K : Nat) : ∀ i, (rulesTo R os mode K i).length ≤ 4 * i
  | 0 => by simp [rulesTo]
  | i + 1 => by have := rulesTo_len R os mode K i; have := ordRules_len R os mode K i; rw [rulesTo, List.length_append]; omega
def tooGreat (R : Nat) (os : List Ord) (mode : Int) : Bool := decide (8 < kindsN R os mode) || decide (8 < (rulesS R os mode).length)
/-- The code of a program, a mode and something else that has to be right. -/
def modeCodeS (R : Int) (os : List Ord) (mode : Int) (right : Bool) : Int :=
  if validProgS R os = true then (if (inRg mode 1 3 && right) = true then (if tooGreat R.toNat os mode = true then 3 else 0) else 2) else 1
/-- What is known of a valid program. -/
structure PgOk (R : Nat) (os : List Ord) : Prop where
  r1 : 1 ≤ R
  r3 : R ≤ 3
  n1 : 1 ≤ os.length
  n6 : os.length ≤ 6
  ord : ∀ i, i < os.length → okOrd R os.length (nthO os i) = true
theorem PgOk.of {R : Int} {os : List Ord} (h : validProgS R os = true) : ∃ K : Nat, R = K ∧ PgOk K os := by
  simp only [validProgS, Bool.and_eq_true] at h
  obtain ⟨⟨h1, h2⟩, h3⟩ := h
  simp only [inRg, Bool.and_eq_true, decide_eq_true_eq] at h1 h2
  refine ⟨R.toNat, by omega, by omega, by omega, by omega, by omega, fun i hi => ?_⟩
  rw [allO, List.all_eq_true] at h3
  have := h3 (nthO os i) (by rw [nthO_lt hi]; exact List.getElem_mem hi)
  rwa [show ((R.toNat : Nat) : Int) = R by omega]
theorem PgOk.at {R : Nat} {os : List Ord} (h : PgOk R os) {i : Nat} (hi : i < os.length) :
    (((nthO os i).op = 1 ∨ (nthO os i).op = 2) ∧ 0 ≤ (nthO os i).reg ∧ (nthO os i).reg < R ∧ 0 ≤ (nthO os i).to ∧ (nthO os i).to ≤ os.length ∧ 0 ≤ (nthO os i).els ∧ (nthO os i).els ≤ os.length) ∨ ((nthO os i).op = 3 ∧ (nthO os i).reg = 0 ∧ (nthO os i).to = 0 ∧ (nthO os i).els = 0) := by
  have := h.ord i hi
  unfold okOrd at this
  split at this
  · rename_i h1
    simp only [inRg, Bool.and_eq_true, decide_eq_true_eq] at this
    exact .inl ⟨h1, by omega, by omega, by omega, by omega, by omega, by omega⟩
  · exact .inr (by simpa using this)
theorem kindsN_le {R : Nat} {os : List Ord} (h : PgOk R os) (mode : Int) : R + os.length + 1 ≤ kindsN R os mode ∧ kindsN R os mode ≤ 17 := by
  have := subsTo_le os os.length
  have := h.r3; have := h.n6
  unfold kindsN; split <;> omega

/- Rules under construction in memory. -/
theorem OwA.mid {w : World} : ∀ (ds1 : List D) (d : D) (ds2 : List D) (vs : List Value) (F : List Nat), OwA w (ds1 ++ d :: ds2) vs F →
    ∃ vs1 v vs2 F1 F2 F3, vs = vs1 ++ v :: vs2 ∧ vs1.length = ds1.length ∧ OwA w ds1 vs1 F1 ∧ Ow w d v F2 ∧ OwA w ds2 vs2 F3 ∧ F = F1 ++ (F2 ++ F3)
  | [], d, ds2, v :: vs, F, h => by
    obtain ⟨F1, F2, h1, h2, rfl⟩ := h
    exact ⟨[], v, vs, [], F1, F2, rfl, rfl, rfl, h1, h2, rfl⟩
  | [], _, _, [], _, h => h.elim
  | e :: ds1, d, ds2, v :: vs, F, h => by
    obtain ⟨F1, F2, h1, h2, rfl⟩ := h
    obtain ⟨vs1, u, vs2, G1, G2, G3, rfl, hl, g1, g2, g3, rfl⟩ := OwA.mid ds1 d ds2 vs F2 h2
    exact ⟨v :: vs1, u, vs2, F1 ++ G1, G2, G3, rfl, by simp [hl], ⟨F1, G1, h1, g1, rfl⟩, g2, g3, by simp⟩
  | _ :: _, _, _, [], _, h => h.elim
theorem ownsRow_set {w : World} {B : Nat} {E : TypeId} {k g n c : Nat} {vs : List Value} (h : w.ownsRow B E k (.slice (some ⟨g, 0, none⟩) n c) n vs) (i : Nat) (v : Value) :
    (w.setCell ⟨g, i, none⟩ v).ownsRow B E k (.slice (some ⟨g, 0, none⟩) n c) n (vs.set i v) := by
  obtain ⟨h0, h2⟩ := h
  refine ⟨by simpa using h0, ?_⟩
  rcases h2 with ⟨h1, _⟩ | ⟨g', cap, cur, h1, hB, hg, hn, hcap, hsz, htake⟩
  · cases h1
  · cases h1
    refine .inr ⟨g, c, cur.set! i v, rfl, hB, ?_, hn, hcap, by simpa using hsz, ?_⟩
    · simp [World.setCell, Array.getElem?_modify, hg]
    · have h3 : (cur.toList.set i v).take (n * k) = vs.set i v := by rw [List.take_set, htake]
      simpa using h3
theorem ownsRow_other {w : World} {B : Nat} {E : TypeId} {k n : Nat} {v : Value} {vs : List Value} (h : w.ownsRow B E k v n vs) {b i : Nat} (hb : b ∉ ob v) (u : Value) : (w.setCell ⟨b, i, none⟩ u).ownsRow B E k v n vs :=
  ownsRow_kept h fun g hg => (Exc.setCell w ⟨b, i, none⟩ u).block g (by simp; intro e; subst e; exact hb hg)
theorem OwA.put1 {w : World} {ds : List D} {vs : List Value} {F : List Nat} (h : OwA w ds vs F) {b i : Nat} (hb : b ∉ F) (u : Value) : OwA (w.setCell ⟨b, i, none⟩ u) ds vs F :=
  OwA.stable ds vs F (fun k hk => (Exc.setCell w ⟨b, i, none⟩ u).block k (by simp; intro e; subst e; exact hb hk)) h
/-- A list of numbers in a row of a list. -/
structure InRow (E : TypeId) (k : Nat) (w : World) (B : Nat) (v : Value) (n : Nat) (ds1 : List D) (xs : List Int) (ds2 : List D) (G : List Nat) (g a : Nat) (o c ca : Nat) : Prop where
  val : v = .slice (some ⟨g, 0, none⟩) n c
  cell : w.cell? ⟨g, ds1.length, none⟩ = some (.slice (some ⟨a, o, none⟩) xs.length ca)
  at_ : ∀ i, i < xs.length → w.cell? ⟨a, o + i, none⟩ = some (.int .i64 (nth xs i)) ∧ w.frozen? ⟨a, o + i, none⟩ = false
  mem : a ∈ G ∧ g ∈ G ∧ a ≠ g
  put : ∀ w', Below w.heap.size w w' → ∀ i y, i < xs.length → Lst E k (w'.setCell ⟨a, o + i, none⟩ (.int .i64 y)) B v n (ds1 ++ dI (xs.set i y) :: ds2) G
theorem Lst.inner {E : TypeId} {k : Nat} {w : World} {B : Nat} {v : Value} {n : Nat} {ds1 ds2 : List D} {xs : List Int} {G : List Nat} (h : Lst E k w B v n (ds1 ++ dI xs :: ds2) G) (h0 : 0 < xs.length) : ∃ g a o c ca, InRow E k w B v n ds1 xs ds2 G g a o c ca := by
  obtain ⟨vs, F, h1, h2, h3, h4, h5, rfl⟩ := h
  obtain ⟨vs1, u, vs2, F1, F2, F3, rfl, hl, g1, g2, g3, rfl⟩ := OwA.mid _ _ _ _ _ h2
  have h1' := h1
  rcases h1'.2 with ⟨rfl, hn⟩ | ⟨g, cap, cur, rfl, hB, hg, hcp, _⟩
  · have := h1'.1; rw [hn] at this; simp at this
  · obtain ⟨a, ca, rfl, hca, hoi⟩ := Ow_I.1 g2
    obtain ⟨⟨ga, o, rfl⟩, hFe⟩ := hoi.blk h0
    simp only [blk] at hFe
    subst hFe
    have hag : ga ≠ g := fun e => h5 g (mem_ob.2 rfl) (by simp [e])
    have hcell := World.ownsRow.cells (g := g) h1 rfl vs1.length (.slice (some ⟨ga, o, none⟩) xs.length ca) (by simp)
    rw [Addr.add_lit, Nat.zero_add, hl] at hcell
    have n1 : ga ∉ F1 := fun e => by simp [List.nodup_append] at h3; exact (h3.2.2 ga e).1 rfl
    have n3 : ga ∉ F3 := fun e => by simp [List.nodup_append] at h3; exact h3.2.1.1 e
    refine ⟨g, ga, o, cap, ca, rfl, hcell, fun i hi => ⟨by simpa [adr, blk, ofs] using hoi.cell i hi, by simpa [adr, blk, ofs] using hoi.free i hi⟩, ⟨by simp, by simp [ob, Value.ownBlock], hag⟩, fun w' hb i y hi => ?_⟩
    replace h1 := ownsRow_kept h1 (fun g hg => hb.block g (ob_lt h1 g hg).2)
    replace g1 := OwA.stable ds1 vs1 F1 (fun x hx => hb.block x (OwA.lt ds1 vs1 F1 g1 x hx)) g1
    replace g3 := OwA.stable ds2 vs2 F3 (fun x hx => hb.block x (OwA.lt ds2 vs2 F3 g3 x hx)) g3
    replace hoi := Ow.own (g2.below hb)
    refine ⟨_, _, ownsRow_other h1 (by simp [ob, Value.ownBlock]; exact hag) _, ?_, h3, h4, h5, rfl⟩
    refine OwA.app _ _ _ _ _ _ (g1.put1 n1 _) ⟨[ga], F3, ?_, g3.put1 n3 _, rfl⟩
    exact Ow_I.2 ⟨some ⟨ga, o, none⟩, ca, by simp, by simpa using hca, by simpa [adr, blk, ofs] using hoi.set hi y⟩
/-- A number in a row of a list. -/
theorem Lst.num {E : TypeId} {k : Nat} {w : World} {B : Nat} {v : Value} {n : Nat} {ds1 ds2 : List D} {x : Int} {G : List Nat} (h : Lst E k w B v n (ds1 ++ .i x :: ds2) G) :
    ∃ g c, v = .slice (some ⟨g, 0, none⟩) n c ∧ w.cell? ⟨g, ds1.length, none⟩ = some (.int .i64 x) ∧ w.frozen? ⟨g, ds1.length, none⟩ = false ∧ g ∈ G ∧ ∀ y, Lst E k (w.setCell ⟨g, ds1.length, none⟩ (.int .i64 y)) B v n (ds1 ++ .i y :: ds2) G := by
  obtain ⟨vs, F, h1, h2, h3, h4, h5, rfl⟩ := h
  obtain ⟨vs1, u, vs2, F1, F2, F3, rfl, hl, g1, g2, g3, rfl⟩ := OwA.mid _ _ _ _ _ h2
  have h1' := h1
  rcases h1'.2 with ⟨rfl, hn⟩ | ⟨g, cap, cur, rfl, hB, hg, hcp, _⟩
  · have := h1'.1; rw [hn] at this; simp at this
  · obtain ⟨rfl, rfl⟩ : u = .int .i64 x ∧ F2 = [] := g2
    have hcell := World.ownsRow.cells (g := g) h1 rfl vs1.length (.int .i64 x) (by simp)
    rw [Addr.add_lit, Nat.zero_add, hl] at hcell
    have hgF : g ∉ F1 ++ ([] ++ F3) := h5 g (mem_ob.2 rfl)
    refine ⟨g, cap, rfl, hcell, by simp [World.frozen?, hg], by simp [ob, Value.ownBlock], fun y => ?_⟩
    have hs := ownsRow_set h1 ds1.length (.int .i64 y)
    have e : (vs1 ++ Value.int .i64 x :: vs2).set ds1.length (.int .i64 y) = vs1 ++ .int .i64 y :: vs2 := by rw [← hl]; simp
    rw [e] at hs
    exact ⟨_, _, hs, OwA.app _ _ _ _ _ _ (g1.put1 (fun e => hgF (by simp [e])) _) ⟨[], F3, ⟨rfl, rfl⟩, g3.put1 (fun e => hgF (by simp [e])) _, rfl⟩, h3, h4, h5, rfl⟩
/-- Rules that are being made: block g has the number of kinds and the rules. -/
structure Mkr (E : TypeId) (B : Nat) (wr : World) (g K : Nat) (rs : List Rul) (v : Value) (G : List Nat) : Prop where
  c0 : wr.cell? ⟨g, 0, none⟩ = some (.int .i64 K)
  c1 : wr.cell? ⟨g, 1, none⟩ = some v
  fr : wr.frozen? ⟨g, 1, none⟩ = false
  lst : Lst E 9 wr B v rs.length (rs.flatMap Rul.ds) G
  ap : g ∉ G
  hg : B ≤ g ∧ g < wr.heap.size
theorem Mkr.keep {E : TypeId} {B : Nat} {wr w' : World} {g K : Nat} {rs : List Rul} {v : Value} {G : List Nat} (h : Mkr E B wr g K rs v G) (hb : Below wr.heap.size wr w') : Mkr E B w' g K rs v G :=
  ⟨(bcell1 hb h.hg.2).trans h.c0, (bcell1 hb h.hg.2).trans h.c1, (hb.frozen (p := ⟨g, 1, none⟩) h.hg.2).trans h.fr, h.lst.below hb, h.ap, h.hg.1, Nat.lt_of_lt_of_le h.hg.2 hb.size⟩
end Go.Proofs.Ytncndnholheemaa
