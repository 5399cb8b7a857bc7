/- Lists of lists that are collected: copies of lists, what is added, what is told. -/
import Derived.Test.YtbnikblhnibgiaaGreatDoorZ2
import Derived.Deep.DeepCutAuto
import Derived.Laws.EntriesVeiled
import Derived.Test.YtbnikblhnibgiaaGreatDoorZ1
namespace Go.Proofs.YtbnikblhnibgiaaGreatDoor
open Go.RowKit

/-- A call that returns a datum of its own, at a step of a region that draws its order. -/
theorem step_callD {P : Program} {ops : Array Oper} {o : Oper} {ac : Act} {w : World} {K : Act → World → Prop} {Q : Exit → Act → World → Prop} {X : Prop} (hgd : o.guard = none) (f : FuncId) (xs : Array Operand) (ts : Array TypeId)
    (ho : o.op = .call { callee := .value (.func f), args := xs, argTypes := ts }) (hrun : ∀ args w, (callFunc f args).run P w = .ok (.enter f args) w) (vs : Array Value) (hv : xs.map ac.eval = vs) (d : D)
    (h : Calls P f vs w (RetD w d)) (hK : ∀ v F w', Below w.heap.size w w' → Ow w' d v F → F.Nodup → (∀ g, g ∈ F → w.heap.size ≤ g) → K (ac.put o.dst v) w') : if Region.wanted o (yielded ops ac.tmps) = true then Oper.wp P o ac w K Q else X := by
  have hw : Region.wanted o (yielded ops ac.tmps) = true := by simp [Region.wanted, hgd]
  rw [if_pos hw]
  unfold Oper.wp execOp
  simp only [ho, resolve, Act.eval, Deferred.ofValue, Sem.run_bind, Sem.run_pure, Result.andThen_ok, invoke, Array.append_empty]
  rw [show xs.map (Act.eval ac) = vs from hv]
  simp only [Array.empty_append, hrun, Oper.upon_enter]
  refine h.mono fun e w' ⟨v, F, he, h1, h2, h3, h4⟩ => ?_
  subst he
  exact hK v F w' h1 h2 h3 h4
theorem make_run {P : Program} {T E k bytes : Nat} {z : Value} (tab : Tab P T E z k bytes) (_hk : 0 < k) (hby : bytes ≤ 1024) (n : Nat) (hn : n ≤ 4294967296) (w : World) :
    (Instr.makeSlice T (.int .i64 n) (.int .i64 n)).run P w = .ok (.slice (some ⟨w.heap.size, 0, none⟩) n n) (w.alloc (.cells (madeCells z.cells (n * k)) E)) := by
  obtain ⟨i0, hi, hz0, hz1, hz2⟩ := info_parts tab.info
  have hb : (i0.bytes : Int) * (n : Int) ≤ 281474976710656 := by
    have h : ((i0.bytes * n : Nat) : Int) ≤ 281474976710656 := by
      rw [hz2]
      have : bytes * n ≤ 1024 * 4294967296 := Nat.mul_le_mul hby hn
      omega
    rwa [Int.natCast_mul] at h
  have hr := run_make (P := P) w T E i0 z tab.under hi hz0 .i64 .i64 n n (by omega) (Int.le_refl _) hb (by omega)
  simp only [Int.toNat_natCast, hz1] at hr
  exact hr
theorem make_run1 {P : Program} {T E bytes : Nat} {z : Value} (tab : Tab P T E z 1 bytes) (hz : z.cells = #[z]) (hby : bytes ≤ 1024) (n : Nat) (hn : n ≤ 4294967296) (w : World) :
    (Instr.makeSlice T (.int .i64 n) (.int .i64 n)).run P w = .ok (.slice (some ⟨w.heap.size, 0, none⟩) n n) (w.alloc (.cells (Array.replicate n z) E)) := by
  rw [make_run tab (by omega) hby n hn w]
  congr 3
  apply Array.ext'
  rw [madeCells_one z hz]
  simp
theorem run_eql_some_nil {P : Program} (w : World) {t e : TypeId} (a : Addr) (n c : Nat) (ht : P.underlying t = some (.slice e)) :
    (binOp .eql t (.slice (some a) n c) (.slice none 0 0)).run P w = .ok (.bool false) w := by
  have h : ∀ d : Nat, (Op.equalIn (d + 1) t (.slice (some a) n c) (.slice none 0 0)).run P w = .ok false w := fun d => by
    simp [Op.equalIn, run_underlying ht]
  simp only [binOp]
  simp [Op.equal, Op.maxDepth, h 9999]
theorem SlI.addr {S : Nat → Prop} {w : World} {a : Option Addr} {xs : List Int} (h : SlI S w a xs) (h0 : 0 < xs.length) : ∃ ad, a = some ad := by
  obtain ⟨g, o, e⟩ := (h.ptr h0).2
  exact ⟨_, e⟩
/-- 'append(v, xs...)' of numbers. -/
theorem app_many {P : Program} {ops : Array Oper} {rest : List Oper} {o : Oper} {ac : Act} {Q : Exit → Act → World → Prop} {w : World} (hgd : o.guard = none) (s x : Operand) (T : TypeId)
    (ho : o.op = .call { callee := .builtin .append, args := #[s, x], argTypes := #[T, T] }) {E bytes : Nat} {z : Value} (tab : Tab P T E z 1 bytes) (hzs : z.cells.size = 1) (hby : bytes ≤ 1024)
    (B : Nat) (v : Value) (vs : List Value) (hs : ac.eval s = v) (hown : Bld E w B v vs) (S : Nat → Prop) (a : Option Addr) (c : Nat) (xs : List Int) (hx : ac.eval x = .slice a xs.length c) (hsl : SlI S w a xs) (ha : ∃ ad, a = some ad) (hlen : vs.length + xs.length < 4294967296) (hB : B ≤ w.heap.size)
    (K : ∀ v' w', Bld E w' B v' (vs ++ xs.map (.int .i64)) → Below B w w' → wpList P ops Q rest (ac.put o.dst v') w') : wpList P ops Q (o :: rest) ac w := by
  obtain ⟨i0, hi, hz0, hz1, hz2⟩ := info_parts tab.info
  have hbytes : (vs.length + xs.length) * bytes ≤ 140737488355328 := by
    have : (vs.length + xs.length) * bytes ≤ 4294967296 * 1024 := Nat.mul_le_mul (by omega) hby
    omega
  have hlt := hown.lt
  obtain ⟨ad, rfl⟩ := ha
  have e0 : xs = [] ∨ ∃ g p, ad = ⟨g, p, none⟩ := by
    cases xs with
    | nil => exact .inl rfl
    | cons y ys =>
      obtain ⟨g, p, e⟩ := (hsl.ptr (by simp)).2
      exact .inr ⟨g, p, by simpa using e⟩
  refine wpList_append_own w hgd s x T ho B E i0 z 1 bytes tab.under hi hz0 hz1 hz2 hzs (by decide) v vs.length vs hs hown ad xs.length c (xs.map (.int .i64)) hx (by simp) ?_ ?_ (by unfold maxLen; omega) hbytes hB ?_
  · intro j u hu
    have hj : j < xs.length := by
      have := (List.getElem?_eq_some_iff.1 hu).1
      simpa using this
    rcases e0 with rfl | ⟨g, p, rfl⟩
    · simp at hj
    · have := hsl.cell j hj
      rw [Addr.add_lit]
      simp only [adr, blk, ofs] at this
      rw [this]
      simp [hj] at hu
      rw [← hu, nth_lt hj]
  · intro u hu
    obtain ⟨y, _, rfl⟩ := List.mem_map.1 hu
    rfl
  · intro v' w' h2 h3 _
    refine K v' w' (by simpa [Bld] using h2) ?_
    exact (Below.refl B w).grown h3 hB fun k hk => (hlt k hk).1
/-- The call returns a list of numbers of its own, to which more can be added. -/
def RetB (E : TypeId) (w : World) (xs : List Int) (e : Ending) (w' : World) : Prop := ∃ v, e = .returned v ∧ Below w.heap.size w w' ∧ Bld E w' w.heap.size v (xs.map (.int .i64))
theorem RetB.d {E : TypeId} {w : World} {xs : List Int} {e : Ending} {w' : World} (h : RetB E w xs e w') (hl : xs.length ≤ maxLen) : RetD w (dI xs) e w' := by
  obtain ⟨v, rfl, hb, hbl⟩ := h
  exact RetD.ofBld hbl hl hb
/-- A call that returns a list of its own, at a step of a region that draws its order. -/
theorem step_callB {P : Program} {ops : Array Oper} {o : Oper} {ac : Act} {w : World} {K : Act → World → Prop} {Q : Exit → Act → World → Prop} {X : Prop} (hgd : o.guard = none) (f : FuncId) (xs : Array Operand) (ts : Array TypeId)
    (ho : o.op = .call { callee := .value (.func f), args := xs, argTypes := ts }) (hrun : ∀ args w, (callFunc f args).run P w = .ok (.enter f args) w) (vs : Array Value) (hv : xs.map ac.eval = vs) {E : TypeId} (ys : List Int)
    (h : Calls P f vs w (RetB E w ys)) (hK : ∀ v w', Below w.heap.size w w' → Bld E w' w.heap.size v (ys.map (.int .i64)) → K (ac.put o.dst v) w') : if Region.wanted o (yielded ops ac.tmps) = true then Oper.wp P o ac w K Q else X := by
  have hw : Region.wanted o (yielded ops ac.tmps) = true := by simp [Region.wanted, hgd]
  rw [if_pos hw]
  unfold Oper.wp execOp
  simp only [ho, resolve, Act.eval, Deferred.ofValue, Sem.run_bind, Sem.run_pure, Result.andThen_ok, invoke, Array.append_empty]
  rw [show xs.map (Act.eval ac) = vs from hv]
  simp only [Array.empty_append, hrun, Oper.upon_enter]
  refine h.mono fun e w' ⟨v, he, h1, h2⟩ => ?_
  subst he
  exact hK v w' h1 h2
set_option maxHeartbeats 400000 in
theorem l00OwnB_c (S : Nat → Prop) (a : Option Addr) (c : Nat) (xs : List Int) (w : World) (hx : SlI S w a xs) (ha : ∃ ad, a = some ad) (l1 : xs.length < 4294967296) :
    Calls Tryz.prog 57 #[.slice a xs.length c] w (RetB 2 w xs) := by
  have hbl := Bld.empty 2 w w.heap.size (Nat.le_refl _)
  have hx' := hx.below (below_alloc w (.cells #[] 2))
  go_enter Tryz.func57, Tryz.ntmps57
  go_wp2_with (at_builtin; refine app_many rfl _ _ 27 rfl tabI rfl (by decide) w.heap.size _ [] rfl hbl S a c xs rfl hx' ha (by simpa using l1) (by simp) ?_)
  intro v' w1 hbl1 hb1
  replace hbl1 : Bld 2 w1 w.heap.size v' (xs.map (.int .i64)) := hbl1
  go_wp2
  go_ret
  exact ⟨v', rfl, (below_alloc _ _).trans hb1, hbl1⟩
set_option maxHeartbeats 400000 in
theorem l00Own_c (S : Nat → Prop) (a : Option Addr) (c : Nat) (xs : List Int) (w : World) (hx : SlI S w a xs) (ha : ∃ ad, a = some ad) (l1 : xs.length < 4294967296) :
    Calls Tryz.prog 57 #[.slice a xs.length c] w (RetD w (dI xs)) := by
  have hbl := Bld.empty 2 w w.heap.size (Nat.le_refl _)
  have hx' := hx.below (below_alloc w (.cells #[] 2))
  go_enter Tryz.func57, Tryz.ntmps57
  go_wp2_with (at_builtin; refine app_many rfl _ _ 27 rfl tabI rfl (by decide) w.heap.size _ [] rfl hbl S a c xs rfl hx' ha (by simpa using l1) (by simp) ?_)
  intro v' w1 hbl1 hb1
  replace hbl1 : Bld 2 w1 w.heap.size v' (xs.map (.int .i64)) := hbl1
  go_wp2
  go_ret
  exact RetD.ofBld hbl1 (by unfold maxLen; omega) ((below_alloc _ _).trans hb1)
set_option maxHeartbeats 400000 in
set_option maxRecDepth 100000 in
theorem clone_c (S : Nat → Prop) (ad : Addr) (c : Nat) (xs : List Int) (w : World) (hx : SlI S w (some ad) xs) (l1 : xs.length < 4294967296) :
    Calls Tryz.prog 40 #[.slice (some ad) xs.length c] w (RetD w (dI xs)) := by
  have hbl := Bld.empty 2 w w.heap.size (Nat.le_refl _)
  have hx' := hx.below (below_alloc w (.cells #[] 2))
  have heq := fun (w : World) => run_eql_some_nil (P := Tryz.prog) w ad xs.length c tabI.under
  go_enter Tryz.func40, Tryz.ntmps40
  go_wp2_with (at_builtin; refine app_many rfl _ _ 27 rfl tabI rfl (by decide) w.heap.size _ [] rfl hbl S (some ad) c xs rfl hx' ⟨ad, rfl⟩ (by simpa using l1) (by simp) ?_)
  intro v' w1 hbl1 hb1
  replace hbl1 : Bld 2 w1 w.heap.size v' (xs.map (.int .i64)) := hbl1
  go_wp2
  go_ret
  exact RetD.ofBld hbl1 (by unfold maxLen; omega) ((below_alloc _ _).trans hb1)
/-- The cell at gl holds a list of rows that is being built, in the blocks G. -/
structure Box (E : TypeId) (k : Nat) (w : World) (B gl : Nat) (n : Nat) (ds : List D) (G : List Nat) : Prop where
  free : w.frozen? ⟨gl, 0, none⟩ = false
  has : ∃ v, w.cell? ⟨gl, 0, none⟩ = some v ∧ Lst E k w B v n ds G
  out : gl ∉ G
theorem Box.lt {E : TypeId} {k : Nat} {w : World} {B gl n : Nat} {ds : List D} {G : List Nat} (h : Box E k w B gl n ds G) : gl < w.heap.size ∧ ∀ g, g ∈ G → B ≤ g ∧ g < w.heap.size := by
  obtain ⟨v, h1, h2⟩ := h.has
  exact ⟨World.block_lt_of_cell? w _ h1, h2.lt⟩
theorem Box.keep {E : TypeId} {k : Nat} {w w' : World} {B gl n : Nat} {ds : List D} {G F' : List Nat} (h : Box E k w B gl n ds G) (hc : Chg F' w w') (hd : gl ∉ F' ∧ ∀ g, g ∈ G → g ∉ F') : Box E k w' B gl n ds G := by
  obtain ⟨v, h1, h2⟩ := h.has
  have hl := h.lt.1
  exact ⟨by rw [hc.frozen hl hd.1]; exact h.free, ⟨v, by rw [hc.cell hl hd.1]; exact h1, h2.keep hc hd.2⟩, h.out⟩
/-- What adding a row does to the cell that holds the list. -/
def AddPost (E : TypeId) (k : Nat) (w : World) (B gl n : Nat) (ds rs : List D) (G : List Nat) (e : Ending) (w' : World) : Prop :=
  e = .returned (.bool (decide ((n : Int) + 1 ≤ 2000))) ∧ ∃ G', Box E k w' B gl (n + 1) (ds ++ rs) G' ∧ Chg (gl :: G) w w' ∧ ∀ g, g ∈ G' → g ∈ G ∨ w.heap.size ≤ g
theorem chg_set (w : World) (p : Addr) (v : Value) (F : List Nat) (h : p.block ∈ F) : Chg F w (w.setCell p v) := ((Exc.setCell w p v).wider (fun k hk => by simp at hk; subst hk; exact h)).chg
theorem ob_sub {E : TypeId} {k : Nat} {w : World} {B : Nat} {v : Value} {n : Nat} {ds : List D} {G : List Nat} (h : Lst E k w B v n ds G) : ∀ g, g ∈ ob v → g ∈ G := by
  obtain ⟨vs, F, _, _, _, _, _, rfl⟩ := h
  intro g hg; simp [hg]
end Go.Proofs.YtbnikblhnibgiaaGreatDoor

/- All bags of a size, all parts of a bag: the plain lists, and the functions that collect them. -/
namespace Go.Proofs.YtbnikblhnibgiaaGreatDoor
open Go.RowKit

/-- The first 2001 of what has been collected and of what is added. -/
def capA (L all : List (List Int)) : List (List Int) := (L ++ all).take 2001
theorem capA_len (L all : List (List Int)) : (capA L all).length ≤ 2001 := by simp [capA]; omega
theorem capA_nil {L : List (List Int)} (h : L.length ≤ 2001) : capA L [] = L := by simp [capA, List.take_of_length_le h]
theorem capA_capA (L a b : List (List Int)) : capA (capA L a) b = capA L (a ++ b) := by
  unfold capA
  rw [← List.append_assoc, List.take_append (l₁ := (L ++ a).take 2001), List.take_append (l₁ := L ++ a), List.take_take, Nat.min_self, List.length_take]
  congr 2
  omega
theorem capA_one {L : List (List Int)} (h : L.length ≤ 2000) (x : List Int) : capA L [x] = L ++ [x] := by
  unfold capA; rw [List.take_of_length_le]; simp; omega
theorem capA_le {L a b : List (List Int)} (h : (capA L (a ++ b)).length ≤ 2000) : (capA L a).length ≤ 2000 := by
  simp [capA] at h ⊢; omega
theorem capA_full {L a : List (List Int)} (b : List (List Int)) (h : ¬ (capA L a).length ≤ 2000) : capA L (a ++ b) = capA L a := by
  have h' : 2001 ≤ (L ++ a).length := by simp [capA] at h ⊢; omega
  unfold capA
  rw [← List.append_assoc, List.take_append_of_le_length h']
/-- All lists of r + 1 numbers with the sum l. -/
def ofSz : Nat → Nat → List (List Int)
  | 0, l => [[(l : Int)]]
  | r + 1, l => (List.range (l + 1)).flatMap fun n => (ofSz r (l - n)).map ((n : Int) :: ·)
theorem ofSz_len : ∀ (r l : Nat) (x : List Int), x ∈ ofSz r l → x.length = r + 1
  | 0, l, x, h => by simp [ofSz] at h; subst h; rfl
  | r + 1, l, x, h => by
    simp only [ofSz, List.mem_flatMap, List.mem_map] at h
    obtain ⟨n, _, y, hy, rfl⟩ := h
    simp [ofSz_len r _ y hy]
/-- The lists that begin with p and one of the first j numbers. -/
def ofSzTo (p : List Int) (r l j : Nat) : List (List Int) := (List.range j).flatMap fun n => (ofSz r (l - n)).map fun y => p ++ (n : Int) :: y
theorem ofSzTo_succ (p : List Int) (r l j : Nat) : ofSzTo p r l (j + 1) = ofSzTo p r l j ++ (ofSz r (l - j)).map fun y => p ++ (j : Int) :: y := by simp [ofSzTo, List.range_succ]
theorem ofSzTo_full (p : List Int) (r l : Nat) : ofSzTo p r l (l + 1) = (ofSz (r + 1) l).map (p ++ ·) := by
  simp [ofSzTo, ofSz, List.map_flatMap, List.map_map, Function.comp_def]
theorem ofSzTo_split (p : List Int) (r l : Nat) {j m : Nat} (h : j ≤ m) : ∃ rest, ofSzTo p r l m = ofSzTo p r l j ++ rest := by
  induction m with
  | zero => exact ⟨[], by rw [show j = 0 from by omega]; simp⟩
  | succ m ih =>
    by_cases e : j = m + 1
    · subst e; exact ⟨[], by simp⟩
    · obtain ⟨rest, e⟩ := ih (by omega)
      exact ⟨_, by rw [ofSzTo_succ, e, List.append_assoc]⟩
theorem take_set_succ {bs : List Int} {k : Nat} (hk : k < bs.length) (x : Int) : (bs.set k x).take (k + 1) = bs.take k ++ [x] := by
  rw [List.take_succ_eq_append_getElem (by simpa using hk), List.take_set, List.set_eq_of_length_le (by simp; omega)]
  simp
/-- All lists, if there are not too many. -/
def lim (all : List (List Int)) : List (List Int) × Int := if all.length ≤ 2000 then (all, 0) else ([], 3)
theorem lim_take (all : List (List Int)) : lim (all.take 2001) = lim all := by
  unfold lim
  rw [List.length_take]
  by_cases hq : all.length ≤ 2000
  · rw [if_pos (by omega), if_pos hq, List.take_of_length_le (by omega)]
  · rw [if_neg (by omega), if_neg hq]
def bagsOfSizeS (kinds size : Int) : List (List Int) × Int :=
  if inRg kinds 1 8 = true ∧ inRg size 0 1000 = true then lim (ofSz (kinds.toNat - 1) size.toNat) else ([], 2)
/-- All lists within a list, over the places from k on. -/
def partsS : List Int → List (List Int)
  | [] => [[]]
  | b :: bs => (List.range (b.toNat + 1)).flatMap fun (n : Nat) => (partsS bs).map ((n : Int) :: ·)
theorem partsS_len : ∀ (b : List Int) (x : List Int), x ∈ partsS b → x.length = b.length
  | [], x, h => by simp [partsS] at h; subst h; rfl
  | b :: bs, x, h => by
    simp only [partsS, List.mem_flatMap, List.mem_map] at h
    obtain ⟨n, _, y, hy, rfl⟩ := h
    simp [partsS_len bs y hy]
def partsTo (p : List Int) (bs : List Int) (j : Nat) : List (List Int) := (List.range j).flatMap fun (n : Nat) => (partsS bs).map fun y => p ++ (n : Int) :: y
theorem partsTo_succ (p : List Int) (bs : List Int) (j : Nat) : partsTo p bs (j + 1) = partsTo p bs j ++ (partsS bs).map fun y => p ++ (j : Int) :: y := by simp [partsTo, List.range_succ]
theorem partsTo_full (p : List Int) (b : Int) (bs : List Int) : partsTo p bs (b.toNat + 1) = (partsS (b :: bs)).map (p ++ ·) := by
  simp [partsTo, partsS, List.map_flatMap, List.map_map, Function.comp_def]
def partsOfS (b : List Int) : List (List Int) × Int := if isBagS b = true then lim (partsS b) else ([], 1)

theorem cntL_lists {m : Nat} : ∀ xss : List (List Int), (∀ x, x ∈ xss → x.length ≤ m) → cntL (xss.map dI) ≤ xss.length * m
  | [], _ => by simp [cntL]
  | x :: xss, h => by
    have h1 := h x (by simp)
    have h2 := cntL_lists xss (fun y hy => h y (by simp [hy]))
    simp only [List.map_cons, cntL, cnt_dI, List.length_cons, Nat.add_mul]
    omega
theorem lim_cnt {all : List (List Int)} {m : Nat} (hm : m ≤ 1000) (h : ∀ x, x ∈ all → x.length ≤ m) : cnt (dII (lim all).1) ≤ 16777216 := by
  unfold lim
  split
  · rename_i hq
    have := cntL_lists all h
    have h2 : all.length * m ≤ 2000 * 1000 := Nat.mul_le_mul hq hm
    show cntL (all.map dI) ≤ _
    omega
  · simp [dII, cnt, cntL]
theorem bagsOfSize_cnt (kinds size : Int) : cnt (dII (bagsOfSizeS kinds size).1) ≤ 16777216 := by
  unfold bagsOfSizeS
  split
  · rename_i h
    have b1 : 1 ≤ kinds ∧ kinds ≤ 8 := by simpa [inRg] using h.1
    exact lim_cnt (m := 8) (by omega) (fun x hx => by rw [ofSz_len _ _ x hx]; omega)
  · simp [dII, cnt, cntL]
theorem partsOf_cnt (b : List Int) : cnt (dII (partsOfS b).1) ≤ 16777216 := by
  unfold partsOfS
  split
  · rename_i h
    have := isBagS_len h
    exact lim_cnt (m := 8) (by omega) (fun x hx => by rw [partsS_len _ x hx]; omega)
  · simp [dII, cnt, cntL]
/-- A closure's state: the captured variables C, the numbers bs in block gb, the lists L that are being collected at gl. -/
structure Enm (w : World) (B : Nat) (C : List (Nat × Value)) (gb gl : Nat) (bs : List Int) (L : List (List Int)) (G : List Nat) (E : TypeId) : Prop where
  caps : ∀ p v, (p, v) ∈ C → w.cell? ⟨p, 0, none⟩ = some v ∧ p ≠ gb ∧ p ≠ gl ∧ p ∉ G
  cells : ∀ i, i < bs.length → w.cell? ⟨gb, i, none⟩ = some (.int .i64 (nth bs i))
  free : ∀ i, w.frozen? ⟨gb, i, none⟩ = false
  box : Box E 1 w B gl L.length (L.map dI) G
  ne : gb ≠ gl
  out : gb ∉ G
  lt : gb < w.heap.size
  base : B ≤ gb ∧ B ≤ gl ∧ B ≤ w.heap.size
theorem Enm.slI {w : World} {B : Nat} {C : List (Nat × Value)} {gb gl : Nat} {bs : List Int} {L : List (List Int)} {G : List Nat} {E : TypeId} (h : Enm w B C gb gl bs L G E) (hl : bs.length ≤ maxLen) : SlI Any w (some ⟨gb, 0, none⟩) bs :=
  ⟨hl, fun _ => ⟨trivial, gb, 0, rfl⟩, fun i hi => by have := h.cells i hi; simpa [adr, blk, ofs] using this⟩
/-- A number is stored. -/
theorem Enm.set {w : World} {B : Nat} {C : List (Nat × Value)} {gb gl : Nat} {bs : List Int} {L : List (List Int)} {G : List Nat} {E : TypeId} (h : Enm w B C gb gl bs L G E) {k : Nat} (hk : k < bs.length) (x : Int) :
    Enm (w.setCell ⟨gb, k, none⟩ (.int .i64 x)) B C gb gl (bs.set k x) L G E := by
  have hc := chg_set w ⟨gb, k, none⟩ (.int .i64 x) [gb] (by simp)
  have hs : w.heap.size = (w.setCell ⟨gb, k, none⟩ (.int .i64 x)).heap.size := (Exc.setCell w ⟨gb, k, none⟩ (.int .i64 x)).size.symm
  refine ⟨fun p v hp => ?_, fun i hi => ?_, fun i => by rw [World.frozen?_setCell]; exact h.free i, h.box.keep hc ⟨by simp; exact fun e => h.ne e.symm, fun g hg => by simp; rintro rfl; exact h.out hg⟩, h.ne, h.out, by rw [← hs]; exact h.lt, by rw [← hs]; exact h.base⟩
  · obtain ⟨h1, h2, h3, h4⟩ := h.caps p v hp
    exact ⟨by rw [World.cell?_setCell_other _ _ _ _ (by intro e; simp at e <;> omega)]; exact h1, h2, h3, h4⟩
  · simp at hi
    by_cases e : i = k
    · subst e
      rw [World.cell?_setCell_same _ _ _ (h.cells i hi)]
      simp [nth, hi]
    · rw [World.cell?_setCell_other _ _ _ _ (by intro e'; simp at e' <;> omega), h.cells i hi]
      simp [nth, Ne.symm e]
/-- The old blocks but those of the numbers and of the lists are as they were. -/
theorem Enm.chg {w w' : World} {B : Nat} {C : List (Nat × Value)} {gb gl : Nat} {bs : List Int} {L L' : List (List Int)} {G G' : List Nat} {E : TypeId} (h : Enm w B C gb gl bs L G E) (hc : Chg (gl :: G) w w') (hb : Box E 1 w' B gl L'.length (L'.map dI) G') (hm : ∀ g, g ∈ G' → g ∈ G ∨ w.heap.size ≤ g) :
    Enm w' B C gb gl bs L' G' E := by
  have n1 : gb ∉ gl :: G := by simp; exact ⟨h.ne, h.out⟩
  refine ⟨fun p v hp => ?_, fun i hi => by rw [hc.cell h.lt n1]; exact h.cells i hi, fun i => by rw [hc.frozen h.lt n1]; exact h.free i, hb, h.ne, fun hg => ?_, Nat.lt_of_lt_of_le h.lt hc.size, ⟨h.base.1, h.base.2.1, Nat.le_trans h.base.2.2 hc.size⟩⟩
  · obtain ⟨h1, h2, h3, h4⟩ := h.caps p v hp
    have hlt := World.block_lt_of_cell? w _ h1
    refine ⟨by rw [hc.cell hlt (by simp; exact ⟨h3, h4⟩)]; exact h1, h2, h3, fun hg => ?_⟩
    rcases hm p hg with hh | hh
    · exact h4 hh
    · simp at hlt; omega
  · rcases hm gb hg with hh | hh
    · exact h.out hh
    · have := h.lt; omega
/-- What a closure's call leaves: lists added, the numbers from place k on changed. -/
def EnmPost (w : World) (B : Nat) (C : List (Nat × Value)) (gb gl : Nat) (bs : List Int) (k : Nat) (L' : List (List Int)) (G : List Nat) (E : TypeId) (e : Ending) (w' : World) : Prop :=
  e = .returned (.bool (decide (L'.length ≤ 2000))) ∧ ∃ bs' G', Enm w' B C gb gl bs' L' G' E ∧ bs'.length = bs.length ∧ bs'.take k = bs.take k ∧ Chg (gb :: gl :: G) w w' ∧ ∀ g, g ∈ G' → g ∈ G ∨ w.heap.size ≤ g
theorem take_set_of_le {bs : List Int} {k : Nat} {x : Int} : (bs.set k x).take k = bs.take k := by
  rw [List.take_set, List.set_eq_of_length_le (by simp; omega)]
/-- The four cells that a function which lists lists begins with: at po what points to gl, where the lists are collected; at pb the numbers' slice, the numbers in gb. -/
def Init (w : World) (K : Nat) (s6 s7 : Value) (wx : World) : Prop :=
  ∃ po pb gl gb : Nat, s6 = .pointer (some ⟨po, 0, none⟩) ∧ s7 = .pointer (some ⟨pb, 0, none⟩) ∧ wx.cell? ⟨po, 0, none⟩ = some (.pointer (some ⟨gl, 0, none⟩)) ∧ wx.cell? ⟨pb, 0, none⟩ = some (.slice (some ⟨gb, 0, none⟩) K K) ∧ wx.cell? ⟨gl, 0, none⟩ = some (.slice none 0 0) ∧
    wx.frozen? ⟨gl, 0, none⟩ = false ∧ (∀ i, i < K → wx.cell? ⟨gb, i, none⟩ = some (.int .i64 0)) ∧ (∀ i, wx.frozen? ⟨gb, i, none⟩ = false) ∧ (w.heap.size ≤ po ∧ w.heap.size ≤ pb ∧ w.heap.size ≤ gl ∧ w.heap.size ≤ gb) ∧ (gb < wx.heap.size ∧ po ≠ pb ∧ po ≠ gl ∧ po ≠ gb ∧ pb ≠ gl ∧ pb ≠ gb ∧ gl ≠ gb) ∧ Below w.heap.size w wx
theorem Init.enm {wx : World} {K gl gb B : Nat} {C : List (Nat × Value)} {E : TypeId} (h1 : wx.cell? ⟨gl, 0, none⟩ = some (.slice none 0 0)) (h2 : wx.frozen? ⟨gl, 0, none⟩ = false) (h3 : ∀ i, i < K → wx.cell? ⟨gb, i, none⟩ = some (.int .i64 0)) (h4 : ∀ i, wx.frozen? ⟨gb, i, none⟩ = false)
    (h5 : gb < wx.heap.size) (h6 : gl ≠ gb) (h7 : B ≤ gb ∧ B ≤ gl ∧ B ≤ wx.heap.size) (hC : ∀ p v, (p, v) ∈ C → wx.cell? ⟨p, 0, none⟩ = some v ∧ p ≠ gb ∧ p ≠ gl) : Enm wx B C gb gl (List.replicate K 0) [] [] E :=
  ⟨fun p v hp => ⟨(hC p v hp).1, (hC p v hp).2.1, (hC p v hp).2.2, by simp⟩, fun i hi => by simp at hi; rw [h3 i hi]; simp [nth, hi], h4, ⟨h2, ⟨_, h1, Lst.nil _ _ _ _⟩, by simp⟩, fun e => h6 e.symm, by simp, h5, h7⟩

/- All bags of a size, all parts of a bag: the program's functions. -/
end Go.Proofs.YtbnikblhnibgiaaGreatDoor

/- All bags of a size: the reference's functions. -/
namespace Go.Proofs.YtbnikblhnibgiaaGreatDoor
open Go.RowKit

theorem capA_over {L : List (List Int)} (h : 2000 < L.length) (h2 : L.length ≤ 2001) (x : List (List Int)) : capA L x = L := by
  unfold capA; rw [List.take_append_of_le_length (by omega), List.take_of_length_le (by omega)]
theorem Bld.lower {E : TypeId} {w : World} {B B' : Nat} {v : Value} {vs : List Value} (h : Bld E w B v vs) (hB : B' ≤ B) : Bld E w B' v vs := by
  obtain ⟨h0, h2⟩ := h
  refine ⟨h0, ?_⟩
  rcases h2 with h2 | ⟨g, cap, cur, e, h1, h3⟩
  · exact .inl h2
  · exact .inr ⟨g, cap, cur, e, Nat.le_trans hB h1, h3⟩
theorem SlI.chg {w w' : World} {ad : Addr} {xs : List Int} {F : List Nat} (h : SlI Any w (some ad) xs) (hc : Chg F w w') (hn : ad.block ∉ F) : SlI Any w' (some ad) xs :=
  ⟨h.len, h.ptr, fun i hi => by
    have h1 := h.cell i hi
    have hlt := World.block_lt_of_cell? w _ h1
    simp only [adr, blk, ofs] at h1 hlt ⊢
    rw [hc.cell hlt hn]; exact h1⟩
/-- What a function that adds lists to those at gl leaves. -/
def OutPost (w : World) (B gl : Nat) (L' : List (List Int)) (G : List Nat) (E : TypeId) (e : Ending) (w' : World) : Prop :=
  e = .returned (.tuple #[]) ∧ ∃ G', Box E 1 w' B gl L'.length (L'.map dI) G' ∧ Chg (gl :: G) w w' ∧ ∀ g, g ∈ G' → g ∈ G ∨ w.heap.size ≤ g
/- All parts of a bag: the program's functions and the reference's. -/
theorem drop_nth {b : List Int} {k : Nat} (h : k < b.length) : b.drop k = nth b k :: b.drop (k + 1) := by
  rw [nth_lt h, List.drop_eq_getElem_cons h]
theorem partsTo_split (p bs : List Int) {j m : Nat} (h : j ≤ m) : ∃ rest, partsTo p bs m = partsTo p bs j ++ rest := by
  induction m with
  | zero => exact ⟨[], by rw [show j = 0 from by omega]; simp⟩
  | succ m ih =>
    by_cases e : j = m + 1
    · subst e; exact ⟨[], by simp⟩
    · obtain ⟨rest, e⟩ := ih (by omega)
      exact ⟨_, by rw [partsTo_succ, e, List.append_assoc]⟩
end Go.Proofs.YtbnikblhnibgiaaGreatDoor

/- All parts of a bag: the reference's function. -/
namespace Go.Proofs.YtbnikblhnibgiaaGreatDoor
open Go.RowKit

theorem run_app_nil {P : Program} {T E k bytes : Nat} {z : Value} {ty : TypeId} (tab : Tab P T E z k bytes) (w : World) (a : Option Addr) (n c c' : Nat) (hn : n ≤ c) :
    (Builtin.append_ #[T, T] ty #[.slice a n c, .slice none 0 c']).run P w = .ok (.slice a n c) w := by
  obtain ⟨i0, hi, hz0, hz1, hz2⟩ := info_parts tab.info
  have hu := tab.under
  cases a <;> simp [Builtin.append_, run_underlying hu, sizeOf, typeInfo, hi, Sem.run_bind, Builtin.lenOf, Builtin.firstCells, hn, storeCells]
theorem Bld.cap {E : Nat} {w : World} {B : Nat} {v : Value} {vs : List Value} (h : Bld E w B v vs) : ∃ a c, v = .slice a vs.length c ∧ vs.length ≤ c := by
  obtain ⟨_, h2⟩ := h
  rcases h2 with ⟨rfl, h0⟩ | ⟨g, cap, cur, rfl, hB, hg, hn, _⟩
  · have : vs = [] := by simpa using h0
    subst this
    exact ⟨none, 0, rfl, by simp⟩
  · exact ⟨_, cap, rfl, hn⟩
/-- 'append(v, xs...)' of numbers; xs may be nil. -/
theorem app_manyN {P : Program} {ops : Array Oper} {rest : List Oper} {o : Oper} {ac : Act} {Q : Exit → Act → World → Prop} {w : World} (hgd : o.guard = none) (s x : Operand) (T : TypeId)
    (ho : o.op = .call { callee := .builtin .append, args := #[s, x], argTypes := #[T, T] }) {E bytes : Nat} {z : Value} (tab : Tab P T E z 1 bytes) (hzs : z.cells.size = 1) (hby : bytes ≤ 1024)
    (B : Nat) (v : Value) (vs : List Value) (hs : ac.eval s = v) (hown : Bld E w B v vs) (S : Nat → Prop) (a : Option Addr) (c : Nat) (xs : List Int) (hx : ac.eval x = .slice a xs.length c) (hsl : SlI S w a xs) (hlen : vs.length + xs.length < 4294967296) (hB : B ≤ w.heap.size)
    (K : ∀ v' w', Bld E w' B v' (vs ++ xs.map (.int .i64)) → Below B w w' → wpList P ops Q rest (ac.put o.dst v') w') : wpList P ops Q (o :: rest) ac w := by
  cases a with
  | some ad => exact app_many hgd s x T ho tab hzs hby B v vs hs hown S (some ad) c xs hx hsl ⟨ad, rfl⟩ hlen hB K
  | none =>
    have hx0 : xs = [] := by
      cases xs with
      | nil => rfl
      | cons y ys => obtain ⟨g, p, e⟩ := (hsl.ptr (by simp)).2; cases e
    subst hx0
    obtain ⟨a', c', rfl, hc⟩ := hown.cap
    refine wpList_plain hgd fun _ hK => ?_
    have e := run_app_nil (P := P) (ty := o.type) tab w a' vs.length c' c hc
    unfold Oper.wp execOp
    simp only [ho, resolve, invoke, builtin, Sem.run_bind, Sem.run_pure, Result.andThen_ok, List.map_toArray, List.map_cons, List.map_nil, hs, hx]
    simp only [List.length_nil, e, Result.andThen_ok]
    exact hK _ _ (K _ w (by simpa using hown) (Below.refl _ _))
set_option maxHeartbeats 400000 in
theorem l00OwnN_c (S : Nat → Prop) (a : Option Addr) (c : Nat) (xs : List Int) (w : World) (hx : SlI S w a xs) (l1 : xs.length < 4294967296) :
    Calls Tryz.prog 57 #[.slice a xs.length c] w (RetB 2 w xs) := by
  have hbl := Bld.empty 2 w w.heap.size (Nat.le_refl _)
  have hx' := hx.below (below_alloc w (.cells #[] 2))
  go_enter Tryz.func57, Tryz.ntmps57
  go_wp2_with (at_builtin; refine app_manyN rfl _ _ 27 rfl tabI rfl (by decide) w.heap.size _ [] rfl hbl S a c xs rfl hx' (by simpa using l1) (by simp) ?_)
  intro v' w1 hbl1 hb1
  replace hbl1 : Bld 2 w1 w.heap.size v' (xs.map (.int .i64)) := hbl1
  go_wp2
  go_ret
  exact ⟨v', rfl, (below_alloc _ _).trans hb1, hbl1⟩
/-- The list of lists as what is read. -/
theorem Lst.slII {E : TypeId} {w : World} {B : Nat} {v : Value} {L : List (List Int)} {G : List Nat} (h : Lst E 1 w B v L.length (L.map dI) G) (hl : L.length ≤ maxLen) : ∃ a c, v = .slice a L.length c ∧ SlII Any w a L := by
  obtain ⟨_, a, c, rfl⟩ := h.val
  obtain ⟨G', ho, _, _⟩ := h.ow (by omega) hl
  exact ⟨a, c, rfl, Ow.argII ho⟩
/-- A list of one empty list. -/
theorem Lst.unit (E0 E : TypeId) (w : World) : Lst E 1 ((w.alloc (.cells #[] E0)).alloc (.cells #[.slice (some ⟨w.heap.size, 0, none⟩) 0 0] E)) w.heap.size (.slice (some ⟨w.heap.size + 1, 0, none⟩) 1 1) 1 [dI []] [w.heap.size + 1] := by
  refine ⟨[.slice (some ⟨w.heap.size, 0, none⟩) 0 0], [], ⟨by simp, .inr ⟨w.heap.size + 1, 1, #[.slice (some ⟨w.heap.size, 0, none⟩) 0 0], rfl, by omega, ?_, by omega, by simp [maxLen], by simp, by simp⟩⟩, ⟨[], [], Ow_empty _ _ _ _, rfl, rfl⟩, by simp, by simp, by simp, rfl⟩
  have := heap_alloc_new (w.alloc (.cells #[] E0)) (.cells #[.slice (some ⟨w.heap.size, 0, none⟩) 0 0] E)
  simpa using this

/-- A list with each of the first numbers behind it. -/
def extS (x : List Int) (n : Nat) : List (List Int) := (List.range n).map fun (n : Nat) => x ++ [(n : Int)]
theorem extS_succ (x : List Int) (n : Nat) : extS x (n + 1) = extS x n ++ [x ++ [(n : Int)]] := by simp [extS, List.range_succ]
theorem extS_len (x : List Int) (n : Nat) : (extS x n).length = n := by simp [extS]
def rowsTo (l : Nat) (L : List (List Int)) (k : Nat) : List (List Int) := (L.take k).flatMap fun x => extS x (l + 1)
theorem rowsTo_succ {l : Nat} {L : List (List Int)} {k : Nat} (h : k < L.length) : rowsTo l L (k + 1) = rowsTo l L k ++ extS (nthR L k) (l + 1) := by
  rw [rowsTo, List.take_succ_eq_append_getElem h, List.flatMap_append, nthR_lt h]; simp [rowsTo]
theorem rowsTo_len (l : Nat) (L : List (List Int)) : ∀ k, k ≤ L.length → (rowsTo l L k).length = k * (l + 1)
  | 0, _ => by simp [rowsTo]
  | k + 1, h => by rw [rowsTo_succ (by omega), List.length_append, rowsTo_len l L k (by omega), extS_len, Nat.add_mul]; omega
/-- All lists within the first i numbers of a list. -/
def lvTo (b : List Int) : Nat → List (List Int)
  | 0 => [[]]
  | i + 1 => (lvTo b i).flatMap fun x => extS x ((nth b i).toNat + 1)
theorem lvTo_succ (b : List Int) (i : Nat) : lvTo b (i + 1) = rowsTo (nth b i).toNat (lvTo b i) (lvTo b i).length := by simp [lvTo, rowsTo]
theorem lvTo_parts (b : List Int) : ∀ i, i ≤ b.length → partsS b = (lvTo b i).flatMap fun x => (partsS (b.drop i)).map (x ++ ·)
  | 0, _ => by simp [lvTo]
  | i + 1, h => by
    rw [lvTo_parts b i (by omega), show b.drop i = nth b i :: b.drop (i + 1) from by rw [nth_lt (by omega), List.drop_eq_getElem_cons (by omega)]]
    simp only [lvTo, partsS, extS, List.flatMap_assoc, List.map_flatMap, List.flatMap_map, List.map_map]
    congr 1; funext x; congr 1; funext n; congr 1; funext y; simp
theorem partsS_ne : ∀ bs : List Int, 1 ≤ (partsS bs).length
  | [] => by simp [partsS]
  | b :: bs => by
    have := partsS_ne bs
    simp only [partsS, List.range_succ_eq_map, List.flatMap_cons, List.length_append, List.length_map]
    omega
theorem flatMap_ge {α β : Type} (f : α → List β) (h : ∀ x, 1 ≤ (f x).length) : ∀ l : List α, l.length ≤ (l.flatMap f).length
  | [] => by simp
  | x :: l => by have := h x; have := flatMap_ge f h l; simp only [List.flatMap_cons, List.length_append, List.length_cons]; omega
theorem lvTo_le (b : List Int) {i : Nat} (h : i ≤ b.length) : (lvTo b i).length ≤ (partsS b).length := by
  rw [lvTo_parts b i h]
  exact flatMap_ge _ (fun x => by have := partsS_ne (b.drop i); simpa using this) _
theorem lvTo_mem (b : List Int) : ∀ (i : Nat) (x : List Int), x ∈ lvTo b i → x.length = i
  | 0, x, h => by simp [lvTo] at h; subst h; rfl
  | i + 1, x, h => by
    simp only [lvTo, extS, List.mem_flatMap, List.mem_map] at h
    obtain ⟨y, hy, n, _, rfl⟩ := h
    simp [lvTo_mem b i y hy]
theorem Lst.lower {E : TypeId} {k : Nat} {w : World} {B B' : Nat} {v : Value} {n : Nat} {ds : List D} {G : List Nat} (h : Lst E k w B v n ds G) (hB : B' ≤ B) : Lst E k w B' v n ds G := by
  obtain ⟨vs, F, ⟨h0, h1⟩, h2, h3, h4, h5, h6⟩ := h
  refine ⟨vs, F, ⟨h0, ?_⟩, h2, h3, fun g hg => Nat.le_trans hB (h4 g hg), h5, h6⟩
  rcases h1 with h1 | ⟨g, cap, cur, e, h7, h8⟩
  · exact .inl h1
  · exact .inr ⟨g, cap, cur, e, Nat.le_trans hB h7, h8⟩
theorem lvTo_full (b : List Int) : lvTo b b.length = partsS b := by
  rw [lvTo_parts b b.length (Nat.le_refl _), List.drop_length]
  simp [partsS]
end Go.Proofs.YtbnikblhnibgiaaGreatDoor

/- Parts and counts: what the functions on packings compute; lists of lists that are looked through. -/
namespace Go.Proofs.YtbnikblhnibgiaaGreatDoor
open Go.RowKit

/-- The first place where p holds, or -1. -/
def idxII (p : List Int → Bool) (xs : List (List Int)) : Int := match xs.findIdx? p with | some i => (i : Int) | none => -1
theorem idxII_at {p : List Int → Bool} {xs : List (List Int)} {k : Nat} (hk : k < xs.length) (h : ∀ j, j < k → p (nthR xs j) = false) (hp : p (nthR xs k) = true) : idxII p xs = k := by
  have : xs.findIdx? p = some k := by
    rw [List.findIdx?_eq_some_iff_getElem]
    refine ⟨hk, by simpa [nthR, hk] using hp, fun j hj => ?_⟩
    have := h j hj
    simpa [nthR, show j < xs.length by omega] using this
  simp [idxII, this]
theorem idxII_none {p : List Int → Bool} {xs : List (List Int)} (h : ∀ j, j < xs.length → p (nthR xs j) = false) : idxII p xs = -1 := by
  have : xs.findIdx? p = none := by
    rw [List.findIdx?_eq_none_iff]
    intro x hx
    obtain ⟨j, hj, rfl⟩ := List.getElem_of_mem hx
    simpa [nthR, hj] using h j hj
  simp [idxII, this]
def anyII (p : List Int → Bool) (xs : List (List Int)) : Bool := xs.any p
def allII (p : List Int → Bool) (xs : List (List Int)) : Bool := xs.all p
theorem idxII_any (p : List Int → Bool) (xs : List (List Int)) : decide (0 ≤ idxII p xs) = anyII p xs := by
  unfold idxII anyII
  cases h : xs.findIdx? p with
  | none =>
    have := List.findIdx?_eq_none_iff.1 h
    have h2 : xs.any p = false := by rw [List.any_eq_false]; intro x hx; simp [this x hx]
    simp [h2]
  | some i =>
    obtain ⟨hi, hp, _⟩ := List.findIdx?_eq_some_iff_getElem.1 h
    have h2 : xs.any p = true := List.any_eq_true.2 ⟨_, List.getElem_mem hi, hp⟩
    simp [h2]
theorem anyII_not (p : List Int → Bool) (xs : List (List Int)) : anyII (fun n => !p n) xs = !allII p xs := by
  simp [anyII, allII, List.all_eq_not_any_not]
theorem anyII_nn (p : List Int → Bool) (xs : List (List Int)) : (!anyII p xs) = allII (fun n => !p n) xs := by
  simp [anyII, allII, List.all_eq_not_any_not]
theorem allII_true {p : List Int → Bool} {xs : List (List Int)} (h : ∀ j, j < xs.length → p (nthR xs j) = true) : allII p xs = true := by
  rw [allII, List.all_eq_true]
  intro x hx
  obtain ⟨j, hj, rfl⟩ := List.getElem_of_mem hx
  simpa [nthR_lt hj] using h j hj
theorem allII_false {p : List Int → Bool} {xs : List (List Int)} {k : Nat} (hk : k < xs.length) (h : p (nthR xs k) = false) : allII p xs = false := by
  rw [allII, List.all_eq_false]
  exact ⟨_, List.getElem_mem hk, by simpa [nthR_lt hk] using h⟩
theorem allII_at {p : List Int → Bool} {xs : List (List Int)} (h : allII p xs = true) {k : Nat} (hk : k < xs.length) : p (nthR xs k) = true := by
  rw [allII, List.all_eq_true] at h
  rw [nthR_lt hk]; exact h _ (List.getElem_mem hk)

/-- A part is for so many kinds and has an object. -/
def fitPart (kinds : Int) (p : List Int) : Bool := ((p.length : Int) == kinds) && !(sumS p == 0)
/-- The code of parts for so many kinds. -/
def askS (kinds : Int) (ps : List (List Int)) : Int := if allII isBagS ps = true then (if ps.length ≤ 8 ∧ allII (fitPart kinds) ps = true then 0 else 2) else 1
def cntsOk (n : Nat) (cs : List Int) : Bool := allB cntOk cs && ((cs.length : Int) == n)
/-- The code of parts and counts. -/
def codeS (kinds : Int) (ps : List (List Int)) (cs : List Int) : Int := if askS kinds ps = 0 then (if cntsOk ps.length cs = true then 0 else 2) else askS kinds ps
theorem askS_ok {kinds : Int} {ps : List (List Int)} (h : askS kinds ps = 0) : allII isBagS ps = true ∧ ps.length ≤ 8 ∧ allII (fitPart kinds) ps = true := by
  unfold askS at h
  split at h
  · split at h
    · rename_i h1 h2; exact ⟨h1, h2.1, h2.2⟩
    · cases h
  · cases h
theorem askS_at {kinds : Int} {ps : List (List Int)} (h : askS kinds ps = 0) {k : Nat} (hk : k < ps.length) : isBagS (nthR ps k) = true ∧ ((nthR ps k).length : Int) = kinds ∧ ¬ sumS (nthR ps k) = 0 := by
  obtain ⟨h1, _, h3⟩ := askS_ok h
  have a := allII_at h1 hk
  have b := allII_at h3 hk
  simp [fitPart] at b
  exact ⟨a, b⟩
theorem codeS_ok {kinds : Int} {ps : List (List Int)} {cs : List Int} (h : codeS kinds ps cs = 0) : askS kinds ps = 0 ∧ cntsOk ps.length cs = true := by
  unfold codeS at h
  split at h
  · split at h
    · rename_i h1 h2; exact ⟨h1, h2⟩
    · cases h
  · rename_i h1; exact absurd h h1
theorem cntsOk_at {n : Nat} {cs : List Int} (h : cntsOk n cs = true) : cs.length = n ∧ ∀ k, k < cs.length → 0 ≤ nth cs k ∧ nth cs k ≤ 1000 := by
  simp only [cntsOk, Bool.and_eq_true] at h
  refine ⟨by have := h.2; simp at this; omega, fun k hk => ?_⟩
  have := allB_at h.1 hk
  simpa [cntOk, inRg] using this
/-- The sum of the first k parts, each as often as its count says. -/
def packTo (kinds : Nat) (ps : List (List Int)) (cs : List Int) (k : Nat) : List Int := (List.range k).foldl (fun out i => plusS out (nthR ps i) (nth cs i)) (List.replicate kinds 0)
theorem packTo_succ (kinds : Nat) (ps : List (List Int)) (cs : List Int) (k : Nat) : packTo kinds ps cs (k + 1) = plusS (packTo kinds ps cs k) (nthR ps k) (nth cs k) := by simp [packTo, List.range_succ]
theorem packTo_len (kinds : Nat) (ps : List (List Int)) (cs : List Int) : ∀ k, (packTo kinds ps cs k).length = kinds
  | 0 => by simp [packTo]
  | k + 1 => by rw [packTo_succ, plusS_len, packTo_len kinds ps cs k]
def packS (kinds : Nat) (ps : List (List Int)) (cs : List Int) : List Int := packTo kinds ps cs ps.length
theorem packS_len (kinds : Nat) (ps : List (List Int)) (cs : List Int) : (packS kinds ps cs).length = kinds := packTo_len _ _ _ _
def fullS (rest : List Int) (ps : List (List Int)) : Bool := allII (fun p => !withinS p rest) ps
def packedBagS (ps : List (List Int)) (cs : List Int) : List Int × Int :=
  if codeS (nthR ps 0).length ps cs = 0 then (if ps.length = 0 then ([], 4) else toldS (packS (nthR ps 0).length ps cs)) else ([], codeS (nthR ps 0).length ps cs)
theorem packedBagS_len (ps : List (List Int)) (cs : List Int) : (packedBagS ps cs).1.length ≤ (nthR ps 0).length := by
  unfold packedBagS
  split
  · split
    · simp
    · exact Nat.le_trans (toldS_len _) (by rw [packS_len]; exact Nat.le_refl _)
  · simp
def isPackingS (b : List Int) (ps : List (List Int)) (cs : List Int) : Bool × Int :=
  if isBagS b = true then (if codeS b.length ps cs = 0 then (withinS (packS b.length ps cs) b && fullS (plusS b (packS b.length ps cs) (-1)) ps, 0) else (false, codeS b.length ps cs)) else (false, 1)

/- Parts, counts and packings: contracts. -/
theorem codeS_bad {kinds : Int} {ps : List (List Int)} {cs : List Int} (h : allII isBagS ps = false) : codeS kinds ps cs = 1 := by simp [codeS, askS, h]
theorem codeS_two {kinds : Int} {ps : List (List Int)} {cs : List Int} (h : allII isBagS ps = true) (h2 : ¬ (ps.length ≤ 8 ∧ allII (fitPart kinds) ps = true ∧ cntsOk ps.length cs = true)) : codeS kinds ps cs = 2 := by
  unfold codeS askS
  simp only [h, if_true]
  by_cases h3 : ps.length ≤ 8 ∧ allII (fitPart kinds) ps = true
  · have h4 : ¬ cntsOk ps.length cs = true := fun e => h2 ⟨h3.1, h3.2, e⟩
    simp [h3, h4]
  · simp [h3]
theorem codeS_zero {kinds : Int} {ps : List (List Int)} {cs : List Int} (h : allII isBagS ps = true) (h1 : ps.length ≤ 8) (h2 : allII (fitPart kinds) ps = true) (h3 : cntsOk ps.length cs = true) : codeS kinds ps cs = 0 := by
  simp [codeS, askS, h, h1, h2, h3]
theorem cntsOk_true {n : Nat} {cs : List Int} (hl : cs.length = n) (h : ∀ j, j < n → cntOk (nth cs j) = true) : cntsOk n cs = true := by
  simp [cntsOk, allB_true (p := cntOk) (xs := cs) (by rw [hl]; exact h), hl]
theorem cntsOk_false {n : Nat} {cs : List Int} {k : Nat} (hk : k < cs.length) (h : cntOk (nth cs k) = false) : ¬ cntsOk n cs = true := by
  simp [cntsOk, allB_false hk h]
/-- The value holds the datum in blocks of its own that were not there in w. -/
def Kept (w wr : World) (d : D) (v : Value) : Prop := Below w.heap.size w wr ∧ ∃ F, Ow wr d v F ∧ F.Nodup ∧ ∀ g, g ∈ F → w.heap.size ≤ g
theorem Kept.next {w wr w' : World} {d : D} {v : Value} (hb : Below w.heap.size w wr) (h : RetD wr d (.returned v) w') : Kept w w' d v := by
  obtain ⟨u, F, e, h1, h2, h3, h4⟩ := h
  cases e
  exact ⟨bnext hb h1 (Nat.le_refl _), F, h2, h3, fun g hg => Nat.le_trans hb.size (h4 g hg)⟩
theorem Kept.ret {w wr : World} {d : D} {v : Value} (h : Kept w wr d v) : RetD w d (.returned v) wr := by
  obtain ⟨hb, F, h2, h3, h4⟩ := h
  exact ⟨v, F, rfl, hb, h2, h3, h4⟩
theorem Kept.below {w wr w' : World} {d : D} {v : Value} (h : Kept w wr d v) (hb : Below wr.heap.size wr w') : Kept w w' d v := by
  obtain ⟨hb0, F, h2, h3, h4⟩ := h
  exact ⟨bnext hb0 hb (Nat.le_refl _), F, h2.below hb, h3, h4⟩
theorem Kept.val {w wr : World} {xs : List Int} {v : Value} (h : Kept w wr (dI xs) v) : ∃ a c, v = .slice a xs.length c ∧ SlI Any wr a xs := by
  obtain ⟨_, F, h2, _, _⟩ := h
  obtain ⟨a, c, rfl⟩ := h2.val
  exact ⟨a, c, rfl, h2.arg⟩
theorem Kept.ofBld {E : Nat} {w w' : World} {v : Value} {xs : List Int} (h : Bld E w' w.heap.size v (xs.map (.int .i64))) (hl : xs.length ≤ maxLen) (hb : Below w.heap.size w w') : Kept w w' (dI xs) v := by
  obtain ⟨u, F, e, h1, h2, h3, h4⟩ := RetD.ofBld h hl hb
  cases e
  exact ⟨h1, F, h2, h3, h4⟩
/- Parts, counts and packings: the reference's functions. -/
theorem askS_bad {kinds : Int} {ps : List (List Int)} (h : allII isBagS ps = false) : askS kinds ps = 1 := by simp [askS, h]
theorem askS_two {kinds : Int} {ps : List (List Int)} (h : allII isBagS ps = true) (h2 : ¬ (ps.length ≤ 8 ∧ allII (fitPart kinds) ps = true)) : askS kinds ps = 2 := by
  unfold askS; rw [if_pos h, if_neg h2]
theorem askS_zero {kinds : Int} {ps : List (List Int)} (h : allII isBagS ps = true) (h1 : ps.length ≤ 8) (h2 : allII (fitPart kinds) ps = true) : askS kinds ps = 0 := by simp [askS, h, h1, h2]
/-- The code of a bag and parts. -/
def asked (xs : List Int) (ps : List (List Int)) : Int := if isBagS xs = true then askS xs.length ps else 1
/- The greedy packing, all packings: what they are. No program is in sight but at the end. -/
theorem timesTo_le {xs ys : List Int} : ∀ (k j : Nat), j < k → 0 < nth xs j → timesTo xs ys k ≤ nth ys j / nth xs j
  | 0, j, h, _ => absurd h (by omega)
  | k + 1, j, h, hp => by
    by_cases e : j = k
    · subst e
      rw [timesTo, if_pos hp]
      unfold minI; split <;> omega
    · have ih := timesTo_le (xs := xs) (ys := ys) k j (by omega) hp
      unfold timesTo
      split
      · unfold minI; split <;> omega
      · exact ih
/-- The numbers are those of a bag. -/
def small (xs : List Int) : Prop := ∀ j, j < xs.length → 0 ≤ nth xs j ∧ nth xs j ≤ 1000
theorem isBagS_small {xs : List Int} (h : isBagS xs = true) : small xs := fun _ hj => isBagS_at h hj
theorem take_bd {r p : List Int} (hl : p.length = r.length) (hr : small r) (hp : small p) {n : Int} (h0 : 0 ≤ n) (h1 : n ≤ timesS p r) :
    ∀ j, j < r.length → nth (plusS r p (-n)) j = nth r j - n * nth p j ∧ 0 ≤ nth r j - n * nth p j ∧ nth r j - n * nth p j ≤ 1000 := by
  intro j hj
  have hr' := hr j hj
  have hp' := hp j (by omega)
  have hm : 0 ≤ n * nth p j ∧ n * nth p j ≤ nth r j := by
    by_cases e : 0 < nth p j
    · have h2 : n ≤ nth r j / nth p j := Int.le_trans h1 (timesTo_le _ j (by omega) e)
      have h3 : n * nth p j ≤ nth r j / nth p j * nth p j := Int.mul_le_mul_of_nonneg_right h2 (by omega)
      have h4 := Int.ediv_mul_le (nth r j) (show nth p j ≠ 0 by omega)
      exact ⟨Int.mul_nonneg h0 hp'.1, by omega⟩
    · rw [show nth p j = 0 from by omega]; simp; exact hr'.1
  refine ⟨?_, by omega, by omega⟩
  rw [plusS, zipF_at hj, addW, Int.neg_mul]
  generalize n * nth p j = m at hm
  unfold wrap64
  omega
theorem take_small {r p : List Int} (hl : p.length = r.length) (hr : small r) (hp : small p) {n : Int} (h0 : 0 ≤ n) (h1 : n ≤ timesS p r) : small (plusS r p (-n)) := fun j hj => by
  rw [plusS_len] at hj
  have := take_bd hl hr hp h0 h1 j hj
  rw [this.1]; exact this.2
theorem timesS_bd {r p : List Int} (hl : p.length = r.length) (hr : small r) : 0 ≤ timesS p r ∧ timesS p r ≤ 1000 := timesTo_bd (fun j hj => hr j (by omega)) _ (Nat.le_refl _)
theorem best_times {p : List Int} (h : isBagS p = true) (h0 : ¬ sumS p = 0) (r : List Int) : bestTo p r p.length = timesS p r := by
  have := someTo_sum h
  rw [show (sumS p == 0) = false from by simpa using h0] at this
  have h2 : someTo p p.length = true := by simpa using this.symm
  rw [bestTo, if_pos h2]; rfl

/-- The first k counts of the greedy packing, and the rest. -/
def greedyTo (b : List Int) (ps : List (List Int)) : Nat → List Int × List Int
  | 0 => ([], b)
  | k + 1 => ((greedyTo b ps k).1 ++ [timesS (nthR ps k) (greedyTo b ps k).2], plusS (greedyTo b ps k).2 (nthR ps k) (-timesS (nthR ps k) (greedyTo b ps k).2))
theorem greedyTo_ok {b : List Int} {ps : List (List Int)} (hb : isBagS b = true) (ha : askS b.length ps = 0) : ∀ k, k ≤ ps.length → (greedyTo b ps k).1.length = k ∧ (greedyTo b ps k).2.length = b.length ∧ small (greedyTo b ps k).2
  | 0, _ => ⟨rfl, rfl, isBagS_small hb⟩
  | k + 1, hk => by
    obtain ⟨h1, h2, h3⟩ := greedyTo_ok hb ha k (by omega)
    obtain ⟨a1, a2, _⟩ := askS_at ha (show k < ps.length by omega)
    have hl : (nthR ps k).length = (greedyTo b ps k).2.length := by omega
    have ht := timesS_bd hl h3
    exact ⟨by simp [greedyTo, h1], by simp [greedyTo, plusS_len, h2], take_small hl h3 (isBagS_small a1) ht.1 (Int.le_refl _)⟩
def greedyS (b : List Int) (ps : List (List Int)) : List Int × Int := if asked b ps = 0 then ((greedyTo b ps ps.length).1, 0) else ([], asked b ps)
theorem asked_ok {b : List Int} {ps : List (List Int)} (h : asked b ps = 0) : isBagS b = true ∧ askS b.length ps = 0 := by
  unfold asked at h
  split at h
  · rename_i hA; exact ⟨hA, h⟩
  · cases h
theorem greedyS_len (b : List Int) (ps : List (List Int)) : (greedyS b ps).1.length ≤ 8 := by
  unfold greedyS
  split
  · rename_i h
    obtain ⟨h1, h2⟩ := asked_ok h
    have := (greedyTo_ok h1 h2 ps.length (Nat.le_refl _)).1
    have := (askS_ok h2).2.1
    simp only; omega
  · simp

/-- All counts of the parts for which what is left has a property. -/
def packs (P : List Int → Bool) : List (List Int) → List Int → List (List Int)
  | [], rest => if P rest = true then [[]] else []
  | p :: ps, rest => (List.range ((timesS p rest).toNat + 1)).flatMap fun (n : Nat) => (packs P ps (plusS rest p (-(n : Int)))).map ((n : Int) :: ·)
theorem packs_len (P : List Int → Bool) : ∀ (ps : List (List Int)) (rest x : List Int), x ∈ packs P ps rest → x.length = ps.length
  | [], rest, x, h => by
    unfold packs at h
    split at h
    · simp at h; subst h; rfl
    · cases h
  | p :: ps, rest, x, h => by
    simp only [packs, List.mem_flatMap, List.mem_map] at h
    obtain ⟨n, _, y, hy, rfl⟩ := h
    simp [packs_len P ps _ y hy]
def packsTo (P : List Int → Bool) (ps : List (List Int)) (p rest c : List Int) (j : Nat) : List (List Int) := (List.range j).flatMap fun (n : Nat) => (packs P ps (plusS rest p (-(n : Int)))).map fun y => c ++ (n : Int) :: y
theorem packsTo_succ (P : List Int → Bool) (ps : List (List Int)) (p rest c : List Int) (j : Nat) : packsTo P ps p rest c (j + 1) = packsTo P ps p rest c j ++ (packs P ps (plusS rest p (-(j : Int)))).map fun y => c ++ (j : Int) :: y := by simp [packsTo, List.range_succ]
theorem packsTo_full (P : List Int → Bool) (ps : List (List Int)) (p rest c : List Int) : packsTo P ps p rest c ((timesS p rest).toNat + 1) = (packs P (p :: ps) rest).map (c ++ ·) := by
  simp [packsTo, packs, List.map_flatMap, List.map_map, Function.comp_def]
theorem packsTo_split (P : List Int → Bool) (ps : List (List Int)) (p rest c : List Int) {j m : Nat} (h : j ≤ m) : ∃ tl, packsTo P ps p rest c m = packsTo P ps p rest c j ++ tl := by
  induction m with
  | zero => exact ⟨[], by rw [show j = 0 from by omega]; simp⟩
  | succ m ih =>
    by_cases e : j = m + 1
    · subst e; exact ⟨[], by simp⟩
    · obtain ⟨tl, e⟩ := ih (by omega)
      exact ⟨_, by rw [packsTo_succ, e, List.append_assoc]⟩
/-- The packings of a bag for whose rests something is so, and a code. -/
def packingsS (P : List (List Int) → List Int → Bool) (b : List Int) (ps : List (List Int)) : List (List Int) × Int :=
  if asked b ps = 0 then (if 16 < sumS b then ([], 3) else lim (packs (P ps) ps b)) else ([], asked b ps)
def maxP (ps : List (List Int)) (rest : List Int) : Bool := fullS rest ps
def exactP (_ps : List (List Int)) (rest : List Int) : Bool := sumS rest == 0
theorem packingsS_cnt (P : List (List Int) → List Int → Bool) (b : List Int) (ps : List (List Int)) : cnt (dII (packingsS P b ps).1) ≤ 16777216 := by
  unfold packingsS
  split
  · rename_i h
    split
    · simp [dII, cnt, cntL]
    · have := (askS_ok (asked_ok h).2).2.1
      exact lim_cnt (m := 8) (by omega) (fun x hx => by rw [packs_len _ _ _ x hx]; exact this)
  · simp [dII, cnt, cntL]
end Go.Proofs.YtbnikblhnibgiaaGreatDoor

/- The greedy packing: both functions. -/
namespace Go.Proofs.YtbnikblhnibgiaaGreatDoor
open Go.RowKit

theorem codeS_zeros (kinds : Int) (ps : List (List Int)) : codeS kinds ps (List.replicate ps.length 0) = askS kinds ps := by
  have h : cntsOk ps.length (List.replicate ps.length 0) = true := cntsOk_true (by simp) (fun j hj => by simp [nth, hj, cntOk, inRg])
  unfold codeS
  rw [if_pos h]
  split
  · rename_i h2; rw [h2]
  · rfl
theorem len_of_volII {xs : List (List Int)} (h : vol (dII xs) ≤ 16777216) : xs.length ≤ 16777216 := by
  have := volL_len (xs.map dI)
  simp only [List.length_map] at this
  exact Nat.le_trans this h
end Go.Proofs.YtbnikblhnibgiaaGreatDoor

/- Rules that pass objects, as data. Written by rowtype.py. No program is in sight. -/
namespace Go.Proofs.YtbnikblhnibgiaaGreatDoor
open Go.RowKit

/-- A rule that passes objects. -/
structure PR where
  cell : Int
  out : List Int
  inn : List Int
def PR.ds (r : PR) : List D := [.i r.cell, dI r.out, dI r.inn]
def zPR : PR := ⟨0, [], []⟩
def nthPR (rs : List PR) (i : Nat) : PR := rs.getD i zPR
theorem nthPR_lt {rs : List PR} {i : Nat} (h : i < rs.length) : nthPR rs i = rs[i] := by simp [nthPR, h]
theorem nthPR_get {rs : List PR} {i : Nat} (h : i < rs.length) : rs[i]? = some (nthPR rs i) := by simp [nthPR, h]
def dPR (rs : List PR) : D := .l 3 (rs.flatMap PR.ds)
/-- The cells of a list of them. -/
structure SlPR (S : Nat → Prop) (w : World) (a : Option Addr) (rs : List PR) : Prop where
  len : rs.length ≤ maxLen
  ptr : 0 < rs.length → ∃ g o, a = some ⟨g, o, none⟩
  c0 : ∀ i, i < rs.length → w.cell? (adr a (i * 3)) = some (.int .i64 (nthPR rs i).cell)
  c1 : ∀ i, i < rs.length → ∃ a' c', w.cell? (adr a (i * 3 + 1)) = some (.slice a' (nthPR rs i).out.length c') ∧ SlI S w a' (nthPR rs i).out
  c2 : ∀ i, i < rs.length → ∃ a' c', w.cell? (adr a (i * 3 + 2)) = some (.slice a' (nthPR rs i).inn.length c') ∧ SlI S w a' (nthPR rs i).inn
theorem dPR_len (rs : List PR) : (rs.flatMap PR.ds).length = rs.length * 3 := row_len PR.ds 3 (fun _ => rfl) rs
theorem Rd_PR {S : Nat → Prop} {w : World} {rs : List PR} {v : Value} (h : Rd S w (dPR rs) v) : ∃ a c, v = .slice a rs.length c ∧ SlPR S w a rs := by
  obtain ⟨a, c, rfl, hm, hp, HG⟩ := h.row (dPR_len rs) (by omega)
  have key : ∀ i j d, i < rs.length → j < 3 → (nthPR rs i).ds[j]? = some d → ∃ u, w.cell? (adr a (i * 3 + j)) = some u ∧ Rd S w d u := fun i j d hi hj hd => HG.out w (Below.refl _ _) _ _ (by rw [row_get PR.ds 3 (fun _ => rfl) rs i j _ (nthPR_get hi) hj]; exact hd)
  refine ⟨a, c, rfl, hm, hp, fun i hi => ?_, fun i hi => ?_, fun i hi => ?_⟩
  · obtain ⟨u, h1, h2⟩ := key i 0 _ hi (by omega) rfl
    rw [show u = _ from h2] at h1; exact h1
  · obtain ⟨u, h1, h2⟩ := key i 1 _ hi (by omega) rfl
    obtain ⟨a', c', rfl, h3⟩ := Rd_I.1 h2
    exact ⟨a', c', h1, h3⟩
  · obtain ⟨u, h1, h2⟩ := key i 2 _ hi (by omega) rfl
    obtain ⟨a', c', rfl, h3⟩ := Rd_I.1 h2
    exact ⟨a', c', h1, h3⟩
theorem fitD_PR {d : D} (h : Fit (.l [.i, .l [.i], .l [.i]]) d) : ∃ rs, d = dPR rs := by
  obtain ⟨rows, rfl, hr⟩ := h
  have key : ∀ rows : List (List D), (∀ r, r ∈ rows → FitL [.i, .l [.i], .l [.i]] r) → ∃ rs : List PR, rows.flatten = rs.flatMap PR.ds := by
    intro rows
    induction rows with
    | nil => intro _; exact ⟨[], rfl⟩
    | cons r rows ih =>
      intro h
      obtain ⟨rs, e⟩ := ih (fun r hr => h r (by simp [hr]))
      obtain ⟨_, r0, e0, ⟨n0, rfl⟩, h0⟩ := h r (by simp)
      subst e0
      obtain ⟨_, r1, e1, f1, h1⟩ := h0
      subst e1
      obtain ⟨n1, rfl⟩ := fitD_I f1
      obtain ⟨_, r2, e2, f2, h2⟩ := h1
      subst e2
      obtain ⟨n2, rfl⟩ := fitD_I f2
      rw [show r2 = [] from h2]
      exact ⟨⟨n0, n1, n2⟩ :: rs, by simp [e, PR.ds]⟩
  obtain ⟨rs, e⟩ := key rows hr
  exact ⟨rs, by rw [e]; rfl⟩
theorem fit_dPR (rs : List PR) : Fit (.l [.i, .l [.i], .l [.i]]) (dPR rs) := by
  refine ⟨rs.map PR.ds, ?_, fun r hr => ?_⟩
  · simp only [dPR]; congr 1
  · obtain ⟨x, _, rfl⟩ := List.mem_map.1 hr
    exact ⟨_, _, rfl, ⟨_, rfl⟩, ⟨_, _, rfl, fit_dI _, ⟨_, _, rfl, fit_dI _, rfl⟩⟩⟩
end Go.Proofs.YtbnikblhnibgiaaGreatDoor

/- The laws' functions on lists of lists of numbers: by shape. Written by tygen.py. -/
namespace Go.Proofs.YtbnikblhnibgiaaGreatDoor
open Go.RowKit
end Go.Proofs.YtbnikblhnibgiaaGreatDoor

/- The laws' functions on passing systems and stocks: by shape. Written by tygen.py. -/
namespace Go.Proofs.YtbnikblhnibgiaaGreatDoor
open Go.RowKit
end Go.Proofs.YtbnikblhnibgiaaGreatDoor

/- Valid passing systems, valid stocks: what they are. No program is in sight. -/
namespace Go.Proofs.YtbnikblhnibgiaaGreatDoor
open Go.RowKit

/-- An object of a kind that is not free. -/
def bound1 (free : List Bool) (xs : List Int) (k : Nat) : Bool := decide (0 < nth xs k) && !nthB free k
def hasBoundS (free : List Bool) (xs : List Int) : Bool := (List.range xs.length).any (bound1 free xs)
theorem hasBoundS_true {free : List Bool} {xs : List Int} {k : Nat} (hk : k < xs.length) (h : bound1 free xs k = true) : hasBoundS free xs = true := by
  rw [hasBoundS, List.any_eq_true]; exact ⟨k, by simpa using hk, h⟩
theorem hasBoundS_false {free : List Bool} {xs : List Int} (h : ∀ j, j < xs.length → bound1 free xs j = false) : hasBoundS free xs = false := by
  rw [hasBoundS, List.any_eq_false]; intro j hj; rw [h j (by simpa using hj)]; simp
/-- A rule is right. -/
def ruleOk (kinds : Int) (n : Nat) (free : List Bool) (r : PR) : Bool :=
  inRg r.cell 0 ((n : Int) - 1) && validBagS kinds r.out && validBagS kinds r.inn && !(sumS r.out + sumS r.inn == 0) && (decide (0 < r.cell) || decide (0 < sumS r.out) || hasBoundS free r.inn)
def allPR (p : PR → Bool) (rs : List PR) : Bool := (List.range rs.length).all fun i => p (nthPR rs i)
theorem allPR_true {p : PR → Bool} {rs : List PR} (h : ∀ j, j < rs.length → p (nthPR rs j) = true) : allPR p rs = true := by
  rw [allPR, List.all_eq_true]; intro j hj; exact h j (by simpa using hj)
theorem allPR_false {p : PR → Bool} {rs : List PR} {k : Nat} (hk : k < rs.length) (h : p (nthPR rs k) = false) : allPR p rs = false := by
  rw [allPR, List.all_eq_false]; exact ⟨k, by simpa using hk, by rw [h]; simp⟩
theorem allPR_at {p : PR → Bool} {rs : List PR} (h : allPR p rs = true) {k : Nat} (hk : k < rs.length) : p (nthPR rs k) = true := by
  rw [allPR, List.all_eq_true] at h; exact h k (by simpa using hk)
/-- The parent of cell i + 1 comes before it. -/
def parOk (xs : List Int) (i : Nat) : Bool := inRg (nth xs (i + 1)) 0 i
def parsOk (xs : List Int) : Bool := (List.range (xs.length - 1)).all (parOk xs)
theorem parsOk_true {xs : List Int} (h : ∀ j, j + 1 < xs.length → parOk xs j = true) : parsOk xs = true := by
  rw [parsOk, List.all_eq_true]; intro j hj; exact h j (by simp at hj; omega)
theorem parsOk_false {xs : List Int} {k : Nat} (hk : k + 1 < xs.length) (h : parOk xs k = false) : parsOk xs = false := by
  rw [parsOk, List.all_eq_false]; exact ⟨k, by simp; omega, by rw [h]; simp⟩
theorem parsOk_at {xs : List Int} (h : parsOk xs = true) {k : Nat} (hk : k + 1 < xs.length) : parOk xs k = true := by
  rw [parsOk, List.all_eq_true] at h; exact h k (by simp; omega)
/-- What is looked at first. -/
def passHead (x0 : Int) (x1 : List Int) (x2 : List Bool) (x3 : List PR) : Bool := inRg x0 1 8 && inRg x1.length 1 4 && (nth x1 0 == -1) && ((x2.length : Int) == x0) && decide (x3.length ≤ 8)
def okPass (x0 : Int) (x1 : List Int) (x2 : List Bool) (x3 : List PR) : Bool := passHead x0 x1 x2 x3 && parsOk x1 && allPR (ruleOk x0 x1.length x2) x3
/-- An object of a free kind. -/
def free1 (free : List Bool) (xs : List Int) (k : Nat) : Bool := decide (0 < nth xs k) && nthB free k
def noFreeS (free : List Bool) (xs : List Int) : Bool := (List.range xs.length).all fun k => !free1 free xs k
theorem noFreeS_true {free : List Bool} {xs : List Int} (h : ∀ j, j < xs.length → free1 free xs j = false) : noFreeS free xs = true := by
  rw [noFreeS, List.all_eq_true]; intro j hj; rw [h j (by simpa using hj)]; rfl
theorem noFreeS_false {free : List Bool} {xs : List Int} {k : Nat} (hk : k < xs.length) (h : free1 free xs k = true) : noFreeS free xs = false := by
  rw [noFreeS, List.all_eq_false]; exact ⟨k, by simpa using hk, by rw [h]; simp⟩
/-- A stock is right for a passing system. -/
def okStock (x0 : Int) (n : Nat) (x2 : List Bool) (cells : List (List Int)) (around : List Int) : Bool := decide (cells.length = n) && validBagS x0 around && noFreeS x2 around && allII (validBagS x0) cells
theorem passHead_ok {x0 : Int} {x1 : List Int} {x2 : List Bool} {x3 : List PR} (h : passHead x0 x1 x2 x3 = true) : 1 ≤ x0 ∧ x0 ≤ 8 ∧ 1 ≤ x1.length ∧ x1.length ≤ 4 ∧ nth x1 0 = -1 ∧ (x2.length : Int) = x0 ∧ x3.length ≤ 8 := by
  simp [passHead, inRg] at h; omega
theorem validBagS_ok {k : Int} {xs : List Int} (h : validBagS k xs = true) : isBagS xs = true ∧ (xs.length : Int) = k := by
  simp [validBagS] at h; exact h

/- Valid passing systems: the program's functions. -/
theorem sumTo_bd {xs : List Int} (h : small xs) : ∀ k, k ≤ xs.length → k ≤ 8 → 0 ≤ sumTo xs k ∧ sumTo xs k ≤ 1000 * k
  | 0, _, _ => by simp [sumTo]
  | k + 1, hk, h8 => by
    have ih := sumTo_bd h k (by omega) (by omega)
    have hx := h k (by omega)
    rw [sumTo, wrap64]; omega
theorem sumS_bd {xs : List Int} (h : isBagS xs = true) : 0 ≤ sumS xs ∧ sumS xs ≤ 8000 := by
  have h8 := isBagS_len h
  have := sumTo_bd (isBagS_small h) xs.length (Nat.le_refl _) h8.2
  unfold sumS; omega
/- Valid passing systems: the program's function. -/
theorem slice_from {P : Program} {T E : Nat} (hT : P.underlying T = some (.slice E)) (hE : (P.info? E).map (·.size) = some 1) (g o n N c : Nat) (hn : n = N + 1) (w' : World) :
    (Instr.slice T (.slice (some ⟨g, o, none⟩) n c) (some (.int .i64 1)) none none).run P w' = .ok (.slice (some ⟨g, if c = 1 then o else o + 1, none⟩) N (c - 1)) w' := by
  have hE' : ∃ info, P.info? E = some info ∧ info.size = 1 := by
    cases hh : P.info? E with
    | none => simp [hh] at hE
    | some info => exact ⟨info, rfl, by simpa [hh] using hE⟩
  obtain ⟨info, hi, hs⟩ := hE'
  subst hn
  have hn1 : ¬ ((N : Int) + 1 < 1) := by omega
  by_cases hc : c = 1
  · simp [hn1, Instr.slice, Instr.sliceBounds, Instr.sliceBound, run_underlying hT, asIntOf, sizeOf, typeInfo, hi, hs, hc]
  · simp [hn1, Instr.slice, Instr.sliceBounds, Instr.sliceBound, run_underlying hT, asIntOf, sizeOf, typeInfo, hi, hs, hc, Addr.add_lit]
theorem Ow.capI {w : World} {xs : List Int} {v : Value} {F : List Nat} (h : Ow w (dI xs) v F) : ∃ a c, v = .slice a xs.length c ∧ xs.length ≤ c ∧ SlI Any w a xs := by
  obtain ⟨a, c, rfl, hc, _⟩ := Ow_I.1 h
  exact ⟨a, c, rfl, hc, h.arg⟩
/- Valid passing systems: the reference's functions. -/
def bag6 (k : Int) (xs : List Int) : Bool := allB cntOk xs && ((xs.length : Int) == k)
theorem bag6_eq {k : Int} {xs : List Int} (h : 1 ≤ k ∧ k ≤ 8) : bag6 k xs = validBagS k xs := by
  unfold bag6 validBagS isBagS
  by_cases e : (xs.length : Int) = k
  · have : inRg xs.length 1 8 = true := by rw [inRg, decide_eq_true (by omega), decide_eq_true (by omega)]; rfl
    rw [this, Bool.and_true]
  · have : ((xs.length : Int) == k) = false := by simpa using e
    rw [this, Bool.and_false, Bool.and_false]
set_option maxHeartbeats 400000 in
theorem l06Bag_c (k6 : Int) (S : Nat → Prop) (a : Option Addr) (c : Nat) (cs : List Int) (w : World) (hx : SlI S w a cs) :
    Calls Tryz.prog 78 #[.int .i64 k6, .slice a cs.length c] w (RetP w (.bool (bag6 k6 cs))) := by
  have l1 := hx.len
  unfold maxLen at l1
  have i1 := hx.ix tabI.under tabI.size c
  go_enter Tryz.func78, Tryz.ntmps78
  go_wp2
  go_loopw [5] (fun i wr => ∃ k : Nat, k ≤ cs.length ∧ i = .int .i64 k ∧ w = wr ∧ (∀ j, j < k → cntOk (nth cs j) = true)) (fun i _ => cs.length - (intOf i).toNat)
  case atStart => exact ⟨0, Nat.zero_le _, rfl, rfl, by omega⟩
  case round =>
    obtain ⟨k, hk, rfl, rfl, hj⟩ := hrel
    have HJ := Lib.hid hj
    clear hj
    by_cases hlt : k < cs.length
    · have g1 := hx.cell k hlt
      go_wp2_with fail
      refine (l00In_c _ _ _ _).mono ?_
      rintro e w' ⟨rfl, rfl⟩
      cases hp : inRg (nth cs k) 0 1000
      · have HR := Lib.hid (allB_false (p := cntOk) hlt hp)
        clear hp
        go_wp2
        go_ret
        exact ⟨ret_bool (by rw [bag6, HR.out]; rfl), rfl⟩
      · have HP := Lib.hid (show cntOk (nth cs k) = true from hp)
        clear hp
        go_wp2
        go_roundw
        case rel => exact ⟨k + 1, by omega, by go_num, trivial, upto HJ.out HP.out⟩
        case measure => simp [intOf]; omega
    · have e : k = cs.length := by omega
      have HP := Lib.hid (allB_true (p := cntOk) (xs := cs) (e ▸ HJ.out))
      go_wp2
      go_ret
      exact ⟨ret_bool (by rw [bag6, HP.out, Bool.true_and]), rfl⟩
end Go.Proofs.YtbnikblhnibgiaaGreatDoor

/- Orders: which data are such a list. -/
namespace Go.Proofs.YtbnikblhnibgiaaGreatDoor
open Go.RowKit

theorem fitD_O {d : D} (h : Fit (.l [.i, .i, .i, .i]) d) : ∃ rs, d = dO rs := by
  obtain ⟨rows, rfl, hr⟩ := h
  have key : ∀ rows : List (List D), (∀ r, r ∈ rows → FitL [.i, .i, .i, .i] r) → ∃ rs : List Ord, rows.flatten = rs.flatMap Ord.ds := by
    intro rows
    induction rows with
    | nil => intro _; exact ⟨[], rfl⟩
    | cons r rows ih =>
      intro h
      obtain ⟨rs, e⟩ := ih (fun r hr => h r (by simp [hr]))
      obtain ⟨_, r0, e0, ⟨n0, rfl⟩, h0⟩ := h r (by simp)
      subst e0
      obtain ⟨_, r1, e1, ⟨n1, rfl⟩, h1⟩ := h0
      subst e1
      obtain ⟨_, r2, e2, ⟨n2, rfl⟩, h2⟩ := h1
      subst e2
      obtain ⟨_, r3, e3, ⟨n3, rfl⟩, h3⟩ := h2
      subst e3
      rw [show r3 = [] from h3]
      exact ⟨⟨n0, n1, n2, n3⟩ :: rs, by simp [e, Ord.ds]⟩
  obtain ⟨rs, e⟩ := key rows hr
  exact ⟨rs, by rw [e]; rfl⟩
theorem fit_dO (rs : List Ord) : Fit (.l [.i, .i, .i, .i]) (dO rs) := by
  refine ⟨rs.map Ord.ds, ?_, fun r hr => ?_⟩
  · simp only [dO]; congr 1
  · obtain ⟨x, _, rfl⟩ := List.mem_map.1 hr
    exact ⟨_, _, rfl, ⟨_, rfl⟩, ⟨_, _, rfl, ⟨_, rfl⟩, ⟨_, _, rfl, ⟨_, rfl⟩, ⟨_, _, rfl, ⟨_, rfl⟩, rfl⟩⟩⟩⟩
end Go.Proofs.YtbnikblhnibgiaaGreatDoor
