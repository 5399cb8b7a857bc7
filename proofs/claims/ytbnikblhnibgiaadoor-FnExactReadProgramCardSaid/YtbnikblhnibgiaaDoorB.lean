/- Lists of numbers and trees of cells in memory: what it is for a value to read as a datum, and for a datum to be owned. No program is in sight. -/
import Derived.WalkKit
import Derived.WalkSpells
import Derived.WalkLawsBesides
import Derived.BigQuiet
import Derived.Lib.Hide
import Derived.Deep.QuietTactic
namespace Go.Proofs.YtbnikblhnibgiaaDoor
open Go.RowKit

/-- A datum of one cell: a number, a bool, a string, or a slice whose elements take k cells each. -/
inductive D where
  | i (n : Int)
  | b (x : Bool)
  | s (t : ByteArray)
  | l (k : Nat) (ds : List D)

def blk (a : Option Addr) : Nat := match a with | some x => x.block | none => 0
def ofs (a : Option Addr) : Nat := match a with | some x => x.off | none => 0
def adr (a : Option Addr) (i : Nat) : Addr := ⟨blk a, ofs a + i, none⟩

mutual
/-- The value v reads as the datum; the blocks that are read are in S. -/
def Rd (S : Nat → Prop) (w : World) : D → Value → Prop
  | .i n, v => v = .int .i64 n
  | .b x, v => v = .bool x
  | .s t, v => v = .string t
  | .l k ds, v => ∃ a m c, v = .slice a m c ∧ ds.length = m * k ∧ m ≤ maxLen ∧ (ds = [] ∨ (S (blk a) ∧ ∃ g o, a = some ⟨g, o, none⟩)) ∧ RdL S w ds (blk a) (ofs a)
def RdL (S : Nat → Prop) (w : World) : List D → Nat → Nat → Prop
  | [], _, _ => True
  | d :: ds, g, o => (∃ v, w.cell? ⟨g, o, none⟩ = some v ∧ Rd S w d v) ∧ RdL S w ds g (o + 1)
end

mutual
/-- The value v holds the datum in the blocks F, none of which is met twice; their cells can be written. -/
def Ow (w : World) : D → Value → List Nat → Prop
  | .i n, v, F => v = .int .i64 n ∧ F = []
  | .b x, v, F => v = .bool x ∧ F = []
  | .s t, v, F => v = .string t ∧ F = []
  | .l k ds, v, F => ∃ a m c, v = .slice a m c ∧ ds.length = m * k ∧ m ≤ maxLen ∧
      ((ds = [] ∧ F = []) ∨ ∃ g o F', a = some ⟨g, o, none⟩ ∧ (ds ≠ [] ∧ m ≤ c) ∧ F = g :: F' ∧ OwL w ds g o F')
def OwL (w : World) : List D → Nat → Nat → List Nat → Prop
  | [], _, _, F => F = []
  | d :: ds, g, o, F => ∃ v F1 F2, w.cell? ⟨g, o, none⟩ = some v ∧ w.frozen? ⟨g, o, none⟩ = false ∧ Ow w d v F1 ∧ OwL w ds g (o + 1) F2 ∧ F = F1 ++ F2
end

/-- The blocks in S are as they were. -/
def Agree (S : Nat → Prop) (w w' : World) : Prop := ∀ k, S k → w'.heap[k]? = w.heap[k]?

mutual
theorem Rd.stable {S : Nat → Prop} {w w' : World} (h : Agree S w w') : ∀ (d : D) (v : Value), Rd S w d v → Rd S w' d v
  | .i _, _, r => r
  | .b _, _, r => r
  | .s _, _, r => r
  | .l k ds, v, r => by
    obtain ⟨a, m, c, hv, hl, hm, hp, hr⟩ := r
    refine ⟨a, m, c, hv, hl, hm, hp, ?_⟩
    rcases hp with hp | ⟨hs, _⟩
    · subst hp; trivial
    · exact RdL.stable h ds _ _ hs hr
theorem RdL.stable {S : Nat → Prop} {w w' : World} (h : Agree S w w') : ∀ (ds : List D) (g o : Nat), S g → RdL S w ds g o → RdL S w' ds g o
  | [], _, _, _, _ => trivial
  | d :: ds, g, o, hs, r => by
    obtain ⟨⟨v, hc, hd⟩, hr⟩ := r
    refine ⟨⟨v, ?_, Rd.stable h d v hd⟩, RdL.stable h ds g (o + 1) hs hr⟩
    rw [World.cell?_of_block (w := w) (h g hs)]; exact hc
end

mutual
theorem Rd.wider {S T : Nat → Prop} {w : World} (h : ∀ k, k < w.heap.size → S k → T k) : ∀ (d : D) (v : Value), Rd S w d v → Rd T w d v
  | .i _, _, r => r
  | .b _, _, r => r
  | .s _, _, r => r
  | .l k ds, v, r => by
    obtain ⟨a, m, c, hv, hl, hm, hp, hr⟩ := r
    refine ⟨a, m, c, hv, hl, hm, ?_, RdL.wider h ds _ _ hr⟩
    rcases hp with hp | ⟨hs, ha⟩
    · exact .inl hp
    · cases ds with
      | nil => exact .inl rfl
      | cons d ds =>
        obtain ⟨⟨u, hc, _⟩, _⟩ := hr
        exact .inr ⟨h _ (World.block_lt_of_cell? w _ hc) hs, ha⟩
theorem RdL.wider {S T : Nat → Prop} {w : World} (h : ∀ k, k < w.heap.size → S k → T k) : ∀ (ds : List D) (g o : Nat), RdL S w ds g o → RdL T w ds g o
  | [], _, _, _ => trivial
  | d :: ds, g, o, r => by
    obtain ⟨⟨v, hc, hd⟩, hr⟩ := r
    exact ⟨⟨v, hc, Rd.wider h d v hd⟩, RdL.wider h ds g (o + 1) hr⟩
end

/-- What reads in a world reads in every later one that leaves the old blocks alone. -/
theorem Rd.below {S : Nat → Prop} {w w' : World} {d : D} {v : Value} (r : Rd S w d v) (h : Below w.heap.size w w') : Rd S w' d v := by
  have r1 : Rd (fun k => S k ∧ k < w.heap.size) w d v := Rd.wider (fun k hk hs => ⟨hs, hk⟩) d v r
  have r2 : Rd (fun k => S k ∧ k < w.heap.size) w' d v := Rd.stable (fun k hk => h.block k hk.2) d v r1
  exact Rd.wider (fun k _ hs => hs.1) d v r2

mutual
theorem Ow.lt {w : World} : ∀ (d : D) (v : Value) (F : List Nat), Ow w d v F → ∀ g, g ∈ F → g < w.heap.size
  | .i _, _, _, r, g, hg => by rw [r.2] at hg; cases hg
  | .b _, _, _, r, g, hg => by rw [r.2] at hg; cases hg
  | .s _, _, _, r, g, hg => by rw [r.2] at hg; cases hg
  | .l k ds, v, F, r, g, hg => by
    obtain ⟨a, m, c, hv, hl, hm, hp⟩ := r
    rcases hp with ⟨_, hF⟩ | ⟨b, o, F', ha, hne, hF, hr⟩
    · rw [hF] at hg; cases hg
    · rw [hF] at hg
      rcases List.mem_cons.1 hg with rfl | hg
      · cases ds with
        | nil => exact absurd rfl hne.1
        | cons d ds =>
          obtain ⟨u, F1, F2, hc, _⟩ := hr
          exact World.block_lt_of_cell? w _ hc
      · exact OwL.lt ds b o F' hr g hg
theorem OwL.lt {w : World} : ∀ (ds : List D) (b o : Nat) (F : List Nat), OwL w ds b o F → ∀ g, g ∈ F → g < w.heap.size
  | [], _, _, _, r, g, hg => by rw [show _ = [] from r] at hg; cases hg
  | d :: ds, b, o, F, r, g, hg => by
    obtain ⟨v, F1, F2, hc, hf, hd, hr, hF⟩ := r
    rw [hF] at hg
    rcases List.mem_append.1 hg with hg | hg
    · exact Ow.lt d v F1 hd g hg
    · exact OwL.lt ds b (o + 1) F2 hr g hg
end

mutual
theorem Ow.stable {w w' : World} : ∀ (d : D) (v : Value) (F : List Nat), Agree (· ∈ F) w w' → Ow w d v F → Ow w' d v F
  | .i _, _, _, _, r => r
  | .b _, _, _, _, r => r
  | .s _, _, _, _, r => r
  | .l k ds, v, F, h, r => by
    obtain ⟨a, m, c, hv, hl, hm, hp⟩ := r
    refine ⟨a, m, c, hv, hl, hm, ?_⟩
    rcases hp with hp | ⟨b, o, F', ha, hne, hF, hr⟩
    · exact .inl hp
    · subst hF
      exact .inr ⟨b, o, F', ha, hne, rfl, OwL.stable ds b o F' (h b (by simp)) (fun k hk => h k (by simp [hk])) hr⟩
theorem OwL.stable {w w' : World} : ∀ (ds : List D) (b o : Nat) (F : List Nat), w'.heap[b]? = w.heap[b]? → Agree (· ∈ F) w w' → OwL w ds b o F → OwL w' ds b o F
  | [], _, _, _, _, _, r => r
  | d :: ds, b, o, F, hb, h, r => by
    obtain ⟨v, F1, F2, hc, hf, hd, hr, hF⟩ := r
    subst hF
    refine ⟨v, F1, F2, ?_, ?_, Ow.stable d v F1 (fun k hk => h k (by simp [hk])) hd, OwL.stable ds b (o + 1) F2 hb (fun k hk => h k (by simp [hk])) hr, rfl⟩
    · rw [World.cell?_of_block (w := w) hb]; exact hc
    · rw [World.frozen?_of_block (w := w) hb]; exact hf
end

mutual
theorem Ow.rd {w : World} : ∀ (d : D) (v : Value) (F : List Nat), Ow w d v F → Rd (· ∈ F) w d v
  | .i _, _, _, r => r.1
  | .b _, _, _, r => r.1
  | .s _, _, _, r => r.1
  | .l k ds, v, F, r => by
    obtain ⟨a, m, c, hv, hl, hm, hp⟩ := r
    rcases hp with ⟨hds, _⟩ | ⟨b, o, F', ha, hne, hF, hr⟩
    · subst hds; exact ⟨a, m, c, hv, hl, hm, .inl rfl, trivial⟩
    · subst hF
      have hr' := OwL.rd ds b o F' hr
      refine ⟨a, m, c, hv, hl, hm, .inr ⟨?_, b, o, ha⟩, ?_⟩
      · subst ha; simp [blk]
      · subst ha; exact RdL.wider (fun k _ hk => List.mem_cons_of_mem _ hk) ds b o hr'
theorem OwL.rd {w : World} : ∀ (ds : List D) (b o : Nat) (F : List Nat), OwL w ds b o F → RdL (· ∈ F) w ds b o
  | [], _, _, _, _ => trivial
  | d :: ds, b, o, F, r => by
    obtain ⟨v, F1, F2, hc, hf, hd, hr, hF⟩ := r
    subst hF
    exact ⟨⟨v, hc, Rd.wider (fun k _ hk => List.mem_append_left _ hk) d v (Ow.rd d v F1 hd)⟩, RdL.wider (fun k _ hk => List.mem_append_right _ hk) ds b (o + 1) (OwL.rd ds b (o + 1) F2 hr)⟩
end

/-- The cells of a slice, one by one. -/
theorem RdL.get {S : Nat → Prop} {w : World} : ∀ (ds : List D) (g o : Nat), RdL S w ds g o → ∀ i d, ds[i]? = some d → ∃ v, w.cell? ⟨g, o + i, none⟩ = some v ∧ Rd S w d v
  | [], _, _, _, i, d, hd => by simp at hd
  | d0 :: ds, g, o, r, i, d, hd => by
    cases i with
    | zero => simp at hd; subst hd; exact r.1
    | succ i =>
      have := RdL.get ds g (o + 1) r.2 i d (by simpa using hd)
      rwa [show o + (i + 1) = o + 1 + i from by omega]
theorem RdL.mk {S : Nat → Prop} {w : World} : ∀ (ds : List D) (g o : Nat), (∀ i d, ds[i]? = some d → ∃ v, w.cell? ⟨g, o + i, none⟩ = some v ∧ Rd S w d v) → RdL S w ds g o
  | [], _, _, _ => trivial
  | d0 :: ds, g, o, r => by
    refine ⟨by simpa using r 0 d0 (by simp), RdL.mk ds g (o + 1) fun i d hd => ?_⟩
    have := r (i + 1) d (by simpa using hd)
    rwa [show o + (i + 1) = o + 1 + i from by omega] at this

/-- The element at a place (a name of its own, so that the walk leaves it as it is). -/
def nth (xs : List Int) (i : Nat) : Int := xs.getD i 0
def nthR (xss : List (List Int)) (i : Nat) : List Int := xss.getD i []
theorem nth_lt {xs : List Int} {i : Nat} (h : i < xs.length) : nth xs i = xs[i] := by simp [nth, h]
theorem nthR_lt {xs : List (List Int)} {i : Nat} (h : i < xs.length) : nthR xs i = xs[i] := by simp [nthR, h]

def dI (xs : List Int) : D := .l 1 (xs.map .i)
def dB (xs : List Bool) : D := .l 1 (xs.map .b)
def dII (xss : List (List Int)) : D := .l 1 (xss.map dI)

/-- Cells of a list of numbers, read through an address. -/
structure SlI (S : Nat → Prop) (w : World) (a : Option Addr) (xs : List Int) : Prop where
  len : xs.length ≤ maxLen
  ptr : 0 < xs.length → S (blk a) ∧ ∃ g o, a = some ⟨g, o, none⟩
  cell : ∀ i, i < xs.length → w.cell? (adr a i) = some (.int .i64 (nth xs i))

theorem Rd_I {S : Nat → Prop} {w : World} {xs : List Int} {v : Value} : Rd S w (dI xs) v ↔ ∃ a c, v = .slice a xs.length c ∧ SlI S w a xs := by
  constructor
  · rintro ⟨a, m, c, hv, hl, hm, hp, hr⟩
    have hl' : xs.length = m := by simpa using hl
    subst hl'
    refine ⟨a, c, hv, hm, fun h0 => ?_, fun i hi => ?_⟩
    · rcases hp with hp | hp
      · simp at hp; subst hp; simp at h0
      · exact hp
    · obtain ⟨u, hc, hu⟩ := RdL.get _ _ _ hr i (.i (nth xs i)) (by simp [nth, hi])
      rw [show u = _ from hu] at hc; exact hc
  · rintro ⟨a, c, rfl, h⟩
    refine ⟨a, xs.length, c, rfl, by simp, h.len, ?_, ?_⟩
    · cases xs with
      | nil => exact .inl rfl
      | cons x xs => exact .inr (h.ptr (by simp))
    · refine RdL.mk _ _ _ fun i d hd => ?_
      simp only [List.getElem?_map, Option.map_eq_some_iff] at hd
      obtain ⟨x, hx, rfl⟩ := hd
      have hi := (List.getElem?_eq_some_iff.1 hx).1
      refine ⟨_, h.cell i hi, ?_⟩
      show Value.int .i64 (nth xs i) = .int .i64 x
      simp [nth, List.getD, hx]

/-- The cells of a slice of slices of numbers. -/
structure SlII (S : Nat → Prop) (w : World) (a : Option Addr) (xss : List (List Int)) : Prop where
  len : xss.length ≤ maxLen
  ptr : 0 < xss.length → S (blk a) ∧ ∃ g o, a = some ⟨g, o, none⟩
  cell : ∀ i, i < xss.length → ∃ a' c', w.cell? (adr a i) = some (.slice a' (nthR xss i).length c') ∧ SlI S w a' (nthR xss i)

theorem Rd_II {S : Nat → Prop} {w : World} {xss : List (List Int)} {v : Value} : Rd S w (dII xss) v ↔ ∃ a c, v = .slice a xss.length c ∧ SlII S w a xss := by
  constructor
  · rintro ⟨a, m, c, hv, hl, hm, hp, hr⟩
    have hl' : xss.length = m := by simpa using hl
    subst hl'
    refine ⟨a, c, hv, hm, fun h0 => ?_, fun i hi => ?_⟩
    · rcases hp with hp | hp
      · simp at hp; subst hp; simp at h0
      · exact hp
    · obtain ⟨u, hc, hu⟩ := RdL.get _ _ _ hr i (dI (nthR xss i)) (by simp [nthR, hi])
      obtain ⟨a', c', rfl, h⟩ := Rd_I.1 hu
      exact ⟨a', c', hc, h⟩
  · rintro ⟨a, c, rfl, h⟩
    refine ⟨a, xss.length, c, rfl, by simp, h.len, ?_, ?_⟩
    · cases xss with
      | nil => exact .inl rfl
      | cons x xs => exact .inr (h.ptr (by simp))
    · refine RdL.mk _ _ _ fun i d hd => ?_
      simp only [List.getElem?_map, Option.map_eq_some_iff] at hd
      obtain ⟨x, hx, rfl⟩ := hd
      have hi := (List.getElem?_eq_some_iff.1 hx).1
      obtain ⟨a', c', hc, h'⟩ := h.cell i hi
      refine ⟨_, hc, Rd_I.2 ⟨a', c', ?_, ?_⟩⟩
      · simp [nthR, List.getD, hx]
      · simpa [nthR, List.getD, hx] using h'

theorem SlI.below {S : Nat → Prop} {w w' : World} {a : Option Addr} {xs : List Int} (h : SlI S w a xs) (hb : Below w.heap.size w w') : SlI S w' a xs := by
  obtain ⟨a', c', e, h'⟩ := Rd_I.1 ((Rd_I.2 ⟨a, 0, rfl, h⟩).below hb)
  cases e; exact h'
theorem SlII.below {S : Nat → Prop} {w w' : World} {a : Option Addr} {xs : List (List Int)} (h : SlII S w a xs) (hb : Below w.heap.size w w') : SlII S w' a xs := by
  obtain ⟨a', c', e, h'⟩ := Rd_II.1 ((Rd_II.2 ⟨a, 0, rfl, h⟩).below hb)
  cases e; exact h'

/-- The address of an element, for whatever stride. -/
theorem ix_of {P : Program} {T E k : Nat} (hT : P.underlying T = some (.slice E)) (hE : (P.info? E).map (·.size) = some k) {a : Option Addr} {n : Nat} (hp : 0 < n → ∃ g o, a = some ⟨g, o, none⟩)
   (c : Nat) (i : Int) (w' : World) (h0 : 0 ≤ i) (h1 : i < n) : (Instr.indexAt T (.slice a n c) (.int .i64 i)).run P w' = .ok (.pointer (some (adr a (i.toNat * k)))) w' := by
  obtain ⟨b, o, rfl⟩ := hp (by omega)
  have hE' : ∃ info, P.info? E = some info ∧ info.size = k := by
    cases hh : P.info? E with
    | none => simp [hh] at hE
    | some info => exact ⟨info, rfl, by simpa [hh] using hE⟩
  obtain ⟨info, hi, hs⟩ := hE'
  simp [Instr.indexAt, run_underlying hT, asIntOf, h0, h1, sizeOf, typeInfo, hi, hs, adr, blk, ofs, Addr.add_lit]
theorem SlI.ix {P : Program} {T E : Nat} {S : Nat → Prop} {w : World} {a : Option Addr} {xs : List Int} (h : SlI S w a xs) (hT : P.underlying T = some (.slice E)) (hE : (P.info? E).map (·.size) = some 1)
   (c : Nat) (i : Int) (w' : World) (h0 : 0 ≤ i) (h1 : i < xs.length) : (Instr.indexAt T (.slice a xs.length c) (.int .i64 i)).run P w' = .ok (.pointer (some (adr a i.toNat))) w' := by
  rw [ix_of hT hE (fun h0 => (h.ptr h0).2) c i w' h0 h1, Nat.mul_one]
theorem SlII.ix {P : Program} {T E : Nat} {S : Nat → Prop} {w : World} {a : Option Addr} {xs : List (List Int)} (h : SlII S w a xs) (hT : P.underlying T = some (.slice E)) (hE : (P.info? E).map (·.size) = some 1)
   (c : Nat) (i : Int) (w' : World) (h0 : 0 ≤ i) (h1 : i < xs.length) : (Instr.indexAt T (.slice a xs.length c) (.int .i64 i)).run P w' = .ok (.pointer (some (adr a i.toNat))) w' := by
  rw [ix_of hT hE (fun h0 => (h.ptr h0).2) c i w' h0 h1, Nat.mul_one]

/-- What a law on lists of numbers asks of the program's tables: T is the slice type, E the element type. -/
structure Tab (P : Program) (T E : Nat) (z : Value) (k bytes : Nat) : Prop where
  under : P.underlying T = some (.slice E)
  info : (P.info? E).map (fun i => (i.zero, i.size, i.bytes)) = some (some z, k, bytes)
theorem Tab.size {P : Program} {T E : Nat} {z : Value} {k bytes : Nat} (h : Tab P T E z k bytes) : (P.info? E).map (·.size) = some k := by
  obtain ⟨i, hi, _, h1, _⟩ := info_parts h.info
  simp [hi, h1]

/-- A list of one-cell values under construction. -/
def Bld (E : Nat) (w : World) (B : Nat) (v : Value) (vs : List Value) : Prop := w.ownsRow B E 1 v vs.length vs
theorem Bld.empty (E : Nat) (w : World) (B : Nat) (h : B ≤ w.heap.size) : Bld E (w.alloc (.cells #[] E)) B (.slice (some ⟨w.heap.size, 0, none⟩) 0 0) [] :=
  World.ownsRow_made w #[] 0 h (by simp [maxLen]) (by simp)
theorem Bld.nil (E : Nat) (w : World) (B : Nat) : Bld E w B (.slice none 0 0) [] := World.ownsRow_nil w B E 1
theorem app_one {P : Program} {ops : Array Oper} {rest : List Oper} {o : Oper} {ac : Act} {Q : Exit → Act → World → Prop} {w : World} (hgd : o.guard = none) (s x : Operand) (T : TypeId)
    (ho : o.op = .call { callee := .builtin .append, args := #[s, x], argTypes := #[T, T] }) {E bytes : Nat} {z : Value} (tab : Tab P T E z 1 bytes) (hzs : z.cells.size = 1) (hby : bytes ≤ 1024)
    (B : Nat) (v : Value) (vs : List Value) (hs : ac.eval s = v) (hown : Bld E w B v vs) (g : Nat) (y : Value) (h1 : y.oneCell' = true)
    (hx : ac.eval x = .slice (some ⟨g, 0, none⟩) 1 1) (hc : w.cell? ⟨g, 0, none⟩ = some y) (hlen : vs.length < 4294967296) (hB : B ≤ w.heap.size)
    (K : ∀ v' w', Bld E w' B v' (vs ++ [y]) → Below B w w' → wpList P ops Q rest (ac.put o.dst v') w') : wpList P ops Q (o :: rest) ac w := by
  obtain ⟨i0, hi, hz0, hz1, hz2⟩ := info_parts tab.info
  refine wpList_append_own w hgd s x T ho B E i0 z 1 bytes tab.under hi hz0 hz1 hz2 hzs (by decide) v vs.length vs hs hown ⟨g, 0, none⟩ 1 1 [y] hx rfl ?_ ?_ ?_ ?_ hB ?_
  · intro j u hu
    cases j with
    | zero => simp at hu; subst hu; simpa [Addr.add] using hc
    | succ j => simp at hu
  · intro u hu; simp at hu; subst hu; exact h1
  · unfold maxLen; omega
  · have : (vs.length + 1) * bytes ≤ 4294967296 * 1024 := Nat.mul_le_mul (by omega) hby
    omega
  · intro v' w' h2 h3 _
    refine K v' w' (by simpa [Bld] using h2) ?_
    have hlt := hown.lt
    exact (Below.refl B w).grown h3 hB fun k hk => (hlt k hk).1
theorem Bld.below {E : Nat} {w w' : World} {B : Nat} {v : Value} {vs : List Value} (h : Bld E w B v vs) (hb : Below w.heap.size w w') : Bld E w' B v vs :=
  World.ownsRow.kept (row := none) h ⟨hb.os, hb.tape, hb.output, hb.size, fun k hk _ => hb.block k hk⟩ (by cases v.ownBlock <;> simp)

/-- What has been built is owned. -/
theorem Bld.ow {E : Nat} {w : World} {B : Nat} {v : Value} {xs : List Int} (h : Bld E w B v (xs.map (.int .i64))) (hl : xs.length ≤ maxLen) :
    ∃ a c F, v = .slice a xs.length c ∧ Ow w (dI xs) (.slice a xs.length c) F ∧ F.Nodup ∧ ∀ g, g ∈ F → B ≤ g := by
  unfold Bld at h
  have hcells := fun g => World.ownsRow.cells (g := g) h
  obtain ⟨_, h2⟩ := h
  rcases h2 with ⟨rfl, h0⟩ | ⟨g, cap, cur, rfl, hB, hg, hn, hcap, hsz, htake⟩
  · have : xs = [] := by simpa using h0
    subst this
    exact ⟨none, 0, [], rfl, ⟨none, 0, 0, rfl, rfl, by simp [maxLen], .inl ⟨rfl, rfl⟩⟩, by simp, by simp⟩
  · simp only [List.length_map, Nat.mul_one] at *
    have hfr : ∀ j, w.frozen? ⟨g, j, none⟩ = false := fun j => by simp [World.frozen?, hg]
    have hc : ∀ j x, xs[j]? = some x → w.cell? ⟨g, j, none⟩ = some (.int .i64 x) := fun j x hx => by
      have := hcells g rfl j (.int .i64 x) (by simp [hx])
      rwa [show (⟨g, 0, none⟩ : Addr).add j = ⟨g, j, none⟩ from by rw [Addr.add_lit, Nat.zero_add]] at this
    have hrow : ∀ (ys : List Int) (o : Nat), (∀ j x, ys[j]? = some x → w.cell? ⟨g, o + j, none⟩ = some (.int .i64 x)) → OwL w (ys.map .i) g o [] := by
      intro ys
      induction ys with
      | nil => intro o _; rfl
      | cons y ys ih =>
        intro o hy
        refine ⟨.int .i64 y, [], [], by simpa using hy 0 y (by simp), hfr _, ⟨rfl, rfl⟩, ih (o + 1) (fun j x hx => ?_), rfl⟩
        have := hy (j + 1) x (by simpa using hx)
        rwa [show o + (j + 1) = o + 1 + j from by omega] at this
    cases xs with
    | nil => exact ⟨_, cap, [], rfl, ⟨_, 0, cap, rfl, rfl, by simp [maxLen], .inl ⟨rfl, rfl⟩⟩, by simp, by simp⟩
    | cons x xs =>
      refine ⟨_, cap, [g], rfl, ⟨_, (x :: xs).length, cap, rfl, by simp, hl, .inr ⟨g, 0, [], rfl, ⟨by simp, hn⟩, rfl, ?_⟩⟩, by simp, by simp [hB]⟩
      exact hrow (x :: xs) 0 (by simpa using hc)

/-- The call returns a datum in memory of its own, and leaves what was there alone. -/
def RetD (w : World) (d : D) (e : Ending) (w' : World) : Prop := ∃ v F, e = .returned v ∧ Below w.heap.size w w' ∧ Ow w' d v F ∧ F.Nodup ∧ ∀ g, g ∈ F → w.heap.size ≤ g
theorem RetD.ofBld {E : Nat} {w w' : World} {v : Value} {xs : List Int} (h : Bld E w' w.heap.size v (xs.map (.int .i64))) (hl : xs.length ≤ maxLen) (hb : Below w.heap.size w w') : RetD w (dI xs) (.returned v) w' := by
  obtain ⟨a, c, F, rfl, ho, hn, hF⟩ := h.ow hl
  exact ⟨_, F, rfl, hb, ho, hn, hF⟩

/- What the functions on bags compute: plain lists and numbers. No program is in sight. -/
/-- The call returns v and leaves the old memory alone. -/
def RetV (w : World) (v : Value) (e : Ending) (w' : World) : Prop := e = .returned v ∧ Below w.heap.size w w'
/-- The call returns v and does nothing. -/
def RetP (w : World) (v : Value) (e : Ending) (w' : World) : Prop := e = .returned v ∧ w = w'
/-- The call returns v and at most draws. -/
def RetQ (w : World) (v : Value) (e : Ending) (w' : World) : Prop := e = .returned v ∧ ∃ n, w' = w.drewN n

theorem ret_bool {a b : Bool} (h : a = b) : Ending.returned (.bool a) = .returned (.bool b) := by rw [h]
theorem ret_int {k : IntKind} {a b : Int} (h : a = b) : Ending.returned (.int k a) = .returned (.int k b) := by rw [h]
theorem below_drewN (B : Nat) (w : World) : ∀ n, Below B w (w.drewN n) := fun _ => ⟨rfl, rfl, rfl, Nat.le_refl _, fun _ _ => rfl⟩
theorem RetV.v {w : World} {v : Value} {e : Ending} {w' : World} (h : RetV w v e w') : RetV w v e w' := h
theorem RetP.v {w : World} {v : Value} {e : Ending} {w' : World} (h : RetP w v e w') : RetV w v e w' := by
  obtain ⟨rfl, rfl⟩ := h; exact ⟨rfl, Below.refl _ _⟩
theorem RetQ.v {w : World} {v : Value} {e : Ending} {w' : World} (h : RetQ w v e w') : RetV w v e w' := by
  obtain ⟨rfl, n, rfl⟩ := h; exact ⟨rfl, below_drewN _ _ _⟩
theorem bnext {w w1 w2 : World} {B : Nat} (h : Below B w w1) (h2 : Below w1.heap.size w1 w2) (hB : B ≤ w.heap.size) : Below B w w2 := h.trans (h2.mono (Nat.le_trans hB h.size))
theorem bcell {W w1 : World} (hb : Below W.heap.size W w1) : (∀ b o, b < W.heap.size → w1.cell? ⟨b, o, none⟩ = W.cell? ⟨b, o, none⟩) ∧ (∀ b o, b < W.heap.size → w1.frozen? ⟨b, o, none⟩ = W.frozen? ⟨b, o, none⟩) :=
  ⟨fun b o h => hb.cell (p := ⟨b, o, none⟩) h, fun b o h => hb.frozen (p := ⟨b, o, none⟩) h⟩
theorem bcell1 {w w' : World} {B b i : Nat} (hb : Below B w w') (h : b < B) : w'.cell? ⟨b, i, none⟩ = w.cell? ⟨b, i, none⟩ := hb.cell (p := ⟨b, i, none⟩) h
theorem below_alloc (w : World) (o : Obj) : Below w.heap.size w (w.alloc o) := (Below.refl _ _).alloc (Nat.le_refl _) o
theorem RetD.from {w w1 w' : World} {d : D} {e : Ending} (hb : Below w.heap.size w w1) (h : RetD w1 d e w') : RetD w d e w' := by
  obtain ⟨v, F, he, h1, h2, h3, h4⟩ := h
  exact ⟨v, F, he, bnext hb h1 (Nat.le_refl _), h2, h3, fun g hg => Nat.le_trans hb.size (h4 g hg)⟩
theorem callFunc_run {P : Program} {f : FuncId} {fn : Func} (h : P.funcs[f]? = some fn) (h2 : (fn.name == "runtime.NumGoroutine") = false) (h3 : fn.body.isNone = false) (args : Array Value) (w : World) :
    (callFunc f args).run P w = .ok (.enter f args) w := by
  have h2' : fn.name ≠ "runtime.NumGoroutine" := by simpa using h2
  have h3' : fn.body ≠ none := fun h => by rw [h] at h3; cases h3
  simp [callFunc, program, h, h2', h3', Sem.run_bind, Sem.run]

theorem upto {k : Nat} {P : Nat → Prop} (h : ∀ j, j < k → P j) (hk : P k) : ∀ j, j < k + 1 → P j := fun j hj => by
  by_cases e : j = k
  · rw [e]; exact hk
  · exact h j (by omega)

/-- The call returns a datum in memory of its own and a code. -/
def RetDC (w : World) (d : D) (code : Int) (e : Ending) (w' : World) : Prop := ∃ v F, e = .returned (.tuple #[v, .int .i64 code]) ∧ Below w.heap.size w w' ∧ Ow w' d v F ∧ F.Nodup ∧ ∀ g, g ∈ F → w.heap.size ≤ g
theorem RetDC.from {w w1 w' : World} {d : D} {code : Int} {e : Ending} (hb : Below w.heap.size w w1) (h : RetDC w1 d code e w') : RetDC w d code e w' := by
  obtain ⟨v, F, he, h1, h2, h3, h4⟩ := h
  exact ⟨v, F, he, bnext hb h1 (Nat.le_refl _), h2, h3, fun g hg => Nat.le_trans hb.size (h4 g hg)⟩
theorem RetDC.ofD {w w' w2 : World} {d : D} {v : Value} {code : Int} (h : RetD w d (.returned v) w') (hb : Below w'.heap.size w' w2) : RetDC w d code (.returned (.tuple #[v, .int .i64 code])) w2 := by
  obtain ⟨u, F, he, h1, h2, h3, h4⟩ := h
  cases he
  exact ⟨v, F, rfl, bnext h1 hb (Nat.le_refl _), Ow.stable d v F (fun k hk => hb.block k (Ow.lt d v F h2 k hk)) h2, h3, h4⟩
theorem Ow_empty (w : World) (a : Option Addr) (c k : Nat) : Ow w (.l k []) (.slice a 0 c) [] := ⟨a, 0, c, rfl, by simp, by simp [maxLen], .inl ⟨rfl, rfl⟩⟩
theorem RetDC.none {w w' : World} (a : Option Addr) (c : Nat) (code : Int) (hb : Below w.heap.size w w') : RetDC w (dI []) code (.returned (.tuple #[.slice a 0 c, .int .i64 code])) w' :=
  ⟨_, [], rfl, hb, Ow_empty _ _ _ _, by simp, by simp⟩
theorem Ow.slI {w : World} {xs : List Int} {v : Value} {F : List Nat} (h : Ow w (dI xs) v F) : ∃ a c, v = .slice a xs.length c ∧ SlI (· ∈ F) w a xs := Rd_I.1 (Ow.rd _ _ _ h)

theorem wrap_64 (n : Int) : IntKind.i64.wrap n = wrap64 n := by rw [IntKind.wrap_i64, wrap64]

/-- n is from low to high. -/
def inRg (n low high : Int) : Bool := decide (low ≤ n) && decide (n ≤ high)
/-- p holds of all. -/
def allB (p : Int → Bool) (xs : List Int) : Bool := xs.all p
theorem allB_true {p : Int → Bool} {xs : List Int} (h : ∀ j, j < xs.length → p (nth xs j) = true) : allB p xs = true := by
  rw [allB, List.all_eq_true]
  intro x hx
  obtain ⟨j, hj, rfl⟩ := List.getElem_of_mem hx
  simpa [nth_lt hj] using h j hj
theorem allB_false {p : Int → Bool} {xs : List Int} {k : Nat} (hk : k < xs.length) (h : p (nth xs k) = false) : allB p xs = false := by
  rw [allB, List.all_eq_false]
  exact ⟨_, List.getElem_mem hk, by simpa [nth_lt hk] using h⟩
theorem allB_at {p : Int → Bool} {xs : List Int} (h : allB p xs = true) {k : Nat} (hk : k < xs.length) : p (nth xs k) = true := by
  rw [allB, List.all_eq_true] at h
  rw [nth_lt hk]; exact h _ (List.getElem_mem hk)

def cntOk (n : Int) : Bool := inRg n 0 1000
/-- A list is a bag. -/
def isBagS (xs : List Int) : Bool := allB cntOk xs && inRg xs.length 1 8
def validBagS (kinds : Int) (xs : List Int) : Bool := isBagS xs && ((xs.length : Int) == kinds)
theorem isBagS_len {xs : List Int} (h : isBagS xs = true) : 1 ≤ xs.length ∧ xs.length ≤ 8 := by
  simp [isBagS, inRg] at h; omega
theorem isBagS_at {xs : List Int} (h : isBagS xs = true) {k : Nat} (hk : k < xs.length) : 0 ≤ nth xs k ∧ nth xs k ≤ 1000 := by
  simp only [isBagS, Bool.and_eq_true] at h
  have := allB_at h.1 hk
  simpa [cntOk, inRg] using this
def twoS (xs ys : List Int) : Int := if isBagS xs = true ∧ isBagS ys = true then (if xs.length = ys.length then 0 else 2) else 1
theorem twoS_ok {xs ys : List Int} (h : twoS xs ys = 0) : isBagS xs = true ∧ isBagS ys = true ∧ xs.length = ys.length := by
  unfold twoS at h
  split at h
  · rename_i hh
    split at h
    · exact ⟨hh.1, hh.2, by assumption⟩
    · cases h
  · cases h

/-- The first place where p holds, or -1. -/
def idxF (p : Int → Bool) (xs : List Int) : Int := match xs.findIdx? p with | some i => (i : Int) | none => -1
theorem idxF_at {p : Int → Bool} {xs : List Int} {k : Nat} (hk : k < xs.length) (h : ∀ j, j < k → p (nth xs j) = false) (hp : p (nth xs k) = true) : idxF p xs = k := by
  have : xs.findIdx? p = some k := by
    rw [List.findIdx?_eq_some_iff_getElem]
    refine ⟨hk, by simpa [nth, hk] using hp, fun j hj => ?_⟩
    have := h j hj
    simpa [nth, show j < xs.length by omega] using this
  simp [idxF, this]
theorem idxF_none {p : Int → Bool} {xs : List Int} (h : ∀ j, j < xs.length → p (nth xs j) = false) : idxF p xs = -1 := by
  have : xs.findIdx? p = none := by
    rw [List.findIdx?_eq_none_iff]
    intro x hx
    obtain ⟨j, hj, rfl⟩ := List.getElem_of_mem hx
    simpa [nth, hj] using h j hj
  simp [idxF, this]
def anyB (p : Int → Bool) (xs : List Int) : Bool := xs.any p
theorem idxF_any (p : Int → Bool) (xs : List Int) : decide (0 ≤ idxF p xs) = anyB p xs := by
  unfold idxF anyB
  cases h : xs.findIdx? p with
  | none =>
    have := List.findIdx?_eq_none_iff.1 h
    have h2 : xs.any p = false := by rw [List.any_eq_false]; intro x hx; simp [this x hx]
    simp [h2]
  | some i =>
    obtain ⟨hi, hp, _⟩ := List.findIdx?_eq_some_iff_getElem.1 h
    have h2 : xs.any p = true := List.any_eq_true.2 ⟨_, List.getElem_mem hi, hp⟩
    simp [h2]
theorem anyB_not (p : Int → Bool) (xs : List Int) : anyB (fun n => !p n) xs = !allB p xs := by
  simp [anyB, allB, List.all_eq_not_any_not]

/-- The sum as the machine reckons it. -/
def sumTo (xs : List Int) : Nat → Int
  | 0 => 0
  | k + 1 => wrap64 (sumTo xs k + nth xs k)
def sumS (xs : List Int) : Int := sumTo xs xs.length

/-- Two lists taken together, place by place. -/
def zipF (g : Int → Int → Int) (xs ys : List Int) (k : Nat) : List Int := (List.range k).map fun i => g (nth xs i) (nth ys i)
theorem zipF_succ (g : Int → Int → Int) (xs ys : List Int) (k : Nat) : (zipF g xs ys k).map (Value.int .i64) ++ [Value.int .i64 (g (nth xs k) (nth ys k))] = (zipF g xs ys (k + 1)).map (Value.int .i64) := by
  simp [zipF, List.range_succ]
theorem zipF_len (g : Int → Int → Int) (xs ys : List Int) (k : Nat) : (zipF g xs ys k).length = k := by simp [zipF]
theorem zipF_at {g : Int → Int → Int} {xs ys : List Int} {k i : Nat} (h : i < k) : nth (zipF g xs ys k) i = g (nth xs i) (nth ys i) := by
  simp [nth, zipF, h]
def mulW (x y : Int) : Int := wrap64 (x * y)
def addW (f x y : Int) : Int := wrap64 (x + wrap64 (f * y))
def minI (x y : Int) : Int := if x < y then x else y
def maxI (x y : Int) : Int := if y < x then x else y
def plusS (xs ys : List Int) (f : Int) : List Int := zipF (addW f) xs ys xs.length
def weighS (xs ws : List Int) : Int := sumS (zipF mulW xs ws xs.length)
/-- No element of the first list is greater. -/
def withinS (xs ys : List Int) : Bool := (List.range xs.length).all fun i => decide (nth xs i ≤ nth ys i)
theorem withinS_true {xs ys : List Int} (h : ∀ j, j < xs.length → nth xs j ≤ nth ys j) : withinS xs ys = true := by
  rw [withinS, List.all_eq_true]; intro j hj; simpa using h j (by simpa using hj)
theorem withinS_false {xs ys : List Int} {k : Nat} (hk : k < xs.length) (h : nth ys k < nth xs k) : withinS xs ys = false := by
  rw [withinS, List.all_eq_false]; exact ⟨k, by simpa using hk, by simpa using h⟩
def bagSizeS (xs : List Int) : Int × Int := if isBagS xs = true then (sumS xs, 0) else (0, 1)
def isWithinS (xs ys : List Int) : Bool × Int := if twoS xs ys = 0 then (withinS xs ys, 0) else (false, twoS xs ys)
def weighBagS (xs ws : List Int) : Int × Int :=
  if isBagS xs = true then (if ws.length = xs.length ∧ allB (fun n => inRg n (-1000) 1000) ws = true then (weighS xs ws, 0) else (0, 2)) else (0, 1)
def joinS (xs ys : List Int) : List Int × Int := if twoS xs ys = 0 then (zipF maxI xs ys xs.length, 0) else ([], twoS xs ys)
def meetS (xs ys : List Int) : List Int × Int := if twoS xs ys = 0 then (zipF minI xs ys xs.length, 0) else ([], twoS xs ys)
def toldS (xs : List Int) : List Int × Int := if isBagS xs = true then (xs, 0) else ([], 3)
def addS (xs ys : List Int) : List Int × Int := if twoS xs ys = 0 then toldS (plusS xs ys 1) else ([], twoS xs ys)
def scaleS (xs : List Int) (f : Int) : List Int × Int :=
  if isBagS xs = true then (if inRg f 0 100 = true then toldS (plusS (List.replicate xs.length 0) xs f) else ([], 2)) else ([], 1)
def takeS (xs ys : List Int) : List Int × Int := if twoS xs ys = 0 then (if withinS ys xs = true then (plusS xs ys (-1), 0) else ([], 4)) else ([], twoS xs ys)
theorem plusS_len (xs ys : List Int) (f : Int) : (plusS xs ys f).length = xs.length := zipF_len _ _ _ _
theorem joinS_len (xs ys : List Int) : (joinS xs ys).1.length ≤ xs.length := by unfold joinS; split <;> simp [zipF_len]
theorem meetS_len (xs ys : List Int) : (meetS xs ys).1.length ≤ xs.length := by unfold meetS; split <;> simp [zipF_len]
theorem toldS_len (xs : List Int) : (toldS xs).1.length ≤ xs.length := by unfold toldS; split <;> simp
theorem scaleS_len (xs : List Int) (f : Int) : (scaleS xs f).1.length ≤ xs.length := by
  unfold scaleS
  split
  · split
    · exact Nat.le_trans (toldS_len _) (by simp [plusS_len])
    · simp
  · simp
theorem addS_len (xs ys : List Int) : (addS xs ys).1.length ≤ xs.length := by
  unfold addS
  split
  · exact Nat.le_trans (toldS_len _) (by simp [plusS_len])
  · simp
theorem takeS_len (xs ys : List Int) : (takeS xs ys).1.length ≤ xs.length := by
  unfold takeS
  split
  · split <;> simp [plusS_len]
  · simp
end Go.Proofs.YtbnikblhnibgiaaDoor
