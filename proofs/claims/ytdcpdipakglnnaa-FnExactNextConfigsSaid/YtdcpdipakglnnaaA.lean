/- Lists of numbers and trees of cells in memory: what it is for a value to read as a datum, and for a datum to be owned. No program is in sight. -/
import Derived.WalkKit
import Derived.WalkSpells
import Derived.WalkLawsBesides
import Derived.BigQuiet
import Derived.Lib.Hide
import Derived.Deep.QuietTactic
namespace Go.Proofs.Ytdcpdipakglnnaa
open Go.RowKit

/-- A datum of one cell: a number, a bool, a string, or a slice whose elements take k cells each. -/
inductive D where
  | i (n : Int)
  | b (x : Bool)
  | s (t : ByteArray)
  | l (k : Nat) (ds : List D)

def blk (a : Option Addr) : Nat := match a with | some x => x.block | none => 0
def ofs (a : Option Addr) : Nat := match a with | some x => x.off | none => 0
def adr (a : Option Addr) (i : Nat) : Addr := ⟨blk a, ofs a + i, none⟩

mutual
/-- The value v reads as the datum; the blocks that are read are in S. -/
def Rd (S : Nat → Prop) (w : World) : D → Value → Prop
  | .i n, v => v = .int .i64 n
  | .b x, v => v = .bool x
  | .s t, v => v = .string t
  | .l k ds, v => ∃ a m c, v = .slice a m c ∧ ds.length = m * k ∧ m ≤ maxLen ∧ (ds = [] ∨ (S (blk a) ∧ ∃ g o, a = some ⟨g, o, none⟩)) ∧ RdL S w ds (blk a) (ofs a)
def RdL (S : Nat → Prop) (w : World) : List D → Nat → Nat → Prop
  | [], _, _ => True
  | d :: ds, g, o => (∃ v, w.cell? ⟨g, o, none⟩ = some v ∧ Rd S w d v) ∧ RdL S w ds g (o + 1)
end

mutual
/-- The value v holds the datum in the blocks F, none of which is met twice; their cells can be written. -/
def Ow (w : World) : D → Value → List Nat → Prop
  | .i n, v, F => v = .int .i64 n ∧ F = []
  | .b x, v, F => v = .bool x ∧ F = []
  | .s t, v, F => v = .string t ∧ F = []
  | .l k ds, v, F => ∃ a m c, v = .slice a m c ∧ ds.length = m * k ∧ m ≤ maxLen ∧
      ((ds = [] ∧ F = []) ∨ ∃ g o F', a = some ⟨g, o, none⟩ ∧ (ds ≠ [] ∧ m ≤ c) ∧ F = g :: F' ∧ OwL w ds g o F')
def OwL (w : World) : List D → Nat → Nat → List Nat → Prop
  | [], _, _, F => F = []
  | d :: ds, g, o, F => ∃ v F1 F2, w.cell? ⟨g, o, none⟩ = some v ∧ w.frozen? ⟨g, o, none⟩ = false ∧ Ow w d v F1 ∧ OwL w ds g (o + 1) F2 ∧ F = F1 ++ F2
end

/-- The blocks in S are as they were. -/
def Agree (S : Nat → Prop) (w w' : World) : Prop := ∀ k, S k → w'.heap[k]? = w.heap[k]?

mutual
theorem Rd.stable {S : Nat → Prop} {w w' : World} (h : Agree S w w') : ∀ (d : D) (v : Value), Rd S w d v → Rd S w' d v
  | .i _, _, r => r
  | .b _, _, r => r
  | .s _, _, r => r
  | .l k ds, v, r => by
    obtain ⟨a, m, c, hv, hl, hm, hp, hr⟩ := r
    refine ⟨a, m, c, hv, hl, hm, hp, ?_⟩
    rcases hp with hp | ⟨hs, _⟩
    · subst hp; trivial
    · exact RdL.stable h ds _ _ hs hr
theorem RdL.stable {S : Nat → Prop} {w w' : World} (h : Agree S w w') : ∀ (ds : List D) (g o : Nat), S g → RdL S w ds g o → RdL S w' ds g o
  | [], _, _, _, _ => trivial
  | d :: ds, g, o, hs, r => by
    obtain ⟨⟨v, hc, hd⟩, hr⟩ := r
    refine ⟨⟨v, ?_, Rd.stable h d v hd⟩, RdL.stable h ds g (o + 1) hs hr⟩
    rw [World.cell?_of_block (w := w) (h g hs)]; exact hc
end

mutual
theorem Rd.wider {S T : Nat → Prop} {w : World} (h : ∀ k, k < w.heap.size → S k → T k) : ∀ (d : D) (v : Value), Rd S w d v → Rd T w d v
  | .i _, _, r => r
  | .b _, _, r => r
  | .s _, _, r => r
  | .l k ds, v, r => by
    obtain ⟨a, m, c, hv, hl, hm, hp, hr⟩ := r
    refine ⟨a, m, c, hv, hl, hm, ?_, RdL.wider h ds _ _ hr⟩
    rcases hp with hp | ⟨hs, ha⟩
    · exact .inl hp
    · cases ds with
      | nil => exact .inl rfl
      | cons d ds =>
        obtain ⟨⟨u, hc, _⟩, _⟩ := hr
        exact .inr ⟨h _ (World.block_lt_of_cell? w _ hc) hs, ha⟩
theorem RdL.wider {S T : Nat → Prop} {w : World} (h : ∀ k, k < w.heap.size → S k → T k) : ∀ (ds : List D) (g o : Nat), RdL S w ds g o → RdL T w ds g o
  | [], _, _, _ => trivial
  | d :: ds, g, o, r => by
    obtain ⟨⟨v, hc, hd⟩, hr⟩ := r
    exact ⟨⟨v, hc, Rd.wider h d v hd⟩, RdL.wider h ds g (o + 1) hr⟩
end

/-- What reads in a world reads in every later one that leaves the old blocks alone. -/
theorem Rd.below {S : Nat → Prop} {w w' : World} {d : D} {v : Value} (r : Rd S w d v) (h : Below w.heap.size w w') : Rd S w' d v := by
  have r1 : Rd (fun k => S k ∧ k < w.heap.size) w d v := Rd.wider (fun k hk hs => ⟨hs, hk⟩) d v r
  have r2 : Rd (fun k => S k ∧ k < w.heap.size) w' d v := Rd.stable (fun k hk => h.block k hk.2) d v r1
  exact Rd.wider (fun k _ hs => hs.1) d v r2

mutual
theorem Ow.lt {w : World} : ∀ (d : D) (v : Value) (F : List Nat), Ow w d v F → ∀ g, g ∈ F → g < w.heap.size
  | .i _, _, _, r, g, hg => by rw [r.2] at hg; cases hg
  | .b _, _, _, r, g, hg => by rw [r.2] at hg; cases hg
  | .s _, _, _, r, g, hg => by rw [r.2] at hg; cases hg
  | .l k ds, v, F, r, g, hg => by
    obtain ⟨a, m, c, hv, hl, hm, hp⟩ := r
    rcases hp with ⟨_, hF⟩ | ⟨b, o, F', ha, hne, hF, hr⟩
    · rw [hF] at hg; cases hg
    · rw [hF] at hg
      rcases List.mem_cons.1 hg with rfl | hg
      · cases ds with
        | nil => exact absurd rfl hne.1
        | cons d ds =>
          obtain ⟨u, F1, F2, hc, _⟩ := hr
          exact World.block_lt_of_cell? w _ hc
      · exact OwL.lt ds b o F' hr g hg
theorem OwL.lt {w : World} : ∀ (ds : List D) (b o : Nat) (F : List Nat), OwL w ds b o F → ∀ g, g ∈ F → g < w.heap.size
  | [], _, _, _, r, g, hg => by rw [show _ = [] from r] at hg; cases hg
  | d :: ds, b, o, F, r, g, hg => by
    obtain ⟨v, F1, F2, hc, hf, hd, hr, hF⟩ := r
    rw [hF] at hg
    rcases List.mem_append.1 hg with hg | hg
    · exact Ow.lt d v F1 hd g hg
    · exact OwL.lt ds b (o + 1) F2 hr g hg
end

mutual
theorem Ow.stable {w w' : World} : ∀ (d : D) (v : Value) (F : List Nat), Agree (· ∈ F) w w' → Ow w d v F → Ow w' d v F
  | .i _, _, _, _, r => r
  | .b _, _, _, _, r => r
  | .s _, _, _, _, r => r
  | .l k ds, v, F, h, r => by
    obtain ⟨a, m, c, hv, hl, hm, hp⟩ := r
    refine ⟨a, m, c, hv, hl, hm, ?_⟩
    rcases hp with hp | ⟨b, o, F', ha, hne, hF, hr⟩
    · exact .inl hp
    · subst hF
      exact .inr ⟨b, o, F', ha, hne, rfl, OwL.stable ds b o F' (h b (by simp)) (fun k hk => h k (by simp [hk])) hr⟩
theorem OwL.stable {w w' : World} : ∀ (ds : List D) (b o : Nat) (F : List Nat), w'.heap[b]? = w.heap[b]? → Agree (· ∈ F) w w' → OwL w ds b o F → OwL w' ds b o F
  | [], _, _, _, _, _, r => r
  | d :: ds, b, o, F, hb, h, r => by
    obtain ⟨v, F1, F2, hc, hf, hd, hr, hF⟩ := r
    subst hF
    refine ⟨v, F1, F2, ?_, ?_, Ow.stable d v F1 (fun k hk => h k (by simp [hk])) hd, OwL.stable ds b (o + 1) F2 hb (fun k hk => h k (by simp [hk])) hr, rfl⟩
    · rw [World.cell?_of_block (w := w) hb]; exact hc
    · rw [World.frozen?_of_block (w := w) hb]; exact hf
end

mutual
theorem Ow.rd {w : World} : ∀ (d : D) (v : Value) (F : List Nat), Ow w d v F → Rd (· ∈ F) w d v
  | .i _, _, _, r => r.1
  | .b _, _, _, r => r.1
  | .s _, _, _, r => r.1
  | .l k ds, v, F, r => by
    obtain ⟨a, m, c, hv, hl, hm, hp⟩ := r
    rcases hp with ⟨hds, _⟩ | ⟨b, o, F', ha, hne, hF, hr⟩
    · subst hds; exact ⟨a, m, c, hv, hl, hm, .inl rfl, trivial⟩
    · subst hF
      have hr' := OwL.rd ds b o F' hr
      refine ⟨a, m, c, hv, hl, hm, .inr ⟨?_, b, o, ha⟩, ?_⟩
      · subst ha; simp [blk]
      · subst ha; exact RdL.wider (fun k _ hk => List.mem_cons_of_mem _ hk) ds b o hr'
theorem OwL.rd {w : World} : ∀ (ds : List D) (b o : Nat) (F : List Nat), OwL w ds b o F → RdL (· ∈ F) w ds b o
  | [], _, _, _, _ => trivial
  | d :: ds, b, o, F, r => by
    obtain ⟨v, F1, F2, hc, hf, hd, hr, hF⟩ := r
    subst hF
    exact ⟨⟨v, hc, Rd.wider (fun k _ hk => List.mem_append_left _ hk) d v (Ow.rd d v F1 hd)⟩, RdL.wider (fun k _ hk => List.mem_append_right _ hk) ds b (o + 1) (OwL.rd ds b (o + 1) F2 hr)⟩
end

/-- The cells of a slice, one by one. -/
theorem RdL.get {S : Nat → Prop} {w : World} : ∀ (ds : List D) (g o : Nat), RdL S w ds g o → ∀ i d, ds[i]? = some d → ∃ v, w.cell? ⟨g, o + i, none⟩ = some v ∧ Rd S w d v
  | [], _, _, _, i, d, hd => by simp at hd
  | d0 :: ds, g, o, r, i, d, hd => by
    cases i with
    | zero => simp at hd; subst hd; exact r.1
    | succ i =>
      have := RdL.get ds g (o + 1) r.2 i d (by simpa using hd)
      rwa [show o + (i + 1) = o + 1 + i from by omega]
theorem RdL.mk {S : Nat → Prop} {w : World} : ∀ (ds : List D) (g o : Nat), (∀ i d, ds[i]? = some d → ∃ v, w.cell? ⟨g, o + i, none⟩ = some v ∧ Rd S w d v) → RdL S w ds g o
  | [], _, _, _ => trivial
  | d0 :: ds, g, o, r => by
    refine ⟨by simpa using r 0 d0 (by simp), RdL.mk ds g (o + 1) fun i d hd => ?_⟩
    have := r (i + 1) d (by simpa using hd)
    rwa [show o + (i + 1) = o + 1 + i from by omega] at this

/-- The element at a place (a name of its own, so that the walk leaves it as it is). -/
def nth (xs : List Int) (i : Nat) : Int := xs.getD i 0
def nthR (xss : List (List Int)) (i : Nat) : List Int := xss.getD i []
theorem nth_lt {xs : List Int} {i : Nat} (h : i < xs.length) : nth xs i = xs[i] := by simp [nth, h]
theorem nthR_lt {xs : List (List Int)} {i : Nat} (h : i < xs.length) : nthR xs i = xs[i] := by simp [nthR, h]

def dI (xs : List Int) : D := .l 1 (xs.map .i)
def dB (xs : List Bool) : D := .l 1 (xs.map .b)
def dII (xss : List (List Int)) : D := .l 1 (xss.map dI)

/-- Cells of a list of numbers, read through an address. -/
structure SlI (S : Nat → Prop) (w : World) (a : Option Addr) (xs : List Int) : Prop where
  len : xs.length ≤ maxLen
  ptr : 0 < xs.length → S (blk a) ∧ ∃ g o, a = some ⟨g, o, none⟩
  cell : ∀ i, i < xs.length → w.cell? (adr a i) = some (.int .i64 (nth xs i))

theorem Rd_I {S : Nat → Prop} {w : World} {xs : List Int} {v : Value} : Rd S w (dI xs) v ↔ ∃ a c, v = .slice a xs.length c ∧ SlI S w a xs := by
  constructor
  · rintro ⟨a, m, c, hv, hl, hm, hp, hr⟩
    have hl' : xs.length = m := by simpa using hl
    subst hl'
    refine ⟨a, c, hv, hm, fun h0 => ?_, fun i hi => ?_⟩
    · rcases hp with hp | hp
      · simp at hp; subst hp; simp at h0
      · exact hp
    · obtain ⟨u, hc, hu⟩ := RdL.get _ _ _ hr i (.i (nth xs i)) (by simp [nth, hi])
      rw [show u = _ from hu] at hc; exact hc
  · rintro ⟨a, c, rfl, h⟩
    refine ⟨a, xs.length, c, rfl, by simp, h.len, ?_, ?_⟩
    · cases xs with
      | nil => exact .inl rfl
      | cons x xs => exact .inr (h.ptr (by simp))
    · refine RdL.mk _ _ _ fun i d hd => ?_
      simp only [List.getElem?_map, Option.map_eq_some_iff] at hd
      obtain ⟨x, hx, rfl⟩ := hd
      have hi := (List.getElem?_eq_some_iff.1 hx).1
      refine ⟨_, h.cell i hi, ?_⟩
      show Value.int .i64 (nth xs i) = .int .i64 x
      simp [nth, List.getD, hx]

/-- The cells of a slice of slices of numbers. -/
structure SlII (S : Nat → Prop) (w : World) (a : Option Addr) (xss : List (List Int)) : Prop where
  len : xss.length ≤ maxLen
  ptr : 0 < xss.length → S (blk a) ∧ ∃ g o, a = some ⟨g, o, none⟩
  cell : ∀ i, i < xss.length → ∃ a' c', w.cell? (adr a i) = some (.slice a' (nthR xss i).length c') ∧ SlI S w a' (nthR xss i)

theorem Rd_II {S : Nat → Prop} {w : World} {xss : List (List Int)} {v : Value} : Rd S w (dII xss) v ↔ ∃ a c, v = .slice a xss.length c ∧ SlII S w a xss := by
  constructor
  · rintro ⟨a, m, c, hv, hl, hm, hp, hr⟩
    have hl' : xss.length = m := by simpa using hl
    subst hl'
    refine ⟨a, c, hv, hm, fun h0 => ?_, fun i hi => ?_⟩
    · rcases hp with hp | hp
      · simp at hp; subst hp; simp at h0
      · exact hp
    · obtain ⟨u, hc, hu⟩ := RdL.get _ _ _ hr i (dI (nthR xss i)) (by simp [nthR, hi])
      obtain ⟨a', c', rfl, h⟩ := Rd_I.1 hu
      exact ⟨a', c', hc, h⟩
  · rintro ⟨a, c, rfl, h⟩
    refine ⟨a, xss.length, c, rfl, by simp, h.len, ?_, ?_⟩
    · cases xss with
      | nil => exact .inl rfl
      | cons x xs => exact .inr (h.ptr (by simp))
    · refine RdL.mk _ _ _ fun i d hd => ?_
      simp only [List.getElem?_map, Option.map_eq_some_iff] at hd
      obtain ⟨x, hx, rfl⟩ := hd
      have hi := (List.getElem?_eq_some_iff.1 hx).1
      obtain ⟨a', c', hc, h'⟩ := h.cell i hi
      refine ⟨_, hc, Rd_I.2 ⟨a', c', ?_, ?_⟩⟩
      · simp [nthR, List.getD, hx]
      · simpa [nthR, List.getD, hx] using h'

theorem SlI.below {S : Nat → Prop} {w w' : World} {a : Option Addr} {xs : List Int} (h : SlI S w a xs) (hb : Below w.heap.size w w') : SlI S w' a xs := by
  obtain ⟨a', c', e, h'⟩ := Rd_I.1 ((Rd_I.2 ⟨a, 0, rfl, h⟩).below hb)
  cases e; exact h'
theorem SlII.below {S : Nat → Prop} {w w' : World} {a : Option Addr} {xs : List (List Int)} (h : SlII S w a xs) (hb : Below w.heap.size w w') : SlII S w' a xs := by
  obtain ⟨a', c', e, h'⟩ := Rd_II.1 ((Rd_II.2 ⟨a, 0, rfl, h⟩).below hb)
  cases e; exact h'

/-- The address of an element, for whatever stride. -/
theorem ix_of {P : Program} {T E k : Nat} (hT : P.underlying T = some (.slice E)) (hE : (P.info? E).map (·.size) = some k) {a : Option Addr} {n : Nat} (hp : 0 < n → ∃ g o, a = some ⟨g, o, none⟩)
   (c : Nat) (i : Int) (w' : World) (h0 : 0 ≤ i) (h1 : i < n) : (Instr.indexAt T (.slice a n c) (.int .i64 i)).run P w' = .ok (.pointer (some (adr a (i.toNat * k)))) w' := by
  obtain ⟨b, o, rfl⟩ := hp (by omega)
  have hE' : ∃ info, P.info? E = some info ∧ info.size = k := by
    cases hh : P.info? E with
    | none => simp [hh] at hE
    | some info => exact ⟨info, rfl, by simpa [hh] using hE⟩
  obtain ⟨info, hi, hs⟩ := hE'
  simp [Instr.indexAt, run_underlying hT, asIntOf, h0, h1, sizeOf, typeInfo, hi, hs, adr, blk, ofs, Addr.add_lit]
theorem SlI.ix {P : Program} {T E : Nat} {S : Nat → Prop} {w : World} {a : Option Addr} {xs : List Int} (h : SlI S w a xs) (hT : P.underlying T = some (.slice E)) (hE : (P.info? E).map (·.size) = some 1)
   (c : Nat) (i : Int) (w' : World) (h0 : 0 ≤ i) (h1 : i < xs.length) : (Instr.indexAt T (.slice a xs.length c) (.int .i64 i)).run P w' = .ok (.pointer (some (adr a i.toNat))) w' := by
  rw [ix_of hT hE (fun h0 => (h.ptr h0).2) c i w' h0 h1, Nat.mul_one]
theorem SlII.ix {P : Program} {T E : Nat} {S : Nat → Prop} {w : World} {a : Option Addr} {xs : List (List Int)} (h : SlII S w a xs) (hT : P.underlying T = some (.slice E)) (hE : (P.info? E).map (·.size) = some 1)
   (c : Nat) (i : Int) (w' : World) (h0 : 0 ≤ i) (h1 : i < xs.length) : (Instr.indexAt T (.slice a xs.length c) (.int .i64 i)).run P w' = .ok (.pointer (some (adr a i.toNat))) w' := by
  rw [ix_of hT hE (fun h0 => (h.ptr h0).2) c i w' h0 h1, Nat.mul_one]

/-- What a law on lists of numbers asks of the program's tables: T is the slice type, E the element type. -/
structure Tab (P : Program) (T E : Nat) (z : Value) (k bytes : Nat) : Prop where
  under : P.underlying T = some (.slice E)
  info : (P.info? E).map (fun i => (i.zero, i.size, i.bytes)) = some (some z, k, bytes)
theorem Tab.size {P : Program} {T E : Nat} {z : Value} {k bytes : Nat} (h : Tab P T E z k bytes) : (P.info? E).map (·.size) = some k := by
  obtain ⟨i, hi, _, h1, _⟩ := info_parts h.info
  simp [hi, h1]

/-- A list of one-cell values under construction. -/
def Bld (E : Nat) (w : World) (B : Nat) (v : Value) (vs : List Value) : Prop := w.ownsRow B E 1 v vs.length vs
theorem Bld.empty (E : Nat) (w : World) (B : Nat) (h : B ≤ w.heap.size) : Bld E (w.alloc (.cells #[] E)) B (.slice (some ⟨w.heap.size, 0, none⟩) 0 0) [] :=
  World.ownsRow_made w #[] 0 h (by simp [maxLen]) (by simp)
theorem Bld.nil (E : Nat) (w : World) (B : Nat) : Bld E w B (.slice none 0 0) [] := World.ownsRow_nil w B E 1
theorem app_one {P : Program} {ops : Array Oper} {rest : List Oper} {o : Oper} {ac : Act} {Q : Exit → Act → World → Prop} {w : World} (hgd : o.guard = none) (s x : Operand) (T : TypeId)
    (ho : o.op = .call { callee := .builtin .append, args := #[s, x], argTypes := #[T, T] }) {E bytes : Nat} {z : Value} (tab : Tab P T E z 1 bytes) (hzs : z.cells.size = 1) (hby : bytes ≤ 1024)
    (B : Nat) (v : Value) (vs : List Value) (hs : ac.eval s = v) (hown : Bld E w B v vs) (g : Nat) (y : Value) (h1 : y.oneCell' = true)
    (hx : ac.eval x = .slice (some ⟨g, 0, none⟩) 1 1) (hc : w.cell? ⟨g, 0, none⟩ = some y) (hlen : vs.length < 4294967296) (hB : B ≤ w.heap.size)
    (K : ∀ v' w', Bld E w' B v' (vs ++ [y]) → Below B w w' → wpList P ops Q rest (ac.put o.dst v') w') : wpList P ops Q (o :: rest) ac w := by
  obtain ⟨i0, hi, hz0, hz1, hz2⟩ := info_parts tab.info
  refine wpList_append_own w hgd s x T ho B E i0 z 1 bytes tab.under hi hz0 hz1 hz2 hzs (by decide) v vs.length vs hs hown ⟨g, 0, none⟩ 1 1 [y] hx rfl ?_ ?_ ?_ ?_ hB ?_
  · intro j u hu
    cases j with
    | zero => simp at hu; subst hu; simpa [Addr.add] using hc
    | succ j => simp at hu
  · intro u hu; simp at hu; subst hu; exact h1
  · unfold maxLen; omega
  · have : (vs.length + 1) * bytes ≤ 4294967296 * 1024 := Nat.mul_le_mul (by omega) hby
    omega
  · intro v' w' h2 h3 _
    refine K v' w' (by simpa [Bld] using h2) ?_
    have hlt := hown.lt
    exact (Below.refl B w).grown h3 hB fun k hk => (hlt k hk).1
theorem Bld.below {E : Nat} {w w' : World} {B : Nat} {v : Value} {vs : List Value} (h : Bld E w B v vs) (hb : Below w.heap.size w w') : Bld E w' B v vs :=
  World.ownsRow.kept (row := none) h ⟨hb.os, hb.tape, hb.output, hb.size, fun k hk _ => hb.block k hk⟩ (by cases v.ownBlock <;> simp)

/-- What has been built is owned. -/
theorem Bld.ow {E : Nat} {w : World} {B : Nat} {v : Value} {xs : List Int} (h : Bld E w B v (xs.map (.int .i64))) (hl : xs.length ≤ maxLen) :
    ∃ a c F, v = .slice a xs.length c ∧ Ow w (dI xs) (.slice a xs.length c) F ∧ F.Nodup ∧ ∀ g, g ∈ F → B ≤ g := by
  unfold Bld at h
  have hcells := fun g => World.ownsRow.cells (g := g) h
  obtain ⟨_, h2⟩ := h
  rcases h2 with ⟨rfl, h0⟩ | ⟨g, cap, cur, rfl, hB, hg, hn, hcap, hsz, htake⟩
  · have : xs = [] := by simpa using h0
    subst this
    exact ⟨none, 0, [], rfl, ⟨none, 0, 0, rfl, rfl, by simp [maxLen], .inl ⟨rfl, rfl⟩⟩, by simp, by simp⟩
  · simp only [List.length_map, Nat.mul_one] at *
    have hfr : ∀ j, w.frozen? ⟨g, j, none⟩ = false := fun j => by simp [World.frozen?, hg]
    have hc : ∀ j x, xs[j]? = some x → w.cell? ⟨g, j, none⟩ = some (.int .i64 x) := fun j x hx => by
      have := hcells g rfl j (.int .i64 x) (by simp [hx])
      rwa [show (⟨g, 0, none⟩ : Addr).add j = ⟨g, j, none⟩ from by rw [Addr.add_lit, Nat.zero_add]] at this
    have hrow : ∀ (ys : List Int) (o : Nat), (∀ j x, ys[j]? = some x → w.cell? ⟨g, o + j, none⟩ = some (.int .i64 x)) → OwL w (ys.map .i) g o [] := by
      intro ys
      induction ys with
      | nil => intro o _; rfl
      | cons y ys ih =>
        intro o hy
        refine ⟨.int .i64 y, [], [], by simpa using hy 0 y (by simp), hfr _, ⟨rfl, rfl⟩, ih (o + 1) (fun j x hx => ?_), rfl⟩
        have := hy (j + 1) x (by simpa using hx)
        rwa [show o + (j + 1) = o + 1 + j from by omega] at this
    cases xs with
    | nil => exact ⟨_, cap, [], rfl, ⟨_, 0, cap, rfl, rfl, by simp [maxLen], .inl ⟨rfl, rfl⟩⟩, by simp, by simp⟩
    | cons x xs =>
      refine ⟨_, cap, [g], rfl, ⟨_, (x :: xs).length, cap, rfl, by simp, hl, .inr ⟨g, 0, [], rfl, ⟨by simp, hn⟩, rfl, ?_⟩⟩, by simp, by simp [hB]⟩
      exact hrow (x :: xs) 0 (by simpa using hc)

/-- The call returns a datum in memory of its own, and leaves what was there alone. -/
def RetD (w : World) (d : D) (e : Ending) (w' : World) : Prop := ∃ v F, e = .returned v ∧ Below w.heap.size w w' ∧ Ow w' d v F ∧ F.Nodup ∧ ∀ g, g ∈ F → w.heap.size ≤ g
theorem RetD.ofBld {E : Nat} {w w' : World} {v : Value} {xs : List Int} (h : Bld E w' w.heap.size v (xs.map (.int .i64))) (hl : xs.length ≤ maxLen) (hb : Below w.heap.size w w') : RetD w (dI xs) (.returned v) w' := by
  obtain ⟨a, c, F, rfl, ho, hn, hF⟩ := h.ow hl
  exact ⟨_, F, rfl, hb, ho, hn, hF⟩
end Go.Proofs.Ytdcpdipakglnnaa
