/- Lists of numbers and trees of cells in memory: what it is for a value to read as a datum, and for a datum to be owned. No program is in sight. -/
import Derived.WalkKit
import Derived.WalkSpells
import Derived.WalkLawsBesides
import Derived.BigQuiet
import Derived.Lib.Hide
import Derived.Deep.QuietTactic
import Derived.StillTailTactics
import Derived.Deep.RegionLaw
import Derived.BigRegion
import Derived.Test.YtkjmehpehopncaaRows
import Derived.ProofKit
import Derived.OpenShut
import Derived.Test.YtkjmehpehopncaaProg
namespace Go.Proofs.Ytkjmehpehopncaa
open Go.RowKit

/-- A datum of one cell: a number, a bool, a string, or a slice whose elements take k cells each. -/
inductive D where
  | i (n : Int)
  | b (x : Bool)
  | s (t : ByteArray)
  | l (k : Nat) (ds : List D)

def blk (a : Option Addr) : Nat := match a with | some x => x.block | none => 0
def ofs (a : Option Addr) : Nat := match a with | some x => x.off | none => 0
def adr (a : Option Addr) (i : Nat) : Addr := ⟨blk a, ofs a + i, none⟩

mutual
/-- The value v reads as the datum; the blocks that are read are in S. -/
def Rd (S : Nat → Prop) (w : World) : D → Value → Prop
  | .i n, v => v = .int .i64 n
  | .b x, v => v = .bool x
  | .s t, v => v = .string t
  | .l k ds, v => ∃ a m c, v = .slice a m c ∧ ds.length = m * k ∧ m ≤ maxLen ∧ (ds = [] ∨ (S (blk a) ∧ ∃ g o, a = some ⟨g, o, none⟩)) ∧ RdL S w ds (blk a) (ofs a)
def RdL (S : Nat → Prop) (w : World) : List D → Nat → Nat → Prop
  | [], _, _ => True
  | d :: ds, g, o => (∃ v, w.cell? ⟨g, o, none⟩ = some v ∧ Rd S w d v) ∧ RdL S w ds g (o + 1)
end

mutual
/-- The value v holds the datum in the blocks F, none of which is met twice; their cells can be written. -/
def Ow (w : World) : D → Value → List Nat → Prop
  | .i n, v, F => v = .int .i64 n ∧ F = []
  | .b x, v, F => v = .bool x ∧ F = []
  | .s t, v, F => v = .string t ∧ F = []
  | .l k ds, v, F => ∃ a m c, v = .slice a m c ∧ ds.length = m * k ∧ m ≤ maxLen ∧
      ((ds = [] ∧ F = []) ∨ ∃ g o F', a = some ⟨g, o, none⟩ ∧ (ds ≠ [] ∧ m ≤ c) ∧ F = g :: F' ∧ OwL w ds g o F')
def OwL (w : World) : List D → Nat → Nat → List Nat → Prop
  | [], _, _, F => F = []
  | d :: ds, g, o, F => ∃ v F1 F2, w.cell? ⟨g, o, none⟩ = some v ∧ w.frozen? ⟨g, o, none⟩ = false ∧ Ow w d v F1 ∧ OwL w ds g (o + 1) F2 ∧ F = F1 ++ F2
end

/-- The blocks in S are as they were. -/
def Agree (S : Nat → Prop) (w w' : World) : Prop := ∀ k, S k → w'.heap[k]? = w.heap[k]?

mutual
theorem Rd.stable {S : Nat → Prop} {w w' : World} (h : Agree S w w') : ∀ (d : D) (v : Value), Rd S w d v → Rd S w' d v
  | .i _, _, r => r
  | .b _, _, r => r
  | .s _, _, r => r
  | .l k ds, v, r => by
    obtain ⟨a, m, c, hv, hl, hm, hp, hr⟩ := r
    refine ⟨a, m, c, hv, hl, hm, hp, ?_⟩
    rcases hp with hp | ⟨hs, _⟩
    · subst hp; trivial
    · exact RdL.stable h ds _ _ hs hr
theorem RdL.stable {S : Nat → Prop} {w w' : World} (h : Agree S w w') : ∀ (ds : List D) (g o : Nat), S g → RdL S w ds g o → RdL S w' ds g o
  | [], _, _, _, _ => trivial
  | d :: ds, g, o, hs, r => by
    obtain ⟨⟨v, hc, hd⟩, hr⟩ := r
    refine ⟨⟨v, ?_, Rd.stable h d v hd⟩, RdL.stable h ds g (o + 1) hs hr⟩
    rw [World.cell?_of_block (w := w) (h g hs)]; exact hc
end

mutual
theorem Rd.wider {S T : Nat → Prop} {w : World} (h : ∀ k, k < w.heap.size → S k → T k) : ∀ (d : D) (v : Value), Rd S w d v → Rd T w d v
  | .i _, _, r => r
  | .b _, _, r => r
  | .s _, _, r => r
  | .l k ds, v, r => by
    obtain ⟨a, m, c, hv, hl, hm, hp, hr⟩ := r
    refine ⟨a, m, c, hv, hl, hm, ?_, RdL.wider h ds _ _ hr⟩
    rcases hp with hp | ⟨hs, ha⟩
    · exact .inl hp
    · cases ds with
      | nil => exact .inl rfl
      | cons d ds =>
        obtain ⟨⟨u, hc, _⟩, _⟩ := hr
        exact .inr ⟨h _ (World.block_lt_of_cell? w _ hc) hs, ha⟩
theorem RdL.wider {S T : Nat → Prop} {w : World} (h : ∀ k, k < w.heap.size → S k → T k) : ∀ (ds : List D) (g o : Nat), RdL S w ds g o → RdL T w ds g o
  | [], _, _, _ => trivial
  | d :: ds, g, o, r => by
    obtain ⟨⟨v, hc, hd⟩, hr⟩ := r
    exact ⟨⟨v, hc, Rd.wider h d v hd⟩, RdL.wider h ds g (o + 1) hr⟩
end

/-- What reads in a world reads in every later one that leaves the old blocks alone. -/
theorem Rd.below {S : Nat → Prop} {w w' : World} {d : D} {v : Value} (r : Rd S w d v) (h : Below w.heap.size w w') : Rd S w' d v := by
  have r1 : Rd (fun k => S k ∧ k < w.heap.size) w d v := Rd.wider (fun k hk hs => ⟨hs, hk⟩) d v r
  have r2 : Rd (fun k => S k ∧ k < w.heap.size) w' d v := Rd.stable (fun k hk => h.block k hk.2) d v r1
  exact Rd.wider (fun k _ hs => hs.1) d v r2

mutual
theorem Ow.lt {w : World} : ∀ (d : D) (v : Value) (F : List Nat), Ow w d v F → ∀ g, g ∈ F → g < w.heap.size
  | .i _, _, _, r, g, hg => by rw [r.2] at hg; cases hg
  | .b _, _, _, r, g, hg => by rw [r.2] at hg; cases hg
  | .s _, _, _, r, g, hg => by rw [r.2] at hg; cases hg
  | .l k ds, v, F, r, g, hg => by
    obtain ⟨a, m, c, hv, hl, hm, hp⟩ := r
    rcases hp with ⟨_, hF⟩ | ⟨b, o, F', ha, hne, hF, hr⟩
    · rw [hF] at hg; cases hg
    · rw [hF] at hg
      rcases List.mem_cons.1 hg with rfl | hg
      · cases ds with
        | nil => exact absurd rfl hne.1
        | cons d ds =>
          obtain ⟨u, F1, F2, hc, _⟩ := hr
          exact World.block_lt_of_cell? w _ hc
      · exact OwL.lt ds b o F' hr g hg
theorem OwL.lt {w : World} : ∀ (ds : List D) (b o : Nat) (F : List Nat), OwL w ds b o F → ∀ g, g ∈ F → g < w.heap.size
  | [], _, _, _, r, g, hg => by rw [show _ = [] from r] at hg; cases hg
  | d :: ds, b, o, F, r, g, hg => by
    obtain ⟨v, F1, F2, hc, hf, hd, hr, hF⟩ := r
    rw [hF] at hg
    rcases List.mem_append.1 hg with hg | hg
    · exact Ow.lt d v F1 hd g hg
    · exact OwL.lt ds b (o + 1) F2 hr g hg
end

mutual
theorem Ow.stable {w w' : World} : ∀ (d : D) (v : Value) (F : List Nat), Agree (· ∈ F) w w' → Ow w d v F → Ow w' d v F
  | .i _, _, _, _, r => r
  | .b _, _, _, _, r => r
  | .s _, _, _, _, r => r
  | .l k ds, v, F, h, r => by
    obtain ⟨a, m, c, hv, hl, hm, hp⟩ := r
    refine ⟨a, m, c, hv, hl, hm, ?_⟩
    rcases hp with hp | ⟨b, o, F', ha, hne, hF, hr⟩
    · exact .inl hp
    · subst hF
      exact .inr ⟨b, o, F', ha, hne, rfl, OwL.stable ds b o F' (h b (by simp)) (fun k hk => h k (by simp [hk])) hr⟩
theorem OwL.stable {w w' : World} : ∀ (ds : List D) (b o : Nat) (F : List Nat), w'.heap[b]? = w.heap[b]? → Agree (· ∈ F) w w' → OwL w ds b o F → OwL w' ds b o F
  | [], _, _, _, _, _, r => r
  | d :: ds, b, o, F, hb, h, r => by
    obtain ⟨v, F1, F2, hc, hf, hd, hr, hF⟩ := r
    subst hF
    refine ⟨v, F1, F2, ?_, ?_, Ow.stable d v F1 (fun k hk => h k (by simp [hk])) hd, OwL.stable ds b (o + 1) F2 hb (fun k hk => h k (by simp [hk])) hr, rfl⟩
    · rw [World.cell?_of_block (w := w) hb]; exact hc
    · rw [World.frozen?_of_block (w := w) hb]; exact hf
end

mutual
theorem Ow.rd {w : World} : ∀ (d : D) (v : Value) (F : List Nat), Ow w d v F → Rd (· ∈ F) w d v
  | .i _, _, _, r => r.1
  | .b _, _, _, r => r.1
  | .s _, _, _, r => r.1
  | .l k ds, v, F, r => by
    obtain ⟨a, m, c, hv, hl, hm, hp⟩ := r
    rcases hp with ⟨hds, _⟩ | ⟨b, o, F', ha, hne, hF, hr⟩
    · subst hds; exact ⟨a, m, c, hv, hl, hm, .inl rfl, trivial⟩
    · subst hF
      have hr' := OwL.rd ds b o F' hr
      refine ⟨a, m, c, hv, hl, hm, .inr ⟨?_, b, o, ha⟩, ?_⟩
      · subst ha; simp [blk]
      · subst ha; exact RdL.wider (fun k _ hk => List.mem_cons_of_mem _ hk) ds b o hr'
theorem OwL.rd {w : World} : ∀ (ds : List D) (b o : Nat) (F : List Nat), OwL w ds b o F → RdL (· ∈ F) w ds b o
  | [], _, _, _, _ => trivial
  | d :: ds, b, o, F, r => by
    obtain ⟨v, F1, F2, hc, hf, hd, hr, hF⟩ := r
    subst hF
    exact ⟨⟨v, hc, Rd.wider (fun k _ hk => List.mem_append_left _ hk) d v (Ow.rd d v F1 hd)⟩, RdL.wider (fun k _ hk => List.mem_append_right _ hk) ds b (o + 1) (OwL.rd ds b (o + 1) F2 hr)⟩
end

/-- The cells of a slice, one by one. -/
theorem RdL.get {S : Nat → Prop} {w : World} : ∀ (ds : List D) (g o : Nat), RdL S w ds g o → ∀ i d, ds[i]? = some d → ∃ v, w.cell? ⟨g, o + i, none⟩ = some v ∧ Rd S w d v
  | [], _, _, _, i, d, hd => by simp at hd
  | d0 :: ds, g, o, r, i, d, hd => by
    cases i with
    | zero => simp at hd; subst hd; exact r.1
    | succ i =>
      have := RdL.get ds g (o + 1) r.2 i d (by simpa using hd)
      rwa [show o + (i + 1) = o + 1 + i from by omega]
theorem RdL.mk {S : Nat → Prop} {w : World} : ∀ (ds : List D) (g o : Nat), (∀ i d, ds[i]? = some d → ∃ v, w.cell? ⟨g, o + i, none⟩ = some v ∧ Rd S w d v) → RdL S w ds g o
  | [], _, _, _ => trivial
  | d0 :: ds, g, o, r => by
    refine ⟨by simpa using r 0 d0 (by simp), RdL.mk ds g (o + 1) fun i d hd => ?_⟩
    have := r (i + 1) d (by simpa using hd)
    rwa [show o + (i + 1) = o + 1 + i from by omega] at this

/-- The element at a place (a name of its own, so that the walk leaves it as it is). -/
def nth (xs : List Int) (i : Nat) : Int := xs.getD i 0
def nthR (xss : List (List Int)) (i : Nat) : List Int := xss.getD i []
theorem nth_lt {xs : List Int} {i : Nat} (h : i < xs.length) : nth xs i = xs[i] := by simp [nth, h]
theorem nthR_lt {xs : List (List Int)} {i : Nat} (h : i < xs.length) : nthR xs i = xs[i] := by simp [nthR, h]

def dI (xs : List Int) : D := .l 1 (xs.map .i)
def dB (xs : List Bool) : D := .l 1 (xs.map .b)
def dII (xss : List (List Int)) : D := .l 1 (xss.map dI)

/-- Cells of a list of numbers, read through an address. -/
structure SlI (S : Nat → Prop) (w : World) (a : Option Addr) (xs : List Int) : Prop where
  len : xs.length ≤ maxLen
  ptr : 0 < xs.length → S (blk a) ∧ ∃ g o, a = some ⟨g, o, none⟩
  cell : ∀ i, i < xs.length → w.cell? (adr a i) = some (.int .i64 (nth xs i))

theorem Rd_I {S : Nat → Prop} {w : World} {xs : List Int} {v : Value} : Rd S w (dI xs) v ↔ ∃ a c, v = .slice a xs.length c ∧ SlI S w a xs := by
  constructor
  · rintro ⟨a, m, c, hv, hl, hm, hp, hr⟩
    have hl' : xs.length = m := by simpa using hl
    subst hl'
    refine ⟨a, c, hv, hm, fun h0 => ?_, fun i hi => ?_⟩
    · rcases hp with hp | hp
      · simp at hp; subst hp; simp at h0
      · exact hp
    · obtain ⟨u, hc, hu⟩ := RdL.get _ _ _ hr i (.i (nth xs i)) (by simp [nth, hi])
      rw [show u = _ from hu] at hc; exact hc
  · rintro ⟨a, c, rfl, h⟩
    refine ⟨a, xs.length, c, rfl, by simp, h.len, ?_, ?_⟩
    · cases xs with
      | nil => exact .inl rfl
      | cons x xs => exact .inr (h.ptr (by simp))
    · refine RdL.mk _ _ _ fun i d hd => ?_
      simp only [List.getElem?_map, Option.map_eq_some_iff] at hd
      obtain ⟨x, hx, rfl⟩ := hd
      have hi := (List.getElem?_eq_some_iff.1 hx).1
      refine ⟨_, h.cell i hi, ?_⟩
      show Value.int .i64 (nth xs i) = .int .i64 x
      simp [nth, List.getD, hx]

/-- The cells of a slice of slices of numbers. -/
structure SlII (S : Nat → Prop) (w : World) (a : Option Addr) (xss : List (List Int)) : Prop where
  len : xss.length ≤ maxLen
  ptr : 0 < xss.length → S (blk a) ∧ ∃ g o, a = some ⟨g, o, none⟩
  cell : ∀ i, i < xss.length → ∃ a' c', w.cell? (adr a i) = some (.slice a' (nthR xss i).length c') ∧ SlI S w a' (nthR xss i)

theorem Rd_II {S : Nat → Prop} {w : World} {xss : List (List Int)} {v : Value} : Rd S w (dII xss) v ↔ ∃ a c, v = .slice a xss.length c ∧ SlII S w a xss := by
  constructor
  · rintro ⟨a, m, c, hv, hl, hm, hp, hr⟩
    have hl' : xss.length = m := by simpa using hl
    subst hl'
    refine ⟨a, c, hv, hm, fun h0 => ?_, fun i hi => ?_⟩
    · rcases hp with hp | hp
      · simp at hp; subst hp; simp at h0
      · exact hp
    · obtain ⟨u, hc, hu⟩ := RdL.get _ _ _ hr i (dI (nthR xss i)) (by simp [nthR, hi])
      obtain ⟨a', c', rfl, h⟩ := Rd_I.1 hu
      exact ⟨a', c', hc, h⟩
  · rintro ⟨a, c, rfl, h⟩
    refine ⟨a, xss.length, c, rfl, by simp, h.len, ?_, ?_⟩
    · cases xss with
      | nil => exact .inl rfl
      | cons x xs => exact .inr (h.ptr (by simp))
    · refine RdL.mk _ _ _ fun i d hd => ?_
      simp only [List.getElem?_map, Option.map_eq_some_iff] at hd
      obtain ⟨x, hx, rfl⟩ := hd
      have hi := (List.getElem?_eq_some_iff.1 hx).1
      obtain ⟨a', c', hc, h'⟩ := h.cell i hi
      refine ⟨_, hc, Rd_I.2 ⟨a', c', ?_, ?_⟩⟩
      · simp [nthR, List.getD, hx]
      · simpa [nthR, List.getD, hx] using h'

theorem SlI.below {S : Nat → Prop} {w w' : World} {a : Option Addr} {xs : List Int} (h : SlI S w a xs) (hb : Below w.heap.size w w') : SlI S w' a xs := by
  obtain ⟨a', c', e, h'⟩ := Rd_I.1 ((Rd_I.2 ⟨a, 0, rfl, h⟩).below hb)
  cases e; exact h'
theorem SlII.below {S : Nat → Prop} {w w' : World} {a : Option Addr} {xs : List (List Int)} (h : SlII S w a xs) (hb : Below w.heap.size w w') : SlII S w' a xs := by
  obtain ⟨a', c', e, h'⟩ := Rd_II.1 ((Rd_II.2 ⟨a, 0, rfl, h⟩).below hb)
  cases e; exact h'

/-- The address of an element, for whatever stride. -/
theorem ix_of {P : Program} {T E k : Nat} (hT : P.underlying T = some (.slice E)) (hE : (P.info? E).map (·.size) = some k) {a : Option Addr} {n : Nat} (hp : 0 < n → ∃ g o, a = some ⟨g, o, none⟩)
   (c : Nat) (i : Int) (w' : World) (h0 : 0 ≤ i) (h1 : i < n) : (Instr.indexAt T (.slice a n c) (.int .i64 i)).run P w' = .ok (.pointer (some (adr a (i.toNat * k)))) w' := by
  obtain ⟨b, o, rfl⟩ := hp (by omega)
  have hE' : ∃ info, P.info? E = some info ∧ info.size = k := by
    cases hh : P.info? E with
    | none => simp [hh] at hE
    | some info => exact ⟨info, rfl, by simpa [hh] using hE⟩
  obtain ⟨info, hi, hs⟩ := hE'
  simp [Instr.indexAt, run_underlying hT, asIntOf, h0, h1, sizeOf, typeInfo, hi, hs, adr, blk, ofs, Addr.add_lit]
theorem SlI.ix {P : Program} {T E : Nat} {S : Nat → Prop} {w : World} {a : Option Addr} {xs : List Int} (h : SlI S w a xs) (hT : P.underlying T = some (.slice E)) (hE : (P.info? E).map (·.size) = some 1)
   (c : Nat) (i : Int) (w' : World) (h0 : 0 ≤ i) (h1 : i < xs.length) : (Instr.indexAt T (.slice a xs.length c) (.int .i64 i)).run P w' = .ok (.pointer (some (adr a i.toNat))) w' := by
  rw [ix_of hT hE (fun h0 => (h.ptr h0).2) c i w' h0 h1, Nat.mul_one]
theorem SlII.ix {P : Program} {T E : Nat} {S : Nat → Prop} {w : World} {a : Option Addr} {xs : List (List Int)} (h : SlII S w a xs) (hT : P.underlying T = some (.slice E)) (hE : (P.info? E).map (·.size) = some 1)
   (c : Nat) (i : Int) (w' : World) (h0 : 0 ≤ i) (h1 : i < xs.length) : (Instr.indexAt T (.slice a xs.length c) (.int .i64 i)).run P w' = .ok (.pointer (some (adr a i.toNat))) w' := by
  rw [ix_of hT hE (fun h0 => (h.ptr h0).2) c i w' h0 h1, Nat.mul_one]

/-- What a law on lists of numbers asks of the program's tables: T is the slice type, E the element type. -/
structure Tab (P : Program) (T E : Nat) (z : Value) (k bytes : Nat) : Prop where
  under : P.underlying T = some (.slice E)
  info : (P.info? E).map (fun i => (i.zero, i.size, i.bytes)) = some (some z, k, bytes)
theorem Tab.size {P : Program} {T E : Nat} {z : Value} {k bytes : Nat} (h : Tab P T E z k bytes) : (P.info? E).map (·.size) = some k := by
  obtain ⟨i, hi, _, h1, _⟩ := info_parts h.info
  simp [hi, h1]

/-- A list of one-cell values under construction. -/
def Bld (E : Nat) (w : World) (B : Nat) (v : Value) (vs : List Value) : Prop := w.ownsRow B E 1 v vs.length vs
theorem Bld.empty (E : Nat) (w : World) (B : Nat) (h : B ≤ w.heap.size) : Bld E (w.alloc (.cells #[] E)) B (.slice (some ⟨w.heap.size, 0, none⟩) 0 0) [] :=
  World.ownsRow_made w #[] 0 h (by simp [maxLen]) (by simp)
theorem Bld.nil (E : Nat) (w : World) (B : Nat) : Bld E w B (.slice none 0 0) [] := World.ownsRow_nil w B E 1
theorem app_one {P : Program} {ops : Array Oper} {rest : List Oper} {o : Oper} {ac : Act} {Q : Exit → Act → World → Prop} {w : World} (hgd : o.guard = none) (s x : Operand) (T : TypeId)
    (ho : o.op = .call { callee := .builtin .append, args := #[s, x], argTypes := #[T, T] }) {E bytes : Nat} {z : Value} (tab : Tab P T E z 1 bytes) (hzs : z.cells.size = 1) (hby : bytes ≤ 1024)
    (B : Nat) (v : Value) (vs : List Value) (hs : ac.eval s = v) (hown : Bld E w B v vs) (g : Nat) (y : Value) (h1 : y.oneCell' = true)
    (hx : ac.eval x = .slice (some ⟨g, 0, none⟩) 1 1) (hc : w.cell? ⟨g, 0, none⟩ = some y) (hlen : vs.length < 4294967296) (hB : B ≤ w.heap.size)
    (K : ∀ v' w', Bld E w' B v' (vs ++ [y]) → Below B w w' → wpList P ops Q rest (ac.put o.dst v') w') : wpList P ops Q (o :: rest) ac w := by
  obtain ⟨i0, hi, hz0, hz1, hz2⟩ := info_parts tab.info
  refine wpList_append_own w hgd s x T ho B E i0 z 1 bytes tab.under hi hz0 hz1 hz2 hzs (by decide) v vs.length vs hs hown ⟨g, 0, none⟩ 1 1 [y] hx rfl ?_ ?_ ?_ ?_ hB ?_
  · intro j u hu
    cases j with
    | zero => simp at hu; subst hu; simpa [Addr.add] using hc
    | succ j => simp at hu
  · intro u hu; simp at hu; subst hu; exact h1
  · unfold maxLen; omega
  · have : (vs.length + 1) * bytes ≤ 4294967296 * 1024 := Nat.mul_le_mul (by omega) hby
    omega
  · intro v' w' h2 h3 _
    refine K v' w' (by simpa [Bld] using h2) ?_
    have hlt := hown.lt
    exact (Below.refl B w).grown h3 hB fun k hk => (hlt k hk).1
theorem Bld.below {E : Nat} {w w' : World} {B : Nat} {v : Value} {vs : List Value} (h : Bld E w B v vs) (hb : Below w.heap.size w w') : Bld E w' B v vs :=
  World.ownsRow.kept (row := none) h ⟨hb.os, hb.tape, hb.output, hb.size, fun k hk _ => hb.block k hk⟩ (by cases v.ownBlock <;> simp)

/-- What has been built is owned. -/
theorem Bld.ow {E : Nat} {w : World} {B : Nat} {v : Value} {xs : List Int} (h : Bld E w B v (xs.map (.int .i64))) (hl : xs.length ≤ maxLen) :
    ∃ a c F, v = .slice a xs.length c ∧ Ow w (dI xs) (.slice a xs.length c) F ∧ F.Nodup ∧ ∀ g, g ∈ F → B ≤ g := by
  unfold Bld at h
  have hcells := fun g => World.ownsRow.cells (g := g) h
  obtain ⟨_, h2⟩ := h
  rcases h2 with ⟨rfl, h0⟩ | ⟨g, cap, cur, rfl, hB, hg, hn, hcap, hsz, htake⟩
  · have : xs = [] := by simpa using h0
    subst this
    exact ⟨none, 0, [], rfl, ⟨none, 0, 0, rfl, rfl, by simp [maxLen], .inl ⟨rfl, rfl⟩⟩, by simp, by simp⟩
  · simp only [List.length_map, Nat.mul_one] at *
    have hfr : ∀ j, w.frozen? ⟨g, j, none⟩ = false := fun j => by simp [World.frozen?, hg]
    have hc : ∀ j x, xs[j]? = some x → w.cell? ⟨g, j, none⟩ = some (.int .i64 x) := fun j x hx => by
      have := hcells g rfl j (.int .i64 x) (by simp [hx])
      rwa [show (⟨g, 0, none⟩ : Addr).add j = ⟨g, j, none⟩ from by rw [Addr.add_lit, Nat.zero_add]] at this
    have hrow : ∀ (ys : List Int) (o : Nat), (∀ j x, ys[j]? = some x → w.cell? ⟨g, o + j, none⟩ = some (.int .i64 x)) → OwL w (ys.map .i) g o [] := by
      intro ys
      induction ys with
      | nil => intro o _; rfl
      | cons y ys ih =>
        intro o hy
        refine ⟨.int .i64 y, [], [], by simpa using hy 0 y (by simp), hfr _, ⟨rfl, rfl⟩, ih (o + 1) (fun j x hx => ?_), rfl⟩
        have := hy (j + 1) x (by simpa using hx)
        rwa [show o + (j + 1) = o + 1 + j from by omega] at this
    cases xs with
    | nil => exact ⟨_, cap, [], rfl, ⟨_, 0, cap, rfl, rfl, by simp [maxLen], .inl ⟨rfl, rfl⟩⟩, by simp, by simp⟩
    | cons x xs =>
      refine ⟨_, cap, [g], rfl, ⟨_, (x :: xs).length, cap, rfl, by simp, hl, .inr ⟨g, 0, [], rfl, ⟨by simp, hn⟩, rfl, ?_⟩⟩, by simp, by simp [hB]⟩
      exact hrow (x :: xs) 0 (by simpa using hc)

/-- The call returns a datum in memory of its own, and leaves what was there alone. -/
def RetD (w : World) (d : D) (e : Ending) (w' : World) : Prop := ∃ v F, e = .returned v ∧ Below w.heap.size w w' ∧ Ow w' d v F ∧ F.Nodup ∧ ∀ g, g ∈ F → w.heap.size ≤ g
theorem RetD.ofBld {E : Nat} {w w' : World} {v : Value} {xs : List Int} (h : Bld E w' w.heap.size v (xs.map (.int .i64))) (hl : xs.length ≤ maxLen) (hb : Below w.heap.size w w') : RetD w (dI xs) (.returned v) w' := by
  obtain ⟨a, c, F, rfl, ho, hn, hF⟩ := h.ow hl
  exact ⟨_, F, rfl, hb, ho, hn, hF⟩

/- What the functions on bags compute: plain lists and numbers. No program is in sight. -/
/-- The call returns v and leaves the old memory alone. -/
def RetV (w : World) (v : Value) (e : Ending) (w' : World) : Prop := e = .returned v ∧ Below w.heap.size w w'
/-- The call returns v and does nothing. -/
def RetP (w : World) (v : Value) (e : Ending) (w' : World) : Prop := e = .returned v ∧ w = w'
/-- The call returns v and at most draws. -/
def RetQ (w : World) (v : Value) (e : Ending) (w' : World) : Prop := e = .returned v ∧ ∃ n, w' = w.drewN n

theorem ret_bool {a b : Bool} (h : a = b) : Ending.returned (.bool a) = .returned (.bool b) := by rw [h]
theorem ret_int {k : IntKind} {a b : Int} (h : a = b) : Ending.returned (.int k a) = .returned (.int k b) := by rw [h]
theorem below_drewN (B : Nat) (w : World) : ∀ n, Below B w (w.drewN n) := fun _ => ⟨rfl, rfl, rfl, Nat.le_refl _, fun _ _ => rfl⟩
theorem RetV.v {w : World} {v : Value} {e : Ending} {w' : World} (h : RetV w v e w') : RetV w v e w' := h
theorem RetP.v {w : World} {v : Value} {e : Ending} {w' : World} (h : RetP w v e w') : RetV w v e w' := by
  obtain ⟨rfl, rfl⟩ := h; exact ⟨rfl, Below.refl _ _⟩
theorem RetQ.v {w : World} {v : Value} {e : Ending} {w' : World} (h : RetQ w v e w') : RetV w v e w' := by
  obtain ⟨rfl, n, rfl⟩ := h; exact ⟨rfl, below_drewN _ _ _⟩
theorem bnext {w w1 w2 : World} {B : Nat} (h : Below B w w1) (h2 : Below w1.heap.size w1 w2) (hB : B ≤ w.heap.size) : Below B w w2 := h.trans (h2.mono (Nat.le_trans hB h.size))
theorem bcell {W w1 : World} (hb : Below W.heap.size W w1) : (∀ b o, b < W.heap.size → w1.cell? ⟨b, o, none⟩ = W.cell? ⟨b, o, none⟩) ∧ (∀ b o, b < W.heap.size → w1.frozen? ⟨b, o, none⟩ = W.frozen? ⟨b, o, none⟩) :=
  ⟨fun b o h => hb.cell (p := ⟨b, o, none⟩) h, fun b o h => hb.frozen (p := ⟨b, o, none⟩) h⟩
theorem bcell1 {w w' : World} {B b i : Nat} (hb : Below B w w') (h : b < B) : w'.cell? ⟨b, i, none⟩ = w.cell? ⟨b, i, none⟩ := hb.cell (p := ⟨b, i, none⟩) h
theorem below_alloc (w : World) (o : Obj) : Below w.heap.size w (w.alloc o) := (Below.refl _ _).alloc (Nat.le_refl _) o
theorem RetD.from {w w1 w' : World} {d : D} {e : Ending} (hb : Below w.heap.size w w1) (h : RetD w1 d e w') : RetD w d e w' := by
  obtain ⟨v, F, he, h1, h2, h3, h4⟩ := h
  exact ⟨v, F, he, bnext hb h1 (Nat.le_refl _), h2, h3, fun g hg => Nat.le_trans hb.size (h4 g hg)⟩
theorem callFunc_run {P : Program} {f : FuncId} {fn : Func} (h : P.funcs[f]? = some fn) (h2 : (fn.name == "runtime.NumGoroutine") = false) (h3 : fn.body.isNone = false) (args : Array Value) (w : World) :
    (callFunc f args).run P w = .ok (.enter f args) w := by
  have h2' : fn.name ≠ "runtime.NumGoroutine" := by simpa using h2
  have h3' : fn.body ≠ none := fun h => by rw [h] at h3; cases h3
  simp [callFunc, program, h, h2', h3', Sem.run_bind, Sem.run]

theorem upto {k : Nat} {P : Nat → Prop} (h : ∀ j, j < k → P j) (hk : P k) : ∀ j, j < k + 1 → P j := fun j hj => by
  by_cases e : j = k
  · rw [e]; exact hk
  · exact h j (by omega)

/-- The call returns a datum in memory of its own and a code. -/
def RetDC (w : World) (d : D) (code : Int) (e : Ending) (w' : World) : Prop := ∃ v F, e = .returned (.tuple #[v, .int .i64 code]) ∧ Below w.heap.size w w' ∧ Ow w' d v F ∧ F.Nodup ∧ ∀ g, g ∈ F → w.heap.size ≤ g
theorem RetDC.from {w w1 w' : World} {d : D} {code : Int} {e : Ending} (hb : Below w.heap.size w w1) (h : RetDC w1 d code e w') : RetDC w d code e w' := by
  obtain ⟨v, F, he, h1, h2, h3, h4⟩ := h
  exact ⟨v, F, he, bnext hb h1 (Nat.le_refl _), h2, h3, fun g hg => Nat.le_trans hb.size (h4 g hg)⟩
theorem RetDC.ofD {w w' w2 : World} {d : D} {v : Value} {code : Int} (h : RetD w d (.returned v) w') (hb : Below w'.heap.size w' w2) : RetDC w d code (.returned (.tuple #[v, .int .i64 code])) w2 := by
  obtain ⟨u, F, he, h1, h2, h3, h4⟩ := h
  cases he
  exact ⟨v, F, rfl, bnext h1 hb (Nat.le_refl _), Ow.stable d v F (fun k hk => hb.block k (Ow.lt d v F h2 k hk)) h2, h3, h4⟩
theorem Ow_empty (w : World) (a : Option Addr) (c k : Nat) : Ow w (.l k []) (.slice a 0 c) [] := ⟨a, 0, c, rfl, by simp, by simp [maxLen], .inl ⟨rfl, rfl⟩⟩
theorem RetDC.none {w w' : World} (a : Option Addr) (c : Nat) (code : Int) (hb : Below w.heap.size w w') : RetDC w (dI []) code (.returned (.tuple #[.slice a 0 c, .int .i64 code])) w' :=
  ⟨_, [], rfl, hb, Ow_empty _ _ _ _, by simp, by simp⟩
theorem Ow.slI {w : World} {xs : List Int} {v : Value} {F : List Nat} (h : Ow w (dI xs) v F) : ∃ a c, v = .slice a xs.length c ∧ SlI (· ∈ F) w a xs := Rd_I.1 (Ow.rd _ _ _ h)

theorem wrap_64 (n : Int) : IntKind.i64.wrap n = wrap64 n := by rw [IntKind.wrap_i64, wrap64]

/-- n is from low to high. -/
def inRg (n low high : Int) : Bool := decide (low ≤ n) && decide (n ≤ high)
/-- p holds of all. -/
def allB (p : Int → Bool) (xs : List Int) : Bool := xs.all p
theorem allB_true {p : Int → Bool} {xs : List Int} (h : ∀ j, j < xs.length → p (nth xs j) = true) : allB p xs = true := by
  rw [allB, List.all_eq_true]
  intro x hx
  obtain ⟨j, hj, rfl⟩ := List.getElem_of_mem hx
  simpa [nth_lt hj] using h j hj
theorem allB_false {p : Int → Bool} {xs : List Int} {k : Nat} (hk : k < xs.length) (h : p (nth xs k) = false) : allB p xs = false := by
  rw [allB, List.all_eq_false]
  exact ⟨_, List.getElem_mem hk, by simpa [nth_lt hk] using h⟩
theorem allB_at {p : Int → Bool} {xs : List Int} (h : allB p xs = true) {k : Nat} (hk : k < xs.length) : p (nth xs k) = true := by
  rw [allB, List.all_eq_true] at h
  rw [nth_lt hk]; exact h _ (List.getElem_mem hk)

def cntOk (n : Int) : Bool := inRg n 0 1000
/-- A list is a bag. -/
def isBagS (xs : List Int) : Bool := allB cntOk xs && inRg xs.length 1 8
def validBagS (kinds : Int) (xs : List Int) : Bool := isBagS xs && ((xs.length : Int) == kinds)
theorem isBagS_len {xs : List Int} (h : isBagS xs = true) : 1 ≤ xs.length ∧ xs.length ≤ 8 := by
  simp [isBagS, inRg] at h; omega
theorem isBagS_at {xs : List Int} (h : isBagS xs = true) {k : Nat} (hk : k < xs.length) : 0 ≤ nth xs k ∧ nth xs k ≤ 1000 := by
  simp only [isBagS, Bool.and_eq_true] at h
  have := allB_at h.1 hk
  simpa [cntOk, inRg] using this
def twoS (xs ys : List Int) : Int := if isBagS xs = true ∧ isBagS ys = true then (if xs.length = ys.length then 0 else 2) else 1
theorem twoS_ok {xs ys : List Int} (h : twoS xs ys = 0) : isBagS xs = true ∧ isBagS ys = true ∧ xs.length = ys.length := by
  unfold twoS at h
  split at h
  · rename_i hh
    split at h
    · exact ⟨hh.1, hh.2, by assumption⟩
    · cases h
  · cases h

/-- The first place where p holds, or -1. -/
def idxF (p : Int → Bool) (xs : List Int) : Int := match xs.findIdx? p with | some i => (i : Int) | none => -1
theorem idxF_at {p : Int → Bool} {xs : List Int} {k : Nat} (hk : k < xs.length) (h : ∀ j, j < k → p (nth xs j) = false) (hp : p (nth xs k) = true) : idxF p xs = k := by
  have : xs.findIdx? p = some k := by
    rw [List.findIdx?_eq_some_iff_getElem]
    refine ⟨hk, by simpa [nth, hk] using hp, fun j hj => ?_⟩
    have := h j hj
    simpa [nth, show j < xs.length by omega] using this
  simp [idxF, this]
theorem idxF_none {p : Int → Bool} {xs : List Int} (h : ∀ j, j < xs.length → p (nth xs j) = false) : idxF p xs = -1 := by
  have : xs.findIdx? p = none := by
    rw [List.findIdx?_eq_none_iff]
    intro x hx
    obtain ⟨j, hj, rfl⟩ := List.getElem_of_mem hx
    simpa [nth, hj] using h j hj
  simp [idxF, this]
def anyB (p : Int → Bool) (xs : List Int) : Bool := xs.any p
theorem idxF_any (p : Int → Bool) (xs : List Int) : decide (0 ≤ idxF p xs) = anyB p xs := by
  unfold idxF anyB
  cases h : xs.findIdx? p with
  | none =>
    have := List.findIdx?_eq_none_iff.1 h
    have h2 : xs.any p = false := by rw [List.any_eq_false]; intro x hx; simp [this x hx]
    simp [h2]
  | some i =>
    obtain ⟨hi, hp, _⟩ := List.findIdx?_eq_some_iff_getElem.1 h
    have h2 : xs.any p = true := List.any_eq_true.2 ⟨_, List.getElem_mem hi, hp⟩
    simp [h2]
theorem anyB_not (p : Int → Bool) (xs : List Int) : anyB (fun n => !p n) xs = !allB p xs := by
  simp [anyB, allB, List.all_eq_not_any_not]

/-- The sum as the machine reckons it. -/
def sumTo (xs : List Int) : Nat → Int
  | 0 => 0
  | k + 1 => wrap64 (sumTo xs k + nth xs k)
def sumS (xs : List Int) : Int := sumTo xs xs.length

/-- Two lists taken together, place by place. -/
def zipF (g : Int → Int → Int) (xs ys : List Int) (k : Nat) : List Int := (List.range k).map fun i => g (nth xs i) (nth ys i)
theorem zipF_succ (g : Int → Int → Int) (xs ys : List Int) (k : Nat) : (zipF g xs ys k).map (Value.int .i64) ++ [Value.int .i64 (g (nth xs k) (nth ys k))] = (zipF g xs ys (k + 1)).map (Value.int .i64) := by
  simp [zipF, List.range_succ]
theorem zipF_len (g : Int → Int → Int) (xs ys : List Int) (k : Nat) : (zipF g xs ys k).length = k := by simp [zipF]
theorem zipF_at {g : Int → Int → Int} {xs ys : List Int} {k i : Nat} (h : i < k) : nth (zipF g xs ys k) i = g (nth xs i) (nth ys i) := by
  simp [nth, zipF, h]
def mulW (x y : Int) : Int := wrap64 (x * y)
def addW (f x y : Int) : Int := wrap64 (x + wrap64 (f * y))
def minI (x y : Int) : Int := if x < y then x else y
def maxI (x y : Int) : Int := if y < x then x else y
def plusS (xs ys : List Int) (f : Int) : List Int := zipF (addW f) xs ys xs.length
def weighS (xs ws : List Int) : Int := sumS (zipF mulW xs ws xs.length)
/-- No element of the first list is greater. -/
def withinS (xs ys : List Int) : Bool := (List.range xs.length).all fun i => decide (nth xs i ≤ nth ys i)
theorem withinS_true {xs ys : List Int} (h : ∀ j, j < xs.length → nth xs j ≤ nth ys j) : withinS xs ys = true := by
  rw [withinS, List.all_eq_true]; intro j hj; simpa using h j (by simpa using hj)
theorem withinS_false {xs ys : List Int} {k : Nat} (hk : k < xs.length) (h : nth ys k < nth xs k) : withinS xs ys = false := by
  rw [withinS, List.all_eq_false]; exact ⟨k, by simpa using hk, by simpa using h⟩
def bagSizeS (xs : List Int) : Int × Int := if isBagS xs = true then (sumS xs, 0) else (0, 1)
def isWithinS (xs ys : List Int) : Bool × Int := if twoS xs ys = 0 then (withinS xs ys, 0) else (false, twoS xs ys)
def weighBagS (xs ws : List Int) : Int × Int :=
  if isBagS xs = true then (if ws.length = xs.length ∧ allB (fun n => inRg n (-1000) 1000) ws = true then (weighS xs ws, 0) else (0, 2)) else (0, 1)
def joinS (xs ys : List Int) : List Int × Int := if twoS xs ys = 0 then (zipF maxI xs ys xs.length, 0) else ([], twoS xs ys)
def meetS (xs ys : List Int) : List Int × Int := if twoS xs ys = 0 then (zipF minI xs ys xs.length, 0) else ([], twoS xs ys)
def toldS (xs : List Int) : List Int × Int := if isBagS xs = true then (xs, 0) else ([], 3)
def addS (xs ys : List Int) : List Int × Int := if twoS xs ys = 0 then toldS (plusS xs ys 1) else ([], twoS xs ys)
def scaleS (xs : List Int) (f : Int) : List Int × Int :=
  if isBagS xs = true then (if inRg f 0 100 = true then toldS (plusS (List.replicate xs.length 0) xs f) else ([], 2)) else ([], 1)
def takeS (xs ys : List Int) : List Int × Int := if twoS xs ys = 0 then (if withinS ys xs = true then (plusS xs ys (-1), 0) else ([], 4)) else ([], twoS xs ys)
theorem plusS_len (xs ys : List Int) (f : Int) : (plusS xs ys f).length = xs.length := zipF_len _ _ _ _
theorem joinS_len (xs ys : List Int) : (joinS xs ys).1.length ≤ xs.length := by unfold joinS; split <;> simp [zipF_len]
theorem meetS_len (xs ys : List Int) : (meetS xs ys).1.length ≤ xs.length := by unfold meetS; split <;> simp [zipF_len]
theorem toldS_len (xs : List Int) : (toldS xs).1.length ≤ xs.length := by unfold toldS; split <;> simp
theorem scaleS_len (xs : List Int) (f : Int) : (scaleS xs f).1.length ≤ xs.length := by
  unfold scaleS
  split
  · split
    · exact Nat.le_trans (toldS_len _) (by simp [plusS_len])
    · simp
  · simp
theorem addS_len (xs ys : List Int) : (addS xs ys).1.length ≤ xs.length := by
  unfold addS
  split
  · exact Nat.le_trans (toldS_len _) (by simp [plusS_len])
  · simp
theorem takeS_len (xs ys : List Int) : (takeS xs ys).1.length ≤ xs.length := by
  unfold takeS
  split
  · split <;> simp [plusS_len]
  · simp
end Go.Proofs.Ytkjmehpehopncaa

/- A region that draws its order: operations that only read, then a tail in the order of the text. No program is in sight. -/
namespace Go.Proofs.Ytkjmehpehopncaa
open Go.RowKit

/-- An operation that yields a value and never calls. -/
def simpleOp : Op → Bool
  | .move _ | .assign _ | .load .. | .binOp .. | .unOp .. | .fieldAddr .. | .field .. | .indexAddr .. | .index .. | .extract .. | .convert .. | .nilCheck _ => true
  | .call c => match c.callee with | .builtin .len => true | _ => false
  | _ => false
theorem run_v {P : Program} (s : Sem Value) (w : World) (f : FuncId) (args : Array Value) (w' : World) : (do pure (Next.value (← s)) : Sem Next).run P w ≠ .ok (.enter f args) w' := by
  rw [Sem.run_bind]
  cases s.run P w <;> simp [Result.andThen, Sem.run_pure]
theorem simple_ne {P : Program} {o : Oper} (h : simpleOp o.op = true) (ρ : Operand → Value) (w : World) (f : FuncId) (args : Array Value) (w' : World) : (execOp ρ o).run P w ≠ .ok (.enter f args) w' := by
  unfold execOp
  cases ho : o.op with
  | move x => simp [Sem.run_pure]
  | assign x => simp [Sem.run_pure]
  | nilCheck x =>
    intro he
    have key : ∀ (s : Sem Next), (∀ w, ∀ r, s.run P w = r → match r with | .ok (.enter _ _) _ => False | _ => True) → ∀ w, s.run P w ≠ .ok (.enter f args) w' := by
      intro s hs w0 e
      have := hs w0 _ e
      exact this
    simp only at he
    split at he
    all_goals first
      | (simp [runtimePanic, program, Sem.run_bind, goPanic, Sem.run] at he; done)
      | (simp at he; done)
      | skip
    split at he
    · simp [runtimePanic, program, Sem.run_bind, goPanic, Sem.run] at he
    · rw [Sem.run_bind] at he
      revert he
      cases (program : Sem Program).run P w with
      | ok p w1 =>
        simp only [Result.andThen_ok]
        rw [Sem.run_bind]
        cases Sem.run P (nilAhead _ _ _ _) w1 with
        | ok b w2 =>
          simp only [Result.andThen_ok]
          split
          · simp [unsupported, Sem.run]
          · simp [Sem.run_pure]
        | halt h w2 => simp [Result.andThen]
      | halt h w1 => simp [Result.andThen]
    · simp [Sem.run_pure] at he
  | call c =>
    rw [ho] at h
    simp only [simpleOp] at h
    cases hc : c.callee with
    | builtin b =>
      rw [hc] at h
      cases b <;> simp at h
      simp only [resolve, hc, Sem.run_bind, Sem.run_pure, Result.andThen_ok, invoke, builtin]
      cases Sem.run P (Builtin.len_ c.argTypes o.type (Array.map ρ c.args)) w <;> simp [Result.andThen]
    | value x => rw [hc] at h; simp at h
    | invoke x m => rw [hc] at h; simp at h
  | _ => first | exact run_v _ _ _ _ _ | (rw [ho] at h; simp [simpleOp] at h; done)

theorem still_of_quiet {P : Program} {ops : Array Oper} {w : World} {Q : Act → Prop} : ∀ (l : List Oper) (a : Act), l.all (fun o => simpleOp o.op) = true →
    wpQuiet P ops (fun w' => ∃ n, w' = w.drewN n) Q l a → wpStill P ops { w with drawn := w.drawn + 1 } Q l a
  | [], _, _, h => h
  | o :: rest, a, hs, h => by
    simp only [List.all_cons, Bool.and_eq_true] at hs
    simp only [wpQuiet, wpStill] at h ⊢
    split
    · rename_i hw
      rw [if_pos hw] at h
      obtain ⟨v, h1, h2⟩ := h
      have h3 := h1 _ ⟨1, rfl⟩
      have h4 := still_of_quiet rest _ hs.2 h2
      unfold Oper.quietAt at h3
      unfold Oper.still
      have hne := simple_ne (P := P) hs.1 a.eval (w.drewN 1)
      revert h3 hne
      show Oper.quietUpon P _ (w.drewN 1) v (Sem.run P (execOp a.eval o) (w.drewN 1)) → _ → Oper.stillUpon P o a (w.drewN 1) _ (Sem.run P (execOp a.eval o) (w.drewN 1))
      cases Sem.run P (execOp a.eval o) (w.drewN 1) with
      | halt x w1 => intro h3 _; exact h3.elim
      | ok x w1 =>
        cases x with
        | value u => rintro ⟨rfl, rfl⟩ _; exact ⟨rfl, h4⟩
        | skip => rintro ⟨rfl, rfl⟩ _; exact ⟨rfl, h4⟩
        | enter f args => intro _ hne; exact absurd rfl (hne f args w1)
        | _ => intro h3 _; exact h3.elim
    · rename_i hw
      rw [if_neg hw] at h
      exact still_of_quiet rest _ hs.2 h

/-- The first n operations only read: they are walked by the quiet walk; what stands behind them is walked in the order of the text. -/
theorem wp_quiet_tail {P : Program} {id : Nat} {Q : Exit → Act → World → Prop} {a : Act} {w : World} {l : List Oper} (n : Nat) (hm : P.follows .mixedOrders = true) (hB : Region.lexTailB .any l.toArray n = true)
    (hs : (l.take n).all (fun o => simpleOp o.op) = true)
    (h : wpQuiet P l.toArray (fun w' => ∃ n, w' = w.drewN n) (fun a' => wpList P l.toArray Q (l.drop n) a' (w.drewN 1)) (l.take n) a) : (Code.region id l.toArray true).wp P Q a w :=
  wp_region_still_tail n hm hB (still_of_quiet _ _ hs h)

/-- 'append(v, y)' at a step of a region that draws its order. -/
theorem step_app {P : Program} {ops : Array Oper} {o : Oper} {ac : Act} {w : World} {K : Act → World → Prop} {Q : Exit → Act → World → Prop} {X : Prop} (hgd : o.guard = none) (s x : Operand) (T : TypeId)
    (ho : o.op = .call { callee := .builtin .append, args := #[s, x], argTypes := #[T, T] }) {E bytes : Nat} {z : Value} (tab : Tab P T E z 1 bytes) (hzs : z.cells.size = 1) (hby : bytes ≤ 1024)
    (B : Nat) (v : Value) (vs : List Value) (hs : ac.eval s = v) (hown : Bld E w B v vs) (g : Nat) (y : Value) (h1 : y.oneCell' = true)
    (hx : ac.eval x = .slice (some ⟨g, 0, none⟩) 1 1) (hc : w.cell? ⟨g, 0, none⟩ = some y) (hlen : vs.length < 4294967296) (hB : B ≤ w.heap.size)
    (hK : ∀ v' w', Bld E w' B v' (vs ++ [y]) → Below B w w' → K (ac.put o.dst v') w') : if Region.wanted o (yielded ops ac.tmps) = true then Oper.wp P o ac w K Q else X := by
  have hw : Region.wanted o (yielded ops ac.tmps) = true := by simp [Region.wanted, hgd]
  rw [if_pos hw]
  obtain ⟨i0, hi, hz0, hz1, hz2⟩ := info_parts tab.info
  refine wp_append_own w s x T ho B E i0 z 1 bytes tab.under hi hz0 hz1 hz2 hzs (by decide) v vs.length vs hs hown ⟨g, 0, none⟩ 1 1 [y] hx rfl ?_ ?_ ?_ ?_ hB ?_
  · intro j u hu
    cases j with
    | zero => simp at hu; subst hu; simpa [Addr.add] using hc
    | succ j => simp at hu
  · intro u hu; simp at hu; subst hu; exact h1
  · unfold maxLen; omega
  · have : (vs.length + 1) * bytes ≤ 4294967296 * 1024 := Nat.mul_le_mul (by omega) hby
    omega
  · intro v' w' h2 h3 _
    refine hK v' w' (by simpa [Bld] using h2) ?_
    have hlt := hown.lt
    exact (Below.refl B w).grown h3 hB fun k hk => (hlt k hk).1

theorem madeCells_one (v : Value) (hv : v.cells = #[v]) (n : Nat) : (madeCells v.cells (n * 1)).toList = List.replicate n v := by
  rw [hv, madeCells, Nat.mul_one]
  apply List.ext_getElem
  · simp
  · intro i h1 h2
    simp [Nat.mod_one]
/-- 'make([]T, n)'. -/
theorem make_one {P : Program} {ops : Array Oper} {rest : List Oper} {o : Oper} {ac : Act} {Q : Exit → Act → World → Prop} {w : World} (hgd : o.guard = none) (l c : Operand) (T : TypeId) (hop : o.op = .makeSlice T l c)
    {E bytes : Nat} {z : Value} (tab : Tab P T E z 1 bytes) (hz : z.cells = #[z]) (hby : bytes ≤ 1024) (n : Nat) (L C : Int) (hl : ac.eval l = .int .i64 L) (hc : ac.eval c = .int .i64 C) (hL : L = n) (hC : C = n) (hn : n ≤ 4294967296) (B : Nat) (hB : B ≤ w.heap.size)
    (K : ∀ w', Bld E w' B (.slice (some ⟨w.heap.size, 0, none⟩) n n) (List.replicate n z) → Below w.heap.size w w' → w.heap.size < w'.heap.size → wpList P ops Q rest (ac.put o.dst (.slice (some ⟨w.heap.size, 0, none⟩) n n)) w') : wpList P ops Q (o :: rest) ac w := by
  obtain ⟨i0, hi, hz0, hz1, hz2⟩ := info_parts tab.info
  refine wpList_make_full w hgd l c T hop B E i0 z 1 tab.under hi hz0 hz1 .i64 .i64 L C n hl hc hL hC ?_ ?_ hB ?_
  · rw [hz2]
    have : bytes * n ≤ 1024 * 4294967296 := Nat.mul_le_mul hby hn
    omega
  · unfold maxLen; omega
  · intro w' h1 h2
    rw [madeCells_one z hz] at h1
    have hlt := (h1.lt w.heap.size rfl).2
    refine K w' (by simpa [Bld] using h1) ⟨h2.os, h2.tape, h2.output, h2.size, fun k hk => h2.block k hk (by simp)⟩ hlt
theorem Bld.cell {E : Nat} {w : World} {B g n c : Nat} {vs : List Value} (h : Bld E w B (.slice (some ⟨g, 0, none⟩) n c) vs) {i : Nat} {v : Value} (hi : vs[i]? = some v) : w.cell? ⟨g, i, none⟩ = some v := by
  have := World.ownsRow.cells (g := g) h rfl i v hi
  rwa [Addr.add_lit, Nat.zero_add] at this
theorem Bld.free {E : Nat} {w : World} {B g n c : Nat} {vs : List Value} (h : Bld E w B (.slice (some ⟨g, 0, none⟩) n c) vs) (i : Nat) : w.frozen? ⟨g, i, none⟩ = false := by
  rcases h.2 with ⟨h1, _⟩ | ⟨g', cap, cur, h1, _, hg, _⟩
  · cases h1
  · cases h1; simp [World.frozen?, hg]
theorem Bld.base {E : Nat} {w : World} {B g n c : Nat} {vs : List Value} (h : Bld E w B (.slice (some ⟨g, 0, none⟩) n c) vs) : B ≤ g ∧ g < w.heap.size := h.lt g rfl
/-- A store into a list of one's own. -/
theorem Bld.set {E : Nat} {w : World} {B g n c : Nat} {vs : List Value} (h : Bld E w B (.slice (some ⟨g, 0, none⟩) n c) vs) (i : Nat) (v : Value) :
    Bld E (w.setCell ⟨g, i, none⟩ v) B (.slice (some ⟨g, 0, none⟩) n c) (vs.set i v) := by
  obtain ⟨h0, h2⟩ := h
  refine ⟨by simp, ?_⟩
  rcases h2 with ⟨h1, _⟩ | ⟨g', cap, cur, h1, hB, hg, hn, hcap, hsz, htake⟩
  · cases h1
  · cases h1
    have h3 : (cur.toList.set i v).take (vs.length * 1) = vs.set i v := by rw [List.take_set, htake]
    refine .inr ⟨g, c, cur.set! i v, by simp, hB, ?_, by simpa using hn, hcap, by simpa using hsz, ?_⟩
    · simp [World.setCell, Array.getElem?_modify, hg]
    · simpa using h3
theorem Ow.ofBld {E : Nat} {w : World} {B : Nat} {v : Value} {xs : List Int} (h : Bld E w B v (xs.map (.int .i64))) (hl : xs.length ≤ maxLen) : ∃ a c F, v = .slice a xs.length c ∧ Ow w (dI xs) (.slice a xs.length c) F ∧ F.Nodup ∧ ∀ g, g ∈ F → B ≤ g := h.ow hl
theorem SlI.ofBld {E : Nat} {w : World} {B : Nat} {a : Option Addr} {n c : Nat} {xs : List Int} (h : Bld E w B (.slice a n c) (xs.map (.int .i64))) (hl : xs.length ≤ maxLen) : SlI (B ≤ ·) w a xs := by
  obtain ⟨a', c', F, e, ho, _, hF⟩ := h.ow hl
  cases e
  obtain ⟨a2, c2, e2, h2⟩ := ho.slI
  cases e2
  exact ⟨h2.len, fun h0 => ⟨hF _ (h2.ptr h0).1, (h2.ptr h0).2⟩, h2.cell⟩

/-- The first k of n places have been filled. -/
def fill (n : Nat) (z : Value) (g : Nat → Value) (k : Nat) : List Value := (List.range n).map fun i => if i < k then g i else z
theorem fill_zero (n : Nat) (z : Value) (g : Nat → Value) : List.replicate n z = fill n z g 0 := by
  apply List.ext_getElem <;> simp [fill]
theorem fill_len (n : Nat) (z : Value) (g : Nat → Value) (k : Nat) : (fill n z g k).length = n := by simp [fill]
theorem fill_at {n : Nat} {z : Value} {g : Nat → Value} {k : Nat} (h : k < n) : (fill n z g k)[k]? = some z := by simp [fill, h]
theorem fill_set {n : Nat} {z : Value} {g : Nat → Value} {k : Nat} : (fill n z g k).set k (g k) = fill n z g (k + 1) := by
  apply List.ext_getElem
  · simp [fill]
  · intro i h1 h2
    simp only [fill, List.getElem_set, List.getElem_map, List.getElem_range]
    by_cases e : k = i
    · subst e; simp
    · rw [if_neg e]
      by_cases e2 : i < k
      · rw [if_pos e2, if_pos (by omega)]
      · rw [if_neg e2, if_neg (by omega)]
theorem fill_full (n : Nat) (z : Value) (g : Nat → Value) : fill n z g n = (List.range n).map g := by
  apply List.map_congr_left
  intro i hi
  rw [if_pos (by simpa using hi)]
theorem fill_ints (z : Value) (xs : List Int) : fill xs.length z (fun i => .int .i64 (nth xs i)) xs.length = xs.map (.int .i64) := by
  rw [fill_full]
  apply List.ext_getElem
  · simp
  · intro i h1 h2
    simp [nth, show i < xs.length by simpa using h2]

/-- Only the blocks in F have changed; none is new. -/
structure Exc (F : List Nat) (w w' : World) : Prop where
  os : w'.os = w.os
  tape : w'.tape = w.tape
  output : w'.output = w.output
  size : w'.heap.size = w.heap.size
  block : ∀ k, k ∉ F → w'.heap[k]? = w.heap[k]?
theorem Exc.refl (F : List Nat) (w : World) : Exc F w w := ⟨rfl, rfl, rfl, rfl, fun _ _ => rfl⟩
theorem Exc.trans {F : List Nat} {w w1 w2 : World} (h : Exc F w w1) (h2 : Exc F w1 w2) : Exc F w w2 :=
  ⟨h2.os.trans h.os, h2.tape.trans h.tape, h2.output.trans h.output, h2.size.trans h.size, fun k hk => (h2.block k hk).trans (h.block k hk)⟩
theorem Exc.wider {F G : List Nat} {w w1 : World} (h : Exc F w w1) (hs : ∀ k, k ∈ F → k ∈ G) : Exc G w w1 := ⟨h.os, h.tape, h.output, h.size, fun k hk => h.block k fun h' => hk (hs k h')⟩
theorem Exc.setCell (w : World) (p : Addr) (v : Value) : Exc [p.block] w (w.setCell p v) :=
  ⟨rfl, rfl, rfl, by simp [World.setCell], fun k hk => Below.heap_setCell _ _ _ _ (by simpa using hk)⟩
theorem Exc.below {F : List Nat} {w w' : World} {B : Nat} (h : Exc F w w') (hF : ∀ g, g ∈ F → B ≤ g) : Below B w w' :=
  ⟨h.os, h.tape, h.output, Nat.le_of_eq h.size.symm, fun k hk => h.block k fun hh => by have := hF k hh; omega⟩
theorem Exc.ow {F G : List Nat} {w w' : World} {d : D} {v : Value} (h : Exc F w w') (ho : Ow w d v G) (hd : ∀ g, g ∈ G → g ∉ F) : Ow w' d v G := Ow.stable d v G (fun k hk => h.block k (hd k hk)) ho

/-- The cells of a list of numbers that is owned. -/
structure OwI (w : World) (a : Option Addr) (xs : List Int) (F : List Nat) : Prop where
  len : xs.length ≤ maxLen
  foot : (xs = [] ∧ F = []) ∨ (xs ≠ [] ∧ (∃ g o, a = some ⟨g, o, none⟩) ∧ F = [blk a])
  cell : ∀ i, i < xs.length → w.cell? (adr a i) = some (.int .i64 (nth xs i))
  free : ∀ i, i < xs.length → w.frozen? (adr a i) = false
theorem OwL_I {w : World} : ∀ (xs : List Int) (g o : Nat) (F : List Nat), OwL w (xs.map .i) g o F ↔ (F = [] ∧ ∀ i, i < xs.length → w.cell? ⟨g, o + i, none⟩ = some (.int .i64 (nth xs i)) ∧ w.frozen? ⟨g, o + i, none⟩ = false)
  | [], g, o, F => by
    constructor
    · intro h; exact ⟨h, fun i hi => absurd hi (by simp)⟩
    · intro h; exact h.1
  | x :: xs, g, o, F => by
    constructor
    · rintro ⟨v, F1, F2, hc, hf, ⟨hv, h1⟩, hr, hF⟩
      obtain ⟨h2, h3⟩ := (OwL_I xs g (o + 1) F2).1 hr
      subst h1 h2
      refine ⟨by simpa using hF, fun i hi => ?_⟩
      cases i with
      | zero => rw [hv] at hc; exact ⟨by simpa [nth] using hc, by simpa using hf⟩
      | succ i =>
        have := h3 i (by simpa using hi)
        rw [show o + 1 + i = o + (i + 1) from by omega] at this
        simpa [nth] using this
    · rintro ⟨hF, h⟩
      refine ⟨.int .i64 x, [], [], by simpa [nth] using (h 0 (by simp)).1, by simpa using (h 0 (by simp)).2, ⟨rfl, rfl⟩, (OwL_I xs g (o + 1) []).2 ⟨rfl, fun i hi => ?_⟩, by simpa using hF⟩
      have := h (i + 1) (by simpa using hi)
      rw [show o + (i + 1) = o + 1 + i from by omega] at this
      simpa [nth] using this
theorem Ow_I {w : World} {xs : List Int} {v : Value} {F : List Nat} : Ow w (dI xs) v F ↔ ∃ a c, v = .slice a xs.length c ∧ xs.length ≤ c ∧ OwI w a xs F := by
  constructor
  · rintro ⟨a, m, c, hv, hl, hm, hp⟩
    have hl' : xs.length = m := by simpa using hl
    subst hl'
    refine ⟨a, c, hv, ?_⟩
    rcases hp with ⟨h1, h2⟩ | ⟨g, o, F', ha, ⟨hne, hcp⟩, hF, hr⟩
    · have h1' : xs = [] := by simpa using h1
      subst h1'
      exact ⟨by simp, hm, .inl ⟨rfl, h2⟩, fun i hi => absurd hi (by simp), fun i hi => absurd hi (by simp)⟩
    · obtain ⟨rfl, h3⟩ := (OwL_I xs g o F').1 hr
      subst ha
      exact ⟨hcp, hm, .inr ⟨by simpa using hne, ⟨g, o, rfl⟩, hF⟩, fun i hi => (h3 i hi).1, fun i hi => (h3 i hi).2⟩
  · rintro ⟨a, c, rfl, hcp, h⟩
    refine ⟨a, xs.length, c, rfl, by simp, h.len, ?_⟩
    rcases h.foot with ⟨rfl, rfl⟩ | ⟨hne, ⟨g, o, rfl⟩, rfl⟩
    · exact .inl ⟨rfl, rfl⟩
    · exact .inr ⟨g, o, [], rfl, ⟨by simpa using hne, hcp⟩, rfl, (OwL_I xs g o []).2 ⟨rfl, fun i hi => ⟨h.cell i hi, h.free i hi⟩⟩⟩
/-- k, k + 1, .. -/
def marks (k : Int) (n : Nat) : List Int := (List.range n).map fun (i : Nat) => k + i
theorem marks_len (k : Int) (n : Nat) : (marks k n).length = n := by simp [marks]
theorem marks_at {k : Int} {n i : Nat} (h : i < n) : nth (marks k n) i = k + i := by simp [nth, marks, h]

/-- Wherever it lies. -/
abbrev Any : Nat → Prop := fun _ => True
theorem SlI.any {S : Nat → Prop} {w : World} {a : Option Addr} {xs : List Int} (h : SlI S w a xs) : SlI Any w a xs := ⟨h.len, fun h0 => ⟨trivial, (h.ptr h0).2⟩, h.cell⟩
theorem Ow.below {w w' : World} {d : D} {v : Value} {F : List Nat} (h : Ow w d v F) (hb : Below w.heap.size w w') : Ow w' d v F := Ow.stable d v F (fun k hk => hb.block k (Ow.lt d v F h k hk)) h
theorem Ow.top {w w' : World} {d : D} {v : Value} {F : List Nat} (h : Ow w d v F) (hz : w.heap.size ≤ w'.heap.size) : ∀ g, g ∈ F → g < w'.heap.size := fun g hg => Nat.lt_of_lt_of_le (Ow.lt d v F h g hg) hz
theorem Ow.arg {w : World} {xs : List Int} {a : Option Addr} {n c : Nat} {F : List Nat} (h : Ow w (dI xs) (.slice a n c) F) : SlI Any w a xs := by
  obtain ⟨a', c', e, h'⟩ := h.slI
  cases e; exact h'.any
theorem Ow.own {w : World} {xs : List Int} {a : Option Addr} {n c : Nat} {F : List Nat} (h : Ow w (dI xs) (.slice a n c) F) : OwI w a xs F := by
  obtain ⟨a', c', e, _, h'⟩ := Ow_I.1 h
  cases e; exact h'
theorem Ow.val {w : World} {xs : List Int} {v : Value} {F : List Nat} (h : Ow w (dI xs) v F) : ∃ a c, v = .slice a xs.length c := by
  obtain ⟨a, c, e, _⟩ := Ow_I.1 h
  exact ⟨a, c, e⟩
/-- Two parts of memory, one behind the other. -/
theorem apart_lt {F G : List Nat} {B : Nat} (hF : ∀ g, g ∈ F → g < B) (hG : ∀ g, g ∈ G → B ≤ g) : (∀ g, g ∈ F → g ∉ G) ∧ (∀ g, g ∈ G → g ∉ F) :=
  ⟨fun g h1 h2 => by have := hF g h1; have := hG g h2; omega, fun g h1 h2 => by have := hF g h2; have := hG g h1; omega⟩
theorem lift_lo {F : List Nat} {B C : Nat} (hF : ∀ g, g ∈ F → C ≤ g) (h : B ≤ C) : ∀ g, g ∈ F → B ≤ g := fun g hg => Nat.le_trans h (hF g hg)

/-- A call that does nothing but return, at a step of a region that draws its order. -/
theorem step_callF {P : Program} {ops : Array Oper} {o : Oper} {ac : Act} {w : World} {K : Act → World → Prop} {Q : Exit → Act → World → Prop} {X : Prop} (hgd : o.guard = none) (f : FuncId) (xs : Array Operand) (ts : Array TypeId)
    (ho : o.op = .call { callee := .value (.func f), args := xs, argTypes := ts }) (hrun : ∀ args w, (callFunc f args).run P w = .ok (.enter f args) w) (vs : Array Value) (hv : xs.map ac.eval = vs) (v : Value)
    (h : Calls P f vs w (RetP w v)) (hK : K (ac.put o.dst v) w) : if Region.wanted o (yielded ops ac.tmps) = true then Oper.wp P o ac w K Q else X := by
  have hw : Region.wanted o (yielded ops ac.tmps) = true := by simp [Region.wanted, hgd]
  rw [if_pos hw]
  unfold Oper.wp execOp
  simp only [ho, resolve, Act.eval, Deferred.ofValue, Sem.run_bind, Sem.run_pure, Result.andThen_ok, invoke, Array.append_empty]
  rw [show xs.map (Act.eval ac) = vs from hv]
  simp only [Array.empty_append, hrun, Oper.upon_enter]
  exact h.mono fun e w' ⟨he, hw'⟩ => by subst he; subst hw'; exact hK
theorem Ow.setCell {w : World} {d : D} {v : Value} {F : List Nat} (h : Ow w d v F) {p : Addr} (hp : p.block ∉ F) (u : Value) : Ow (w.setCell p u) d v F :=
  Ow.stable d v F (fun k hk => Below.heap_setCell w p u k (fun e => hp (e ▸ hk))) h
end Go.Proofs.Ytkjmehpehopncaa

/- Orders and programs as data. No program text is in sight. -/
namespace Go.Proofs.Ytkjmehpehopncaa
open Go.RowKit

/-- An order. -/
structure Ord where
  op : Int
  reg : Int
  to : Int
  els : Int
def Ord.ds (o : Ord) : List D := [.i o.op, .i o.reg, .i o.to, .i o.els]
def ordZ : Ord := ⟨0, 0, 0, 0⟩
def nthO (os : List Ord) (i : Nat) : Ord := os.getD i ordZ
theorem nthO_lt {os : List Ord} {i : Nat} (h : i < os.length) : nthO os i = os[i] := by simp [nthO, h]
def Ord.val (o : Ord) : Value := .agg #[.int .i64 o.op, .int .i64 o.reg, .int .i64 o.to, .int .i64 o.els]
def dO (os : List Ord) : D := .l 4 (os.flatMap Ord.ds)

theorem flat_len (os : List Ord) : (os.flatMap Ord.ds).length = os.length * 4 := by
  induction os with
  | nil => rfl
  | cons o os ih => simp only [List.flatMap_cons, List.length_append, ih, List.length_cons]; simp [Ord.ds]; omega
theorem flat_get : ∀ (os : List Ord) (i j : Nat), i < os.length → j < 4 → (os.flatMap Ord.ds)[i * 4 + j]? = (nthO os i).ds[j]?
  | [], i, j, hi, _ => absurd hi (by simp)
  | o :: os, 0, j, _, hj => by
    rw [List.flatMap_cons, List.getElem?_append_left (by simp [Ord.ds]; omega)]
    simp [nthO]
  | o :: os, i + 1, j, hi, hj => by
    rw [List.flatMap_cons, List.getElem?_append_right (by simp [Ord.ds]; omega)]
    have := flat_get os i j (by simpa using hi) hj
    rw [show (i + 1) * 4 + j - o.ds.length = i * 4 + j from by simp [Ord.ds]; omega, this]
    simp [nthO]

/-- The cells of a list of orders. -/
structure SlO (S : Nat → Prop) (w : World) (a : Option Addr) (os : List Ord) : Prop where
  len : os.length ≤ maxLen
  ptr : 0 < os.length → S (blk a) ∧ ∃ g o, a = some ⟨g, o, none⟩
  c0 : ∀ i, i < os.length → w.cell? (adr a (i * 4)) = some (.int .i64 (nthO os i).op)
  c1 : ∀ i, i < os.length → w.cell? (adr a (i * 4 + 1)) = some (.int .i64 (nthO os i).reg)
  c2 : ∀ i, i < os.length → w.cell? (adr a (i * 4 + 2)) = some (.int .i64 (nthO os i).to)
  c3 : ∀ i, i < os.length → w.cell? (adr a (i * 4 + 3)) = some (.int .i64 (nthO os i).els)
theorem Rd_O {S : Nat → Prop} {w : World} {os : List Ord} {v : Value} : Rd S w (dO os) v ↔ ∃ a c, v = .slice a os.length c ∧ SlO S w a os := by
  constructor
  · rintro ⟨a, m, c, hv, hl, hm, hp, hr⟩
    rw [flat_len] at hl
    have hl' : os.length = m := by omega
    subst hl'
    have key : ∀ i j d, i < os.length → j < 4 → (nthO os i).ds[j]? = some d → ∃ u, w.cell? (adr a (i * 4 + j)) = some u ∧ Rd S w d u := fun i j d hi hj hd => by
      obtain ⟨u, hc, hu⟩ := RdL.get _ _ _ hr (i * 4 + j) d (by rw [flat_get os i j hi hj]; exact hd)
      exact ⟨u, hc, hu⟩
    have k2 : ∀ i j n, i < os.length → j < 4 → (nthO os i).ds[j]? = some (.i n) → w.cell? (adr a (i * 4 + j)) = some (.int .i64 n) := fun i j n hi hj hd => by
      obtain ⟨u, hc, hu⟩ := key i j _ hi hj hd
      rw [show u = _ from hu] at hc; exact hc
    refine ⟨a, c, hv, hm, fun h0 => ?_, fun i hi => k2 i 0 _ hi (by omega) rfl, fun i hi => k2 i 1 _ hi (by omega) rfl, fun i hi => k2 i 2 _ hi (by omega) rfl, fun i hi => k2 i 3 _ hi (by omega) rfl⟩
    rcases hp with hp | hp
    · have := congrArg List.length hp
      rw [flat_len] at this
      simp only [List.length_nil] at this
      omega
    · exact hp
  · rintro ⟨a, c, rfl, h⟩
    refine ⟨a, os.length, c, rfl, flat_len _, h.len, ?_, ?_⟩
    · cases os with
      | nil => exact .inl rfl
      | cons x xs => exact .inr (h.ptr (by simp))
    · refine RdL.mk _ _ _ fun i d hd => ?_
      have hi := (List.getElem?_eq_some_iff.1 hd).1
      rw [flat_len] at hi
      obtain ⟨q, j, rfl, hj⟩ : ∃ q j, i = q * 4 + j ∧ j < 4 := ⟨i / 4, i % 4, by omega, by omega⟩
      have hq : q < os.length := by omega
      rw [flat_get os q j hq hj] at hd
      match j, hj, hd with
      | 0, _, hd => simp [Ord.ds] at hd; subst hd; exact ⟨_, h.c0 q hq, rfl⟩
      | 1, _, hd => simp [Ord.ds] at hd; subst hd; exact ⟨_, h.c1 q hq, rfl⟩
      | 2, _, hd => simp [Ord.ds] at hd; subst hd; exact ⟨_, h.c2 q hq, rfl⟩
      | 3, _, hd => simp [Ord.ds] at hd; subst hd; exact ⟨_, h.c3 q hq, rfl⟩
theorem SlO.below {S : Nat → Prop} {w w' : World} {a : Option Addr} {os : List Ord} (h : SlO S w a os) (hb : Below w.heap.size w w') : SlO S w' a os := by
  obtain ⟨a', c', e, h'⟩ := Rd_O.1 ((Rd_O.2 ⟨a, 0, rfl, h⟩).below hb)
  cases e; exact h'
theorem SlO.any {S : Nat → Prop} {w : World} {a : Option Addr} {os : List Ord} (h : SlO S w a os) : SlO Any w a os := ⟨h.len, fun h0 => ⟨trivial, (h.ptr h0).2⟩, h.c0, h.c1, h.c2, h.c3⟩
theorem Ow.argO {w : World} {os : List Ord} {a : Option Addr} {n c : Nat} {F : List Nat} (h : Ow w (dO os) (.slice a n c) F) : n = os.length ∧ SlO Any w a os := by
  obtain ⟨a', c', e, h'⟩ := Rd_O.1 (Ow.rd _ _ _ h)
  cases e; exact ⟨rfl, h'.any⟩

/-- The program's order is a right one. -/
def okOrd (R : Int) (n : Nat) (o : Ord) : Bool :=
  if o.op = 1 ∨ o.op = 2 then inRg o.reg 0 (R - 1) && inRg o.to 0 n && inRg o.els 0 n else decide (o.op = 3 ∧ o.reg = 0 ∧ o.to = 0 ∧ o.els = 0)
def allO (p : Ord → Bool) (os : List Ord) : Bool := os.all p
theorem allO_true {p : Ord → Bool} {os : List Ord} (h : ∀ j, j < os.length → p (nthO os j) = true) : allO p os = true := by
  rw [allO, List.all_eq_true]
  intro x hx
  obtain ⟨j, hj, rfl⟩ := List.getElem_of_mem hx
  simpa [nthO_lt hj] using h j hj
theorem allO_false {p : Ord → Bool} {os : List Ord} {k : Nat} (hk : k < os.length) (h : p (nthO os k) = false) : allO p os = false := by
  rw [allO, List.all_eq_false]
  exact ⟨_, List.getElem_mem hk, by simpa [nthO_lt hk] using h⟩
def validProgS (R : Int) (os : List Ord) : Bool := inRg R 1 3 && inRg os.length 1 6 && allO (okOrd R os.length) os
/-- The first place where p holds, or -1. -/
def idxO (p : Ord → Bool) (xs : List Ord) : Int := match xs.findIdx? p with | some i => (i : Int) | none => -1
theorem idxO_at {p : Ord → Bool} {xs : List Ord} {k : Nat} (hk : k < xs.length) (h : ∀ j, j < k → p (nthO xs j) = false) (hp : p (nthO xs k) = true) : idxO p xs = k := by
  have : xs.findIdx? p = some k := by
    rw [List.findIdx?_eq_some_iff_getElem]
    refine ⟨hk, by simpa [nthO, hk] using hp, fun j hj => ?_⟩
    have := h j hj
    simpa [nthO, show j < xs.length by omega] using this
  simp [idxO, this]
theorem idxO_none {p : Ord → Bool} {xs : List Ord} (h : ∀ j, j < xs.length → p (nthO xs j) = false) : idxO p xs = -1 := by
  have : xs.findIdx? p = none := by
    rw [List.findIdx?_eq_none_iff]
    intro x hx
    obtain ⟨j, hj, rfl⟩ := List.getElem_of_mem hx
    simpa [nthO, hj] using h j hj
  simp [idxO, this]
def anyO (p : Ord → Bool) (xs : List Ord) : Bool := xs.any p
theorem idxO_any (p : Ord → Bool) (xs : List Ord) : decide (0 ≤ idxO p xs) = anyO p xs := by
  unfold idxO anyO
  cases h : xs.findIdx? p with
  | none =>
    have := List.findIdx?_eq_none_iff.1 h
    have h2 : xs.any p = false := by rw [List.any_eq_false]; intro x hx; simp [this x hx]
    simp [h2]
  | some i =>
    obtain ⟨hi, hp, _⟩ := List.findIdx?_eq_some_iff_getElem.1 h
    have h2 : xs.any p = true := List.any_eq_true.2 ⟨_, List.getElem_mem hi, hp⟩
    simp [h2]
theorem anyO_not (p : Ord → Bool) (xs : List Ord) : anyO (fun n => !p n) xs = !allO p xs := by
  simp [anyO, allO, List.all_eq_not_any_not]
/-- The addresses of an element's cells. -/
@[go_sem high] theorem adr_add (a : Option Addr) (i j : Nat) : (adr a i).add j = adr a (i + j) := by
  unfold adr
  rw [Addr.add_lit, Nat.add_assoc]

theorem okOrd_a {R : Int} {n : Nat} {o : Ord} (h : inRg o.op 1 3 = false) : okOrd R n o = false := by
  have h' : ¬ (1 ≤ o.op ∧ o.op ≤ 3) := by simpa [inRg] using h
  unfold okOrd
  rw [if_neg (by omega)]
  simp; omega
theorem okOrd_b {R : Int} {n : Nat} {o : Ord} (hR : 1 ≤ R) (h : inRg o.reg 0 (R - 1) = false) : okOrd R n o = false := by
  have h' : ¬ (0 ≤ o.reg ∧ o.reg ≤ R - 1) := by simpa [inRg] using h
  unfold okOrd
  split
  · rw [h]; rfl
  · simp; omega
theorem okOrd_c {R : Int} {n : Nat} {o : Ord} (h : inRg o.to 0 n = false) : okOrd R n o = false := by
  have h' : ¬ (0 ≤ o.to ∧ o.to ≤ n) := by simpa [inRg] using h
  unfold okOrd
  split
  · rw [h]; simp
  · simp; omega
theorem okOrd_d {R : Int} {n : Nat} {o : Ord} (h : inRg o.els 0 n = false) : okOrd R n o = false := by
  have h' : ¬ (0 ≤ o.els ∧ o.els ≤ n) := by simpa [inRg] using h
  unfold okOrd
  split
  · rw [h]; simp
  · simp; omega
theorem okOrd_e {R : Int} {n : Nat} {o : Ord} (h0 : inRg o.op 1 3 = true) (h1 : inRg o.reg 0 (R - 1) = true) (h2 : inRg o.to 0 n = true) (h3 : inRg o.els 0 n = true) : okOrd R n o = !(decide (o.op = 3) && (decide (o.reg ≠ 0) || decide (o.to ≠ 0) || decide (o.els ≠ 0))) := by
  have h' : 1 ≤ o.op ∧ o.op ≤ 3 := by simpa [inRg] using h0
  unfold okOrd
  split
  · rw [h1, h2, h3, show decide (o.op = 3) = false from by simp; omega]; rfl
  · have h3 : o.op = 3 := by omega
    rw [h3]
    by_cases a1 : o.reg = 0 <;> by_cases a2 : o.to = 0 <;> by_cases a3 : o.els = 0 <;> simp [a1, a2, a3]
def ordB (a b : Ord) : Bool := a.op == b.op && a.reg == b.reg && a.to == b.to && a.els == b.els
def eqOS (xs ys : List Ord) : Bool := decide (xs.length = ys.length) && (List.range xs.length).all fun i => ordB (nthO xs i) (nthO ys i)
theorem eqOS_len {xs ys : List Ord} (h : ¬ xs.length = ys.length) : eqOS xs ys = false := by simp [eqOS, h]
theorem eqOS_true {xs ys : List Ord} (h : xs.length = ys.length) (h2 : ∀ j, j < xs.length → ordB (nthO xs j) (nthO ys j) = true) : eqOS xs ys = true := by
  rw [eqOS, h]
  simp only [decide_true, Bool.true_and]
  rw [List.all_eq_true]; intro j hj; exact h2 j (by rw [h]; simpa using hj)
theorem eqOS_false {xs ys : List Ord} {k : Nat} (hk : k < xs.length) (h : ordB (nthO xs k) (nthO ys k) = false) : eqOS xs ys = false := by
  have : ((List.range xs.length).all fun i => ordB (nthO xs i) (nthO ys i)) = false := by
    rw [List.all_eq_false]; exact ⟨k, by simpa using hk, by rw [h]; simp⟩
  rw [eqOS, this, Bool.and_false]
def samePS (R : Int) (xs : List Ord) (Q : Int) (ys : List Ord) : Bool := (R == Q) && eqOS xs ys

theorem quietP {P : Program} {f : FuncId} {args : Array Value} {w : World} {n : Nat} {v : Value} (h : Calls P f args (w.drewN n) (RetP (w.drewN n) v)) : Calls P f args (w.drewN n) fun e w'' => e = .returned v ∧ ∃ m, w'' = w.drewN m :=
  h.mono fun _ _ ⟨he, hm⟩ => ⟨he, n, hm.symm⟩
theorem quietQ {P : Program} {f : FuncId} {args : Array Value} {w : World} {n : Nat} {v : Value} (h : Calls P f args (w.drewN n) (RetQ (w.drewN n) v)) : Calls P f args (w.drewN n) fun e w'' => e = .returned v ∧ ∃ m, w'' = w.drewN m :=
  h.mono fun _ _ ⟨he, m, hm⟩ => ⟨he, n + m, by rw [hm, World.drewN_drewN]⟩

/-- A list of orders is being copied into block g. -/
structure FilO (w wr : World) (g : Nat) (os : List Ord) (k : Nat) : Prop where
  below : Below w.heap.size w wr
  base : w.heap.size ≤ g
  hass : ∀ i, i < os.length * 4 → (wr.cell? ⟨g, i, none⟩).isSome = true
  free : ∀ i, wr.frozen? ⟨g, i, none⟩ = false
  d0 : ∀ i, i < k → wr.cell? ⟨g, i * 4, none⟩ = some (.int .i64 (nthO os i).op)
  d1 : ∀ i, i < k → wr.cell? ⟨g, i * 4 + 1, none⟩ = some (.int .i64 (nthO os i).reg)
  d2 : ∀ i, i < k → wr.cell? ⟨g, i * 4 + 2, none⟩ = some (.int .i64 (nthO os i).to)
  d3 : ∀ i, i < k → wr.cell? ⟨g, i * 4 + 3, none⟩ = some (.int .i64 (nthO os i).els)
theorem cell_set_some {w : World} {p q : Addr} {v : Value} (h : (w.cell? q).isSome = true) : ((w.setCell p v).cell? q).isSome = true := by
  by_cases e : p = q
  · subst e
    obtain ⟨u, hu⟩ := Option.isSome_iff_exists.1 h
    rw [World.cell?_setCell_same w p v hu]; rfl
  · rw [World.cell?_setCell_other _ _ _ _ e]; exact h
theorem FilO.next {w wr : World} {g : Nat} {os : List Ord} {k : Nat} (h : FilO w wr g os k) (hk : k < os.length) :
    FilO w ((((wr.setCell ⟨g, k * 4, none⟩ (.int .i64 (nthO os k).op)).setCell ⟨g, k * 4 + 1, none⟩ (.int .i64 (nthO os k).reg)).setCell ⟨g, k * 4 + 2, none⟩ (.int .i64 (nthO os k).to)).setCell ⟨g, k * 4 + 3, none⟩ (.int .i64 (nthO os k).els)) g os (k + 1) := by
  have same : ∀ (w : World) (p : Addr) (v : Value), (w.cell? p).isSome = true → (w.setCell p v).cell? p = some v := fun w p v h => by
    obtain ⟨u, hu⟩ := Option.isSome_iff_exists.1 h
    exact World.cell?_setCell_same w p v hu
  have oth : ∀ (w : World) (i j : Nat) (v : Value), i ≠ j → (w.setCell ⟨g, i, none⟩ v).cell? ⟨g, j, none⟩ = w.cell? ⟨g, j, none⟩ := fun w i j v hij => World.cell?_setCell_other _ _ _ _ (fun e => hij (by cases e; rfl))
  refine ⟨(((h.below.setCell h.base _).setCell h.base _).setCell h.base _).setCell h.base _, h.base, fun i hi => cell_set_some (cell_set_some (cell_set_some (cell_set_some (h.hass i hi)))), fun i => by simp only [World.frozen?_setCell]; exact h.free i, fun i hi => ?_, fun i hi => ?_, fun i hi => ?_, fun i hi => ?_⟩
  · by_cases e : i = k
    · subst e
      rw [oth _ _ _ _ (by omega), oth _ _ _ _ (by omega), oth _ _ _ _ (by omega), same _ _ _ (h.hass _ (by omega))]
    · rw [oth _ _ _ _ (by omega), oth _ _ _ _ (by omega), oth _ _ _ _ (by omega), oth _ _ _ _ (by omega)]; exact h.d0 i (by omega)
  · by_cases e : i = k
    · subst e
      rw [oth _ _ _ _ (by omega), oth _ _ _ _ (by omega), same _ _ _ (cell_set_some (h.hass _ (by omega)))]
    · rw [oth _ _ _ _ (by omega), oth _ _ _ _ (by omega), oth _ _ _ _ (by omega), oth _ _ _ _ (by omega)]; exact h.d1 i (by omega)
  · by_cases e : i = k
    · subst e
      rw [oth _ _ _ _ (by omega), same _ _ _ (cell_set_some (cell_set_some (h.hass _ (by omega))))]
    · rw [oth _ _ _ _ (by omega), oth _ _ _ _ (by omega), oth _ _ _ _ (by omega), oth _ _ _ _ (by omega)]; exact h.d2 i (by omega)
  · by_cases e : i = k
    · subst e
      rw [same _ _ _ (cell_set_some (cell_set_some (cell_set_some (h.hass _ (by omega)))))]
    · rw [oth _ _ _ _ (by omega), oth _ _ _ _ (by omega), oth _ _ _ _ (by omega), oth _ _ _ _ (by omega)]; exact h.d3 i (by omega)
theorem OwL_O {w : World} : ∀ (os : List Ord) (g o : Nat), (∀ i, i < os.length → w.cell? ⟨g, o + i * 4, none⟩ = some (.int .i64 (nthO os i).op) ∧ w.cell? ⟨g, o + i * 4 + 1, none⟩ = some (.int .i64 (nthO os i).reg) ∧ w.cell? ⟨g, o + i * 4 + 2, none⟩ = some (.int .i64 (nthO os i).to) ∧ w.cell? ⟨g, o + i * 4 + 3, none⟩ = some (.int .i64 (nthO os i).els)) →
    (∀ i, w.frozen? ⟨g, i, none⟩ = false) → OwL w (os.flatMap Ord.ds) g o []
  | [], _, _, _, _ => rfl
  | x :: os, g, o, h, hf => by
    obtain ⟨h0, h1, h2, h3⟩ := h 0 (by simp)
    simp only [Nat.zero_mul, Nat.add_zero] at h0 h1 h2 h3
    have ih := OwL_O os g (o + 4) (fun i hi => by
      have := h (i + 1) (by simpa using hi)
      rw [show o + (i + 1) * 4 = o + 4 + i * 4 from by omega] at this
      simpa [nthO] using this) hf
    show OwL w ([D.i x.op, .i x.reg, .i x.to, .i x.els] ++ os.flatMap Ord.ds) g o []
    exact ⟨_, [], [], h0, hf _, ⟨rfl, rfl⟩, ⟨_, [], [], h1, hf _, ⟨rfl, rfl⟩, ⟨_, [], [], h2, hf _, ⟨rfl, rfl⟩, ⟨_, [], [], h3, hf _, ⟨rfl, rfl⟩, ih, rfl⟩, rfl⟩, rfl⟩, rfl⟩
theorem FilO.ret {w wr : World} {g : Nat} {os : List Ord} (h : FilO w wr g os os.length) (hl : os.length ≤ maxLen) : RetD w (dO os) (.returned (.slice (some ⟨g, 0, none⟩) os.length os.length)) wr := by
  by_cases h0 : os = []
  · subst h0
    exact ⟨_, [], rfl, h.below, Ow_empty _ _ _ _, by simp, by simp⟩
  · refine ⟨_, [g], rfl, h.below, ⟨_, os.length, os.length, rfl, flat_len _, hl, .inr ⟨g, 0, [], rfl, ⟨?_, Nat.le_refl _⟩, rfl, ?_⟩⟩, by simp, by simpa using h.base⟩
    · intro e
      have := congrArg List.length e
      rw [flat_len] at this
      apply h0
      apply List.eq_nil_of_length_eq_zero
      simp only [List.length_nil] at this
      omega
    · exact OwL_O os g 0 (fun i hi => by simp only [Nat.zero_add]; exact ⟨h.d0 i hi, h.d1 i hi, h.d2 i hi, h.d3 i hi⟩) h.free
theorem Ow.valO {w : World} {os : List Ord} {v : Value} {F : List Nat} (h : Ow w (dO os) v F) : ∃ a c, v = .slice a os.length c := by
  obtain ⟨a1, c1, e, _⟩ := Rd_O.1 (Ow.rd _ _ _ h)
  exact ⟨a1, c1, e⟩
end Go.Proofs.Ytkjmehpehopncaa

/- The frame of a law's statement: if the call returns true and leaves the old memory alone, the statement holds. -/
namespace Go.Proofs.Ytkjmehpehopncaa
open Go.ChangeShapes Go.WideShapes Go.ChangeAt Go.RowKit

theorem own : ownKnob Try.prog.godebug = none := by kernel_rfl
theorem laidOut : laidOutB Try.prog = true := by kernel_rfl

theorem trodAll_below {H : Type} {enc : TypeId × Value → H} {P : Program} (hl : laidOutB P = true) {W W' : World} (hb : Below W.heap.size W W') :
    ∀ (ts : List TypeId) (vs : List Value) (ds : List (DataW H)) (ps : List MemPlace), ts.all (fun t => P.readableRec t && decide (t < P.types.size)) = true →
      DataW.TrodAll enc P W 0 (fun _ => true) true ts vs ds ps → (∀ x ∈ ps, x.block < W.heap.size) → DataW.TrodAll enc P W' 0 (fun b => decide (b < W.heap.size)) true ts vs ds ps
  | [], vs, ds, ps, _, h, _ => by
    obtain ⟨rfl, rfl, rfl⟩ := trodAll_nil h
    exact trodAll_mk0
  | t :: ts, vs, ds, ps, ht, h, hlt => by
    obtain ⟨v, vs', d, ds', p, q, rfl, rfl, rfl, h1, h2⟩ := trodAll_cons h
    simp only [List.all_cons, Bool.and_eq_true, decide_eq_true_eq] at ht
    exact trodAll_cons_mk (Below.trod hl ht.1.1 ht.1.2 h1 hb (fun x hx => hlt x (List.mem_append_left _ hx)))
      (trodAll_below hl hb ts vs' ds' q (by simpa using ht.2) h2 (fun x hx => hlt x (List.mem_append_right _ hx)))

set_option maxRecDepth 100000 in
theorem lift {F : FuncId} {fn : Func} {s : ChangeSpec} {tb : TypeId} (hfn : Try.checked.prog.funcs[F]? = some fn) (noInit : Try.checked.prog.inits.idxOf? F = none)
    (hv : s.vars = []) (hres : fn.resultTypes = #[tb]) (htb : Try.prog.underlying tb = some .bool)
    (hrd : fn.params.toList.all (fun t => Try.prog.readableRec t && decide (t < Try.prog.types.size)) = true)
    {H : Type} {enc : TypeId × Value → H} (hs : ∀ ds, ds.length = fn.params.toList.length → s.fn H (ds ++ []) = { results := [.lit (.bool true)], args := ds })
    {os : Os} (started : os.Started)
    (witness : ∃ (w : World) (tape : Tape) (i : Input), w.os = os ∧ (w.forCall tape i).Shaped Try.checked.prog ∧ i.vars = [] ∧ Input.okWide Try.checked.prog (w.forCall tape i) .any w.heap.size F i ∧
      s.pre6 enc Try.checked.prog fn [] false (w.forCall tape i).memory i.args ∧ ({} : Assume).holds Try.checked.prog (lone (Frame.enter Try.checked.prog F i.args .normal) [] (w.forCall tape i)))
    (walk : ∀ (W : World) (base : Nat) (args : Array Value) (ds : List (DataW H)) (p : List MemPlace), (∀ (j : Nat) t v, fn.params[j]? = some t → args[j]? = some v → Value.okWide Try.prog W .any base t v) → DataW.TrodAll enc Try.prog W 0 (fun _ => true) true fn.params.toList args.toList ds p →
      Calls Try.prog F args W fun e w' => e = .returned (.bool true) ∧ Below W.heap.size W w') :
    ReturnsInHanded {} Try.checked os F .any (s.pre6 enc Try.prog fn [] false) (s.post enc Try.prog fn false true false false) := by
  refine returnsInHanded_of_change (C := Try.checked) own started noInit hfn witness ?_
  intro W base args ds gs before hval0 hW hcnd _
  have hW' := hW
  obtain ⟨p, q, hA, hV, hp, hfz, hnd⟩ := hW
  rw [hv] at hV
  obtain ⟨rfl, rfl⟩ := trodVars_none hV
  rw [List.append_nil] at hp
  subst hp
  have hval : ∀ (j : Nat) t v, fn.params[j]? = some t → args[j]? = some v → Value.okWide Try.prog W .any base t v := hval0
  refine (walk W base args ds _ hval hA).mono fun e W' ⟨he, hb⟩ => ?_
  subst he
  have hlen : ∀ (ts : List TypeId) (vs : List Value) (ds : List (DataW H)) (ps : List MemPlace), DataW.TrodAll enc Try.prog W 0 (fun _ => true) true ts vs ds ps → ds.length = ts.length := by
    intro ts
    induction ts with
    | nil => intro vs ds ps h; obtain ⟨_, rfl, _⟩ := trodAll_nil h; rfl
    | cons t ts ih => intro vs ds ps h; obtain ⟨_, _, _, _, _, _, rfl, rfl, rfl, _, h2⟩ := trodAll_cons h; simp [ih _ _ _ h2]
  have e1 := hs ds (hlen _ _ _ _ hA)
  refine ⟨_, rfl, ds, [], before, [], before, [], hW', ?_, ?_, ?_, hb.frame _, fun h => by cases h⟩
  · rw [e1, hres]; exact trodAll_mk1 (shut_bool htb true)
  · rw [e1]; exact trodAll_below laidOut hb _ _ _ _ hrd hA (fun x hx => by simpa using hW'.lt x hx)
  · rw [e1, hv]; rfl

/-- A parameter that is a list of numbers. -/
theorem open_I {H : Type} {enc : TypeId × Value → H} {P : Program} {W : World} {T E : TypeId} (hT : P.underlying T = some (.slice E)) (hE : P.underlying E = some (.int .i64)) (hc : P.cellsOf E = 1) {v : Value} {d : DataW H} {p : List MemPlace} {base : Nat}
    (hval : Value.okWide P W .any base T v) (h : DataW.Trod enc P W 0 (fun _ => true) true T v d p) : ∃ a n c, v = .slice a n c ∧ ∃ xs : List Int, xs.length = n ∧ SlI (· < W.heap.size) W a xs := by
  obtain ⟨a, n, c, rfl⟩ := okWide_slice hT hval
  refine ⟨a, n, c, rfl, ?_⟩
  obtain ⟨fuel, hf⟩ := h
  rcases open_ints hT hE hc hf with ⟨hcs, _⟩ | ⟨a', len, cap, zs, hcs, _, hl, hm, hz, _, hcell, _⟩
  · have e : a = none ∧ n = 0 ∧ c = 0 := by simpa [Value.cells] using hcs
    obtain ⟨rfl, rfl, rfl⟩ := e
    exact ⟨[], rfl, by simp, by simp, fun i hi => absurd hi (by simp)⟩
  · have e : a = some a' ∧ n = len ∧ c = cap := by simpa [Value.cells] using hcs
    obtain ⟨rfl, rfl, rfl⟩ := e
    simp only [if_true] at hz
    have hcell' : ∀ i, i < n → W.cell? (a'.add i) = some (.int .i64 (zs.getD i 0)) := fun i hi => hcell i (by omega)
    have hspot : 0 < n → a'.spot = none := fun h0 => by
      have := hcell' 0 h0
      rw [show a'.add 0 = a' from rfl] at this
      cases hs : a'.spot with
      | none => rfl
      | some x =>
        simp only [World.cell?] at this
        split at this
        · simp [hs] at this
        · cases this
    refine ⟨zs.take n, by simp; omega, by simp; omega, fun h0 => ?_, fun i hi => ?_⟩
    · have h0' : 0 < n := by simp at h0; omega
      have hb := World.block_lt_of_cell? W _ (hcell' 0 h0')
      rw [show a'.add 0 = a' from rfl] at hb
      obtain ⟨b, o, sp⟩ := a'
      have := hspot h0'
      simp only at this
      subst this
      exact ⟨hb, b, o, rfl⟩
    · have hi' : i < n := by simp at hi; omega
      have e : adr (some a') i = a'.add i := by
        obtain ⟨b, o, sp⟩ := a'
        have := hspot (by omega)
        simp only at this
        subst this
        rw [Addr.add_lit]; rfl
      rw [e, hcell' i hi']
      simp [nth, hi', List.getD]
end Go.Proofs.Ytkjmehpehopncaa

/- What an argument of whatever shape reads as: the reader's data turned into data of one's own. -/
namespace Go.Proofs.Ytkjmehpehopncaa
open Go.ChangeShapes Go.WideShapes Go.ChangeAt Go.RowKit

/-- The shape of a cell. -/
inductive Sh where
  | i
  | b
  | l (es : List Sh)

def fieldsSh (P : Program) (g : TypeId → Option (List Sh)) : List Field → Nat → Option (List Sh)
  | [], _ => some []
  | f :: fs, o =>
    match g f.type with
    | none => none
    | some es => if f.offset = o ∧ P.cellsOf f.type = es.length then (match fieldsSh P g fs (o + es.length) with | some r => some (es ++ r) | none => none) else none
/-- The shapes of a type's cells. -/
def shapeOf (P : Program) : Nat → TypeId → Option (List Sh)
  | 0, _ => none
  | n + 1, t =>
    match P.underlying t with
    | some (.int .i64) => some [.i]
    | some .bool => some [.b]
    | some (.slice e) => match shapeOf P n e with
      | some es => if P.cellsOf e = es.length ∧ 0 < es.length then some [.l es] else none
      | none => none
    | some (.struct fs) => match fieldsSh P (shapeOf P n) fs.toList 0 with
      | some es => if P.cellsOf t = es.length then some es else none
      | none => none
    | _ => none

mutual
/-- A datum has a shape. -/
def Fit : Sh → D → Prop
  | .i, d => ∃ n, d = .i n
  | .b, d => ∃ x, d = .b x
  | .l es, d => ∃ rows : List (List D), d = .l es.length rows.flatten ∧ ∀ r, r ∈ rows → FitL es r
def FitL : List Sh → List D → Prop
  | [], ds => ds = []
  | e :: es, ds => ∃ d r, ds = d :: r ∧ Fit e d ∧ FitL es r
end
/-- Cells read as data, one by one. -/
def RdAll (S : Nat → Prop) (w : World) : List D → List Value → Prop
  | [], vs => vs = []
  | d :: ds, vs => ∃ v r, vs = v :: r ∧ Rd S w d v ∧ RdAll S w ds r
theorem FitL.len : ∀ (es : List Sh) (ds : List D), FitL es ds → ds.length = es.length
  | [], _, h => by rw [show _ = [] from h]; rfl
  | e :: es, ds, h => by
    obtain ⟨d, r, rfl, _, hr⟩ := h
    simp [FitL.len es r hr]
theorem FitL.app : ∀ (es es' : List Sh) (ds ds' : List D), FitL es ds → FitL es' ds' → FitL (es ++ es') (ds ++ ds')
  | [], es', ds, ds', h, h' => by rw [show ds = [] from h]; exact h'
  | e :: es, es', ds, ds', h, h' => by
    obtain ⟨d, r, rfl, hd, hr⟩ := h
    exact ⟨d, r ++ ds', rfl, hd, FitL.app es es' r ds' hr h'⟩
theorem RdAll.app {S : Nat → Prop} {w : World} : ∀ (ds ds' : List D) (vs vs' : List Value), RdAll S w ds vs → RdAll S w ds' vs' → RdAll S w (ds ++ ds') (vs ++ vs')
  | [], ds', vs, vs', h, h' => by rw [show vs = [] from h]; exact h'
  | d :: ds, ds', vs, vs', h, h' => by
    obtain ⟨v, r, rfl, hd, hr⟩ := h
    exact ⟨v, r ++ vs', rfl, hd, RdAll.app ds ds' r vs' hr h'⟩
theorem RdAll.get {S : Nat → Prop} {w : World} : ∀ (ds : List D) (vs : List Value), RdAll S w ds vs → ∀ (j : Nat) (d : D), ds[j]? = some d → ∃ v, vs[j]? = some v ∧ Rd S w d v
  | [], _, _, j, d, hd => by simp at hd
  | d0 :: ds, vs, h, j, d, hd => by
    obtain ⟨v, r, rfl, h0, hr⟩ := h
    cases j with
    | zero => simp at hd; subst hd; exact ⟨v, rfl, h0⟩
    | succ j => simpa using RdAll.get ds r hr j d (by simpa using hd)
theorem flatten_get {k : Nat} : ∀ (rows : List (List D)), (∀ r, r ∈ rows → r.length = k) → ∀ i j, j < k → rows.flatten[i * k + j]? = (rows[i]?).bind (·[j]?)
  | [], _, i, j, _ => by simp
  | r :: rows, h, 0, j, hj => by
    have hr := h r (by simp)
    simp only [List.flatten_cons, Nat.zero_mul, Nat.zero_add]
    rw [List.getElem?_append_left (by omega)]; simp
  | r :: rows, h, i + 1, j, hj => by
    have hr := h r (by simp)
    simp only [List.flatten_cons]
    rw [List.getElem?_append_right (by rw [hr, Nat.add_mul]; omega), hr, show (i + 1) * k + j - k = i * k + j from by rw [Nat.add_mul]; omega,
      flatten_get rows (fun r hr => h r (by simp [hr])) i j hj]
    simp
theorem flatten_len {k : Nat} : ∀ (rows : List (List D)), (∀ r, r ∈ rows → r.length = k) → rows.flatten.length = rows.length * k
  | [], _ => by simp
  | r :: rows, h => by
    simp only [List.flatten_cons, List.length_append, List.length_cons, h r (by simp), flatten_len rows (fun r hr => h r (by simp [hr])), Nat.add_mul]; omega

theorem cells_some {w : World} {a : Addr} {n : Nat} {cs : List Value} (h : w.cells? 0 a n = some cs) : cs.length = n ∧ ∀ j, j < n → w.cell? (a.add j) = cs[j]? := by
  unfold World.cells? at h
  rw [if_pos (Nat.zero_le _)] at h
  have mlen : ∀ (l : List Nat) (r : List Value), l.mapM (fun i => w.cell? (a.add i)) = some r → r.length = l.length := by
    intro l
    induction l with
    | nil => intro r hr; simp at hr; subst hr; rfl
    | cons y l ih =>
      intro r hr
      rw [List.mapM_cons] at hr
      simp only [Option.bind_eq_bind, Option.bind_eq_some_iff, Option.pure_def, Option.some.injEq] at hr
      obtain ⟨v, hv, r', hr', rfl⟩ := hr
      simp [ih r' hr']
  have hl := mlen _ _ h
  refine ⟨by simpa using hl, fun j hj => ?_⟩
  have key : ∀ (l : List Nat) (r : List Value), l.mapM (fun i => w.cell? (a.add i)) = some r → ∀ (j x : Nat), l[j]? = some x → w.cell? (a.add x) = r[j]? := by
    intro l
    induction l with
    | nil => intro r _ j x hx; simp at hx
    | cons y l ih =>
      intro r hr j x hx
      rw [List.mapM_cons] at hr
      simp only [Option.bind_eq_bind, Option.bind_eq_some_iff, Option.pure_def, Option.some.injEq] at hr
      obtain ⟨v, hv, r', hr', rfl⟩ := hr
      cases j with
      | zero => simp at hx; subst hx; simpa using hv
      | succ j => simpa using ih r' hr' j x (by simpa using hx)
  exact key _ _ h j j (by simp [hj])
theorem spot_none {w : World} {a : Addr} {v : Value} (h : w.cell? (a.add 0) = some v) : a = ⟨a.block, a.off, none⟩ := by
  rw [show a.add 0 = a from rfl] at h
  obtain ⟨b, o, s⟩ := a
  cases s with
  | none => rfl
  | some x =>
    simp only [World.cell?] at h
    split at h
    · simp at h
    · cases h

theorem trod_rd {H : Type} {enc : TypeId × Value → H} {P : Program} {W : World} {sp : Nat → Bool} {held : Bool} : ∀ (n fuel : Nat) (t : TypeId) (cs : List Value) (sh : List Sh) (x : DataW H × List MemPlace),
    shapeOf P n t = some sh → DataW.trod enc P W 0 sp held fuel t cs = some x → ∃ ds, FitL sh ds ∧ RdAll (· < W.heap.size) W ds cs
  | 0, _, _, _, _, _, h, _ => by simp [shapeOf] at h
  | n + 1, 0, _, _, _, _, _, h => by simp [DataW.trod] at h
  | n + 1, fuel + 1, t, cs, sh, x, hs, h => by
    have ih := trod_rd (H := H) (enc := enc) (P := P) (W := W) (sp := sp) (held := held) n
    unfold shapeOf at hs
    split at hs
    · rename_i hu
      cases hs
      obtain ⟨m, hcs, _, _⟩ := DataW.trod_int hu h
      subst hcs
      exact ⟨[.i m], ⟨_, _, rfl, ⟨m, rfl⟩, rfl⟩, _, _, rfl, rfl, rfl⟩
    · rename_i hu
      cases hs
      unfold DataW.trod at h
      rw [hu] at h
      split at h <;> simp_all
      rename_i m
      exact ⟨[.b m], ⟨_, _, rfl, ⟨m, rfl⟩, rfl⟩, _, _, rfl, rfl, rfl⟩
    · rename_i e hu
      split at hs
      · rename_i es he
        split at hs
        · rename_i hk
          cases hs
          rcases DataW.trod_slice hu h with ⟨rfl, _⟩ | ⟨a, len, cap, elems, rest, m, _, rfl, _, _, hlc, hcm, hel, hget, _⟩
          · exact ⟨[.l es.length []], ⟨_, _, rfl, ⟨[], rfl, by simp⟩, rfl⟩, _, _, rfl, ⟨none, 0, 0, rfl, by simp, by simp [maxLen], .inl rfl, trivial⟩, rfl⟩
          · have hrow : ∀ i, i < len → ∃ ds cl, FitL es ds ∧ RdAll (· < W.heap.size) W ds cl ∧ W.cells? 0 (a.add (i * P.cellsOf e)) (P.cellsOf e) = some cl := fun i hi => by
              have := hget i hi
              rw [List.getElem?_eq_getElem (by omega)] at this
              obtain ⟨cl, hcl, ht⟩ := Option.bind_eq_some_iff.1 this
              obtain ⟨ds, hf, hr⟩ := ih m e cl es _ he ht
              exact ⟨ds, cl, hf, hr, hcl⟩
            have hch : ∃ f : Nat → List D × List Value, ∀ i, i < len → FitL es (f i).1 ∧ RdAll (· < W.heap.size) W (f i).1 (f i).2 ∧ W.cells? 0 (a.add (i * P.cellsOf e)) (P.cellsOf e) = some (f i).2 := by
              refine ⟨fun i => if h : i < len then ((Classical.choose (hrow i h)), Classical.choose (Classical.choose_spec (hrow i h))) else ([], []), fun i hi => ?_⟩
              simp only [hi, dif_pos]
              exact Classical.choose_spec (Classical.choose_spec (hrow i hi))
            obtain ⟨f, hf⟩ := hch
            have hlen : ∀ r, r ∈ (List.range len).map (fun i => (f i).1) → r.length = es.length := fun r hr => by
              obtain ⟨i, hi, rfl⟩ := List.mem_map.1 hr
              exact FitL.len _ _ (hf i (by simpa using hi)).1
            have hcell : ∀ i j d, i < len → j < es.length → (f i).1[j]? = some d → ∃ v, W.cell? (a.add (i * es.length + j)) = some v ∧ Rd (· < W.heap.size) W d v := fun i j d hi hj hd => by
              obtain ⟨h1, h2, h3⟩ := hf i hi
              obtain ⟨v, hv, hr⟩ := RdAll.get _ _ h2 j d hd
              obtain ⟨h4, h5⟩ := cells_some h3
              have := h5 j (by omega)
              rw [hv, hk.1] at this
              refine ⟨v, ?_, hr⟩
              rw [← this]
              unfold Addr.add
              by_cases e1 : i * es.length = 0 <;> by_cases e2 : j = 0 <;> simp [e1, e2, Nat.add_assoc]
            refine ⟨[.l es.length ((List.range len).map (fun i => (f i).1)).flatten], ⟨_, _, rfl, ⟨_, rfl, fun r hr => ?_⟩, rfl⟩, _, _, rfl, ⟨some a, len, cap, rfl, ?_, by omega, ?_, ?_⟩, rfl⟩
            · obtain ⟨i, hi, rfl⟩ := List.mem_map.1 hr
              exact (hf i (by simpa using hi)).1
            · rw [flatten_len _ hlen]; simp
            · by_cases h0 : len = 0
              · subst h0; exact .inl (by simp)
              · right
                have hfl : 0 < (f 0).1.length := by rw [FitL.len _ _ (hf 0 (by omega)).1]; exact hk.2
                obtain ⟨v, hv, _⟩ := hcell 0 0 (f 0).1[0] (by omega) hk.2 (by simp [hfl])
                rw [Nat.zero_mul, Nat.zero_add] at hv
                have hb := World.block_lt_of_cell? W _ hv
                exact ⟨hb, _, _, congrArg some (spot_none hv)⟩
            · refine RdL.mk _ _ _ fun q d hd => ?_
              have hq := (List.getElem?_eq_some_iff.1 hd).1
              rw [flatten_len _ hlen] at hq
              simp only [List.length_map, List.length_range] at hq
              have hk0 := hk.2
              obtain ⟨i, j, rfl, hj⟩ : ∃ i j, q = i * es.length + j ∧ j < es.length := ⟨q / es.length, q % es.length, by rw [Nat.mul_comm]; exact (Nat.div_add_mod q _).symm, Nat.mod_lt _ hk0⟩
              have hi : i < len := by
                rcases Nat.lt_or_ge i len with h1 | h1
                · exact h1
                · have := Nat.mul_le_mul_right es.length h1
                  omega
              rw [flatten_get _ hlen i j hj] at hd
              simp [hi] at hd
              obtain ⟨v, hv, hr⟩ := hcell i j d hi hj hd
              refine ⟨v, ?_, hr⟩
              have h00 : ∃ u, W.cell? (a.add 0) = some u := by
                have hfl : 0 < (f 0).1.length := by rw [FitL.len _ _ (hf 0 (by omega)).1]; exact hk.2
                obtain ⟨u, hu, _⟩ := hcell 0 0 (f 0).1[0] (by omega) hk.2 (by simp [hfl])
                exact ⟨u, by simpa using hu⟩
              obtain ⟨u, hu⟩ := h00
              have ea := spot_none hu
              rw [ea, Addr.add_lit] at hv
              exact hv
        · cases hs
      · cases hs
    · rename_i fs hu
      split at hs
      · rename_i es he
        split at hs
        · rename_i hk
          cases hs
          unfold DataW.trod at h
          rw [hu] at h
          have hcl : cs.length = P.cellsOf t ∧ ∃ xs, (fs.toList.mapM fun f => DataW.trod enc P W 0 sp held fuel f.type ((cs.drop f.offset).take (P.cellsOf f.type))) = some xs := by
            split at h <;> simp_all
            obtain ⟨_, a, ha, _⟩ := h
            exact ⟨a, ha⟩
          obtain ⟨hcl, xs, hxs⟩ := hcl
          have key : ∀ (l : List Field) (o : Nat) (es : List Sh) (xs : List (DataW H × List MemPlace)), fieldsSh P (shapeOf P n) l o = some es → o + es.length ≤ cs.length →
              l.mapM (fun f => DataW.trod enc P W 0 sp held fuel f.type ((cs.drop f.offset).take (P.cellsOf f.type))) = some xs → ∃ ds, FitL es ds ∧ RdAll (· < W.heap.size) W ds ((cs.drop o).take es.length) := by
            intro l
            induction l with
            | nil => intro o es xs h1 _ _; simp [fieldsSh] at h1; subst h1; exact ⟨[], rfl, by simp [RdAll]⟩
            | cons f l ihl =>
              intro o es xs h1 h2 h3
              rw [List.mapM_cons] at h3
              simp only [Option.bind_eq_bind, Option.bind_eq_some_iff, Option.pure_def, Option.some.injEq] at h3
              obtain ⟨y, hy, ys, hys, _⟩ := h3
              unfold fieldsSh at h1
              split at h1
              · cases h1
              · rename_i e1 hg
                split at h1
                · rename_i hof
                  split at h1
                  · rename_i r hr
                    cases h1
                    rw [List.length_append] at h2
                    obtain ⟨d1, a1, b1⟩ := ih fuel f.type _ e1 _ hg hy
                    obtain ⟨d2, a2, b2⟩ := ihl _ _ _ hr (by omega) hys
                    refine ⟨d1 ++ d2, FitL.app _ _ _ _ a1 a2, ?_⟩
                    rw [hof.1, hof.2] at b1
                    have := RdAll.app _ _ _ _ b1 b2
                    rwa [show (cs.drop o).take e1.length ++ (cs.drop (o + e1.length)).take r.length = (cs.drop o).take (e1 ++ r).length from by
                      rw [List.length_append, List.take_add, List.drop_drop]] at this
                  · cases h1
                · cases h1
          obtain ⟨ds, a1, b1⟩ := key _ _ _ _ he (by omega) hxs
          refine ⟨ds, a1, ?_⟩
          rw [List.drop_zero, List.take_of_length_le (by omega)] at b1
          exact b1
        · cases hs
      · cases hs
    · cases hs

theorem rows_ord : ∀ (rows : List (List D)), (∀ r, r ∈ rows → FitL [.i, .i, .i, .i] r) → ∃ os : List Ord, rows.flatten = os.flatMap Ord.ds
  | [], _ => ⟨[], rfl⟩
  | r :: rows, h => by
    obtain ⟨os, e⟩ := rows_ord rows (fun r hr => h r (by simp [hr]))
    obtain ⟨d0, r0, rfl, ⟨n0, rfl⟩, d1, r1, rfl, ⟨n1, rfl⟩, d2, r2, rfl, ⟨n2, rfl⟩, d3, r3, rfl, ⟨n3, rfl⟩, h4⟩ := h r (by simp)
    rw [show r3 = [] from h4]
    exact ⟨⟨n0, n1, n2, n3⟩ :: os, by simp [e, Ord.ds]⟩
/-- A parameter that is a program. -/
theorem open_P {H : Type} {enc : TypeId × Value → H} {P : Program} {W : World} {T : TypeId} {fs : Array Field} (hT : P.underlying T = some (.struct fs)) (hS : shapeOf P 6 T = some [.i, .l [.i, .i, .i, .i]]) {v : Value} {d : DataW H} {p : List MemPlace} {base : Nat}
    (hval : Value.okWide P W .any base T v) (h : DataW.Trod enc P W 0 (fun _ => true) true T v d p) : ∃ R a n c, v = .agg #[.int .i64 R, .slice a n c] ∧ n ≤ maxLen ∧ ∃ os : List Ord, os.length = n ∧ SlO (· < W.heap.size) W a os := by
  obtain ⟨cs, rfl, _⟩ := okWide_struct hT hval
  obtain ⟨fuel, hf⟩ := h
  obtain ⟨ds, h1, h2⟩ := trod_rd 6 fuel T _ _ _ hS hf
  obtain ⟨d0, r0, rfl, ⟨R, rfl⟩, d1, r1, rfl, ⟨rows, rfl, hrows⟩, h3⟩ := h1
  rw [show r1 = [] from h3] at h2
  obtain ⟨v0, vr0, e0, hv0, v1, vr1, e1, hv1, e2⟩ := h2
  obtain ⟨os, eo⟩ := rows_ord rows hrows
  rw [eo] at hv1
  obtain ⟨a, c, e3, ho⟩ := Rd_O.1 hv1
  refine ⟨R, a, os.length, c, ?_, ho.len, os, rfl, ho⟩
  rw [show v0 = _ from hv0] at e0
  rw [e3] at e1
  rw [show vr1 = [] from e2] at e1
  rw [e1] at e0
  obtain ⟨l⟩ := cs
  simp only [Value.cells] at e0
  rw [e0]
end Go.Proofs.Ytkjmehpehopncaa

/- Contracts of the small functions on bags: ranges, sizes, looks at lists. -/
namespace Go.Proofs.Ytkjmehpehopncaa
open Go.RowKit

theorem tabI : Tab Try.prog 24 2 (.int .i64 0) 1 8 := ⟨by kernel_rfl, by kernel_rfl⟩

theorem inRange_c (a b c : Int) (w : World) : Calls Try.prog 33 #[.int .i64 a, .int .i64 b, .int .i64 c] w (RetP w (.bool (inRg a b c))) := by
  go_enter Try.func33, Try.ntmps33
  go_wp2
  all_goals (go_ret; refine ⟨ret_bool ?_, rfl⟩)
  · have h : b ≤ a := by assumption
    simp [inRg, h]
  · have h : a < b := by assumption
    simp only [inRg, show ¬ b ≤ a by omega, decide_false, Bool.false_and]
theorem l00In_c (a b c : Int) (w : World) : Calls Try.prog 51 #[.int .i64 a, .int .i64 b, .int .i64 c] w (RetP w (.bool (inRg a b c))) := by
  go_enter Try.func51, Try.ntmps51
  go_wp2
  all_goals (go_ret; refine ⟨ret_bool ?_, rfl⟩)
  · have h : b ≤ a := by assumption
    simp [inRg, h]
  · have h : a < b := by assumption
    simp only [inRg, show ¬ b ≤ a by omega, decide_false, Bool.false_and]
theorem size_int_c (a : Option Addr) (n c : Nat) (w : World) (_hn : n ≤ maxLen) : Calls Try.prog 68 #[.slice a n c] w (RetP w (.int .i64 n)) := by
  unfold maxLen at _hn
  go_enter Try.func68, Try.ntmps68
  go_wp2
  go_ret
  exact ⟨rfl, rfl⟩
set_option maxHeartbeats 400000 in
theorem indexFuncI_c (f : FuncId) (caps : Array Value) (p : Int → Bool) (hcall : ∀ args w, (callFunc f args).run Try.prog w = .ok (.enter f args) w)
   (S : Nat → Prop) (a : Option Addr) (c : Nat) (xs : List Int) (w : World) (hx : SlI S w a xs)
   (hf : Hid (∀ x, Calls Try.prog f (#[.int .i64 x] ++ caps) w (RetP w (.bool (p x))))) :
    Calls Try.prog 59 #[.slice a xs.length c, .func (.func f) #[] caps] w (RetP w (.int .i64 (idxF p xs))) := by
  have l1 := hx.len
  unfold maxLen at l1
  have i1 := hx.ix tabI.under tabI.size c
  go_enter Try.func59, Try.ntmps59
  go_wp2
  go_loopw [5, 8] (fun _ i wr => ∃ k : Nat, k ≤ xs.length ∧ i = .int .i64 k ∧ w = wr ∧ (∀ j, j < k → p (nth xs j) = false)) (fun _ i _ => xs.length - (intOf i).toNat)
  case atStart => exact ⟨0, Nat.zero_le _, rfl, rfl, by omega⟩
  case round =>
      obtain ⟨k, hk, rfl, rfl, hj⟩ := hrel
      have HJ := Lib.hid hj
      clear hj
      by_cases hlt : k < xs.length
      · have g1 := hx.cell k hlt
        go_wp2_with fail
        refine (hf.out _).mono ?_
        rintro e w' ⟨rfl, rfl⟩
        cases hp : p (nth xs k)
        · have hp' := Lib.hid hp
          clear hp
          go_wp2
          go_roundw
          case rel => exact ⟨k + 1, by omega, by go_num, trivial, upto HJ.out hp'.out⟩
          case measure => simp [intOf]; omega
        · go_wp2
          go_ret
          exact ⟨ret_int (idxF_at hlt HJ.out hp).symm, rfl⟩
      · go_wp2
        go_ret
        have e : k = xs.length := by omega
        exact ⟨ret_int (idxF_none (e ▸ HJ.out)).symm, rfl⟩
theorem containsFuncI_c (f : FuncId) (caps : Array Value) (p : Int → Bool) (hcall : ∀ args w, (callFunc f args).run Try.prog w = .ok (.enter f args) w)
   (S : Nat → Prop) (a : Option Addr) (c : Nat) (xs : List Int) (w : World) (hx : SlI S w a xs)
   (hf : Hid (∀ x, Calls Try.prog f (#[.int .i64 x] ++ caps) w (RetP w (.bool (p x))))) :
    Calls Try.prog 39 #[.slice a xs.length c, .func (.func f) #[] caps] w (RetP w (.bool (anyB p xs))) := by
  go_enter Try.func39, Try.ntmps39
  go_wp2_with fail
  refine (indexFuncI_c f caps p hcall S a c xs w hx hf).mono ?_
  rintro e w' ⟨rfl, rfl⟩
  go_wp2
  go_ret
  exact ⟨ret_bool (idxF_any p xs), rfl⟩
theorem validBag1_c (n : Int) (w : World) : Calls Try.prog 80 #[.int .i64 n] w (RetP w (.bool (!cntOk n))) := by
  go_enter Try.func80, Try.ntmps80
  go_wp2_with fail
  refine (inRange_c _ _ _ _).mono ?_
  rintro e w' ⟨rfl, rfl⟩
  go_wp2
  go_ret
  exact ⟨rfl, rfl⟩
set_option maxHeartbeats 400000 in
theorem validBag_c (kinds : Int) (S : Nat → Prop) (a : Option Addr) (c : Nat) (xs : List Int) (w : World) (hx : SlI S w a xs) :
    Calls Try.prog 72 #[.int .i64 kinds, .slice a xs.length c] w (RetP w (.bool (validBagS kinds xs))) := by
  have l1 := hx.len
  have hcf := containsFuncI_c 80 #[] (fun n => !cntOk n) (callFunc_run Try.func80 (by kernel_rfl) rfl) S a c xs w hx (Lib.hid fun x => validBag1_c x w)
  rw [anyB_not] at hcf
  have Hcf := Lib.hid hcf
  clear hcf
  cases h1 : inRg kinds 1 8
  · have H1 := Lib.hid h1
    clear h1
    go_enter Try.func72, Try.ntmps72
    go_wp2_with fail
    refine (inRange_c _ _ _ _).mono ?_
    rintro e w' ⟨rfl, rfl⟩
    rw [H1.out]
    go_wp2
    go_ret
    refine ⟨ret_bool ?_, rfl⟩
    symm
    have := H1.out
    by_cases hk : (xs.length : Int) = kinds
    · subst hk; simp [validBagS, isBagS, this]
    · simp [validBagS, hk]
  · have H1 := Lib.hid h1
    clear h1
    cases h2 : ((xs.length : Int) == kinds)
    · have H2 := Lib.hid h2
      go_enter Try.func72, Try.ntmps72
      go_wp2_with fail
      refine (inRange_c _ _ _ _).mono ?_
      rintro e w' ⟨rfl, rfl⟩
      rw [H1.out]
      go_wp2_with fail
      refine (size_int_c _ _ _ _ l1).mono ?_
      rintro e w' ⟨rfl, rfl⟩
      go_wp2
      go_ret
      exact ⟨ret_bool (by rw [validBagS, H2.out]; simp), rfl⟩
    · have H2 := Lib.hid h2
      go_enter Try.func72, Try.ntmps72
      go_wp2_with fail
      refine (inRange_c _ _ _ _).mono ?_
      rintro e w' ⟨rfl, rfl⟩
      rw [H1.out]
      go_wp2_with fail
      refine (size_int_c _ _ _ _ l1).mono ?_
      rintro e w' ⟨rfl, rfl⟩
      go_wp2_with fail
      refine Hcf.out.mono ?_
      rintro e w' ⟨rfl, rfl⟩
      go_wp2
      go_ret
      refine ⟨ret_bool ?_, rfl⟩
      have hk : (xs.length : Int) = kinds := by simpa using H2.out
      have h1' := H1.out
      subst hk
      simp [validBagS, isBagS, h1']
set_option maxHeartbeats 400000 in
theorem bagSize_c (S : Nat → Prop) (a : Option Addr) (c : Nat) (xs : List Int) (w : World) (hx : SlI S w a xs) :
    Calls Try.prog 53 #[.slice a xs.length c] w (RetP w (.int .i64 (sumS xs))) := by
  have l1 := hx.len
  unfold maxLen at l1
  have i1 := hx.ix tabI.under tabI.size c
  go_enter Try.func53, Try.ntmps53
  go_wp2
  go_loopw [3, 5, 8] (fun s _ i wr => ∃ k : Nat, k ≤ xs.length ∧ i = .int .i64 k ∧ w = wr ∧ s = .int .i64 (sumTo xs k)) (fun _ _ i _ => xs.length - (intOf i).toNat)
  case atStart => exact ⟨0, Nat.zero_le _, rfl, rfl, rfl⟩
  case round =>
      obtain ⟨k, hk, rfl, rfl, rfl⟩ := hrel
      by_cases hlt : k < xs.length
      · have g1 := hx.cell k hlt
        go_wp2
        go_roundw
        case rel => exact ⟨k + 1, by omega, by go_num, trivial, rfl⟩
        case measure => simp [intOf]; omega
      · go_wp2
        go_ret
        have e : k = xs.length := by omega
        exact ⟨ret_int (by rw [e]; rfl), rfl⟩
/- Contracts of the functions on bags that look at two bags, add, scale and weigh. -/
set_option maxHeartbeats 400000 in
theorem both_c (f : FuncId) (caps : Array Value) (g : Int → Int → Int) (hcall : ∀ args w, (callFunc f args).run Try.prog w = .ok (.enter f args) w)
   (S : Nat → Prop) (a b : Option Addr) (c c' : Nat) (xs ys : List Int) (w : World) (hx : SlI S w a xs) (hy : SlI S w b ys) (hl : xs.length ≤ ys.length) (l1 : xs.length ≤ 4294967296)
   (hf : Hid (∀ x y w', Below w.heap.size w w' → Calls Try.prog f (#[.int .i64 x, .int .i64 y] ++ caps) w' (RetP w' (.int .i64 (g x y))))) :
    Calls Try.prog 75 #[.slice a xs.length c, .slice b ys.length c', .func (.func f) #[] caps] w (RetD w (dI (zipF g xs ys xs.length))) := by
  have i1 := hx.ix tabI.under tabI.size c
  have i2 := hy.ix tabI.under tabI.size c'
  go_enter Try.func75, Try.ntmps75
  go_wp2
  go_loopw [7, 8, 9, 13] (fun v _ _ i wr => ∃ k : Nat, k ≤ xs.length ∧ i = .int .i64 k ∧ Below w.heap.size w wr ∧ Bld 2 wr w.heap.size v ((zipF g xs ys k).map (.int .i64))) (fun _ _ _ i _ => xs.length - (intOf i).toNat)
  case atStart => exact ⟨0, Nat.zero_le _, rfl, (Below.refl _ _).alloc (Nat.le_refl _) _, Bld.empty 2 w _ (Nat.le_refl _)⟩
  case round =>
      obtain ⟨k, hk, rfl, hb, hbl⟩ := hrel
      by_cases hlt : k < xs.length
      · have g1 := (hx.below hb).cell k hlt
        have g2 := (hy.below hb).cell k (by omega)
        have k2 : (k : Int) < ys.length := by omega
        go_wp2_with fail
        refine (hf.out _ _ _ hb).mono ?_
        rintro e w' ⟨rfl, rfl⟩
        have hbl' := hbl.below (below_alloc wr (.cells #[.int .i64 (g (nth xs k) (nth ys k))] 2))
        have hz := hb.size
        have HB := Lib.hid hb
        clear g1 g2 hb
        go_wp2_with (at_builtin; refine app_one rfl _ _ 24 rfl tabI rfl (by decide) w.heap.size _ _ rfl hbl' wr.heap.size (.int .i64 (g (nth xs k) (nth ys k))) rfl rfl ?c1 ?c2 ?c3 ?_)
        case c1 => simp
        case c2 => simp [zipF_len]; omega
        case c3 => simp; omega
        intro v' w1 hbl1 hb1
        rw [zipF_succ] at hbl1
        go_wp2
        go_roundw
        case rel => exact ⟨k + 1, by omega, by go_num, (HB.out.alloc hz _).trans hb1, hbl1⟩
        case measure => simp [intOf]; omega
      · go_wp2
        go_ret
        obtain rfl : k = xs.length := by omega
        exact RetD.ofBld hbl (by rw [zipF_len]; unfold maxLen; omega) hb
theorem plus1_c (x y f : Int) (p : Addr) (w : World) (h : w.cell? p = some (.int .i64 f)) : Calls Try.prog 76 #[.int .i64 x, .int .i64 y, .pointer (some p)] w (RetP w (.int .i64 (addW f x y))) := by
  go_enter Try.func76, Try.ntmps76
  go_wp2
  go_ret
  exact ⟨rfl, rfl⟩
set_option maxHeartbeats 400000 in
theorem plus_c (S : Nat → Prop) (a b : Option Addr) (c c' : Nat) (xs ys : List Int) (f : Int) (w : World) (hx : SlI S w a xs) (hy : SlI S w b ys) (hl : xs.length ≤ ys.length) (l1 : xs.length ≤ 4294967296) :
    Calls Try.prog 65 #[.slice a xs.length c, .slice b ys.length c', .int .i64 f] w (RetD w (dI (plusS xs ys f))) := by
  have hb0 := below_alloc w (.cells #[.int .i64 f] 2)
  have HC := Lib.hid (both_c 76 #[.pointer (some ⟨w.heap.size, 0, none⟩)] (addW f) (callFunc_run Try.func76 (by kernel_rfl) rfl) S a b c c' xs ys _ (hx.below hb0) (hy.below hb0) hl l1
    (Lib.hid fun x y w' hb => plus1_c x y f ⟨w.heap.size, 0, none⟩ w' (by rw [hb.cell (p := ⟨w.heap.size, 0, none⟩) (by simp)]; simp)))
  have HB := Lib.hid hb0
  clear hb0
  go_enter Try.func65, Try.ntmps65
  go_wp2_with fail
  refine HC.out.mono ?_
  intro e w' h
  have h' := RetD.from HB.out h
  obtain ⟨v, F, rfl, h1⟩ := h'
  have H1 := Lib.hid h1
  clear h1 h
  go_wp2
  go_ret
  exact ⟨v, F, rfl, H1.out⟩
end Go.Proofs.Ytkjmehpehopncaa

/- Contracts of the laws' own functions on lists of numbers: copy, compare, mark, look at marks. -/
namespace Go.Proofs.Ytkjmehpehopncaa
open Go.RowKit

/-- Behind k marks. -/
structure Mkd (F : List Nat) (w wr : World) (a : Option Addr) (xs : List Int) (m : Int) (k : Nat) : Prop where
  exc : Exc F w wr
  done : ∀ i, i < k → wr.cell? (adr a i) = some (.int .i64 (m + i))
  rest : ∀ i, k ≤ i → i < xs.length → wr.cell? (adr a i) = some (.int .i64 (nth xs i))
  free : ∀ i, i < xs.length → wr.frozen? (adr a i) = false
theorem adr_ne {a : Option Addr} {i j : Nat} (h : i ≠ j) : adr a i ≠ adr a j := by
  intro e; simp [adr] at e; omega
theorem Mkd.next {F : List Nat} {w wr : World} {a : Option Addr} {xs : List Int} {m : Int} {k : Nat} (h : Mkd F w wr a xs m k) (hk : k < xs.length) (hF : blk a ∈ F) : Mkd F w (wr.setCell (adr a k) (.int .i64 (m + k))) a xs m (k + 1) :=
  ⟨h.exc.trans ((Exc.setCell wr (adr a k) _).wider (by intro g hg; simp at hg; subst hg; exact hF)), fun i hi => by
      by_cases e : i = k
      · subst e; exact World.cell?_setCell_same wr _ _ (h.rest i (Nat.le_refl _) hk)
      · rw [World.cell?_setCell_other _ _ _ _ (adr_ne (Ne.symm e))]; exact h.done i (by omega),
    fun i hi hx => by rw [World.cell?_setCell_other _ _ _ _ (adr_ne (by omega))]; exact h.rest i (by omega) hx,
    fun i hi => by rw [World.frozen?_setCell]; exact h.free i hi⟩
/- Contracts of the functions that compare lists of numbers, lists of lists, lists of bools; and of the laws' sizes. -/
theorem tabII : Tab Try.prog 29 24 (.slice none 0 0) 1 24 := ⟨by kernel_rfl, by kernel_rfl⟩
theorem eq_of_nth {xs ys : List Int} (hl : xs.length = ys.length) (h : ∀ j, j < xs.length → nth xs j = nth ys j) : xs = ys := by
  refine List.ext_getElem hl fun i h1 h2 => ?_
  have := h i h1
  rwa [nth_lt h1, nth_lt h2] at this
theorem eq_of_nthR {xs ys : List (List Int)} (hl : xs.length = ys.length) (h : ∀ j, j < xs.length → nthR xs j = nthR ys j) : xs = ys := by
  refine List.ext_getElem hl fun i h1 h2 => ?_
  have := h i h1
  rwa [nthR_lt h1, nthR_lt h2] at this
theorem stillP {P : Program} {f : FuncId} {args : Array Value} {w : World} {n : Nat} {v : Value} (h : Calls P f args (w.drewN n) (RetP (w.drewN n) v)) : Calls P f args (w.drewN n) fun e w'' => e = .returned v ∧ ∃ m, w'' = w.drewN m :=
  h.mono fun _ _ ⟨he, hm⟩ => ⟨he, n, hm.symm⟩
theorem stillQ {P : Program} {f : FuncId} {args : Array Value} {w : World} {n : Nat} {v : Value} (h : Calls P f args (w.drewN n) (RetQ (w.drewN n) v)) : Calls P f args (w.drewN n) fun e w'' => e = .returned v ∧ ∃ m, w'' = w.drewN m :=
  h.mono fun _ _ ⟨he, m, hm⟩ => ⟨he, n + m, by rw [hm, World.drewN_drewN]⟩
theorem stillP2 {P : Program} {f : FuncId} {args : Array Value} {w : World} {n a : Nat} {v : Value} (h : Calls P f args (w.drewN (n + a)) (RetP (w.drewN (n + a)) v)) : Calls P f args (w.drewN (n + a)) fun e w'' => e = .returned v ∧ ∃ m, w'' = w.drewN (n + m) :=
  h.mono fun _ _ ⟨he, hm⟩ => ⟨he, a, hm.symm⟩
theorem stillQ2 {P : Program} {f : FuncId} {args : Array Value} {w : World} {n a : Nat} {v : Value} (h : Calls P f args (w.drewN (n + a)) (RetQ (w.drewN (n + a)) v)) : Calls P f args (w.drewN (n + a)) fun e w'' => e = .returned v ∧ ∃ m, w'' = w.drewN (n + m) :=
  h.mono fun _ _ ⟨he, m, hm⟩ => ⟨he, a + m, by rw [hm, World.drewN_drewN, Nat.add_assoc]⟩
/-- Are two lists the same? -/
def eqI (xs ys : List Int) : Bool := decide (xs = ys)
def eqII (xs ys : List (List Int)) : Bool := decide (xs = ys)
theorem eqI_len {xs ys : List Int} (h : ¬ xs.length = ys.length) : eqI xs ys = false := decide_eq_false fun e => h (by rw [e])
theorem eqI_false {xs ys : List Int} {j : Nat} (h : ¬ nth xs j = nth ys j) : eqI xs ys = false := decide_eq_false fun e => h (by rw [e])
theorem eqI_true {xs ys : List Int} (hl : xs.length = ys.length) (h : ∀ j, j < xs.length → nth xs j = nth ys j) : eqI xs ys = true := decide_eq_true (eq_of_nth hl h)
theorem eqI_refl (xs : List Int) : eqI xs xs = true := decide_eq_true rfl
theorem eqI_eq {xs ys : List Int} (h : eqI xs ys = true) : xs = ys := of_decide_eq_true h
theorem eqI_ne {xs ys : List Int} (h : eqI xs ys = false) : xs ≠ ys := of_decide_eq_false h
theorem eqII_len {xs ys : List (List Int)} (h : ¬ xs.length = ys.length) : eqII xs ys = false := decide_eq_false fun e => h (by rw [e])
theorem eqII_false {xs ys : List (List Int)} {j : Nat} (h : eqI (nthR xs j) (nthR ys j) = false) : eqII xs ys = false := decide_eq_false fun e => eqI_ne h (by rw [e])
theorem eqII_true {xs ys : List (List Int)} (hl : xs.length = ys.length) (h : ∀ j, j < xs.length → eqI (nthR xs j) (nthR ys j) = true) : eqII xs ys = true := decide_eq_true (eq_of_nthR hl fun j hj => eqI_eq (h j hj))
theorem eqII_refl (xs : List (List Int)) : eqII xs xs = true := decide_eq_true rfl
theorem eqII_eq {xs ys : List (List Int)} (h : eqII xs ys = true) : xs = ys := of_decide_eq_true h
/-- What is left when lists have been weighed, one by one; -1 if it isn't enough. -/
def szNext (left : Int) (xs : List Int) : Int := if left < xs.length then -1 else left - xs.length
def szII (left : Int) (xs : List (List Int)) : Int := if left < xs.length then -1 else (xs.foldl (fun l r => if l < 0 then l else szNext l r) (left - xs.length))
end Go.Proofs.Ytkjmehpehopncaa
