/- Configs whose registers lie in memory that is shared; values that are sorted. -/
import Derived.Test.YtncndnholheemaaHV
import Derived.Test.YtncndnholheemaaK
import Derived.Sort.OwnSortedInts
namespace Go.Proofs.Ytncndnholheemaa
open Go.RowKit

/-- 'append' onto a list of one's own: what the old cells hold. -/
theorem run_app2 {P : Program} (w : World) (base : Nat) (t ty e : TypeId) (i : TypeInfo) (z : Value) (size bytes : Nat) (ht : P.underlying t = some (.slice e)) (hi : P.info? e = some i) (hz : i.zero = some z)
    (hsize : i.size = size) (hby : i.bytes = bytes) (hzs : z.cells.size = size) (hsz : 0 < size)
    (v : Value) (n : Nat) (xs : List Value) (hown : w.ownsRow base e size v n xs)
    (a : Addr) (m c : Nat) (news : List Value) (hl : news.length = m * size) (hnews : ∀ j u, news[j]? = some u → w.cell? (a.add j) = some u) (h1 : ∀ u ∈ news, u.oneCell' = true)
    (h63 : n + m ≤ maxLen) (hbytes : (n + m) * bytes ≤ 140737488355328) (hbase : base ≤ w.heap.size) (hm : 0 < m) :
    ∃ v' w', (Builtin.append_ #[t, t] ty #[v, .slice (some a) m c]).run P w = .ok v' w' ∧ w'.ownsRow base e size v' (n + m) (xs ++ news) ∧ w.grownBy w' v.ownBlock ∧
      (∀ g, v'.ownBlock = some g → v.ownBlock = some g ∨ w.heap.size ≤ g) ∧ (∀ g, v.ownBlock = some g → ∀ j u, xs[j]? = some u → w'.cell? ⟨g, j, none⟩ = some u) := by
  obtain ⟨v', w', hr, h2, h3, h4⟩ := run_app (P := P) (ty := ty) w base t e i z size bytes ht hi hz hsize hby hzs hsz v n xs hown a m c news hl hnews h1 h63 hbytes hbase hm
  refine ⟨v', w', hr, h2, h3, h4, fun g hg j u hu => ?_⟩
  have hsmall : n + m ≤ 9223372036854775807 := by simp only [maxLen] at h63; omega
  subst hsize
  subst hby
  have hlt := hown.lt g hg
  have holds : w.cell? ⟨g, j, none⟩ = some u := by
    have := hown.cells (g := g) hg j u hu
    rwa [Addr.add_lit, Nat.zero_add] at this
  rcases hown.2 with ⟨rfl, rfl⟩ | ⟨g', cap, cur, rfl, hbg, hgh, hnc, hcm, hcs, htake⟩
  · cases hg
  · obtain rfl : g' = g := by simpa [Value.ownBlock] using hg
    by_cases hroom : n + m ≤ cap
    · have hfit : n * i.size + news.length ≤ cur.size := by rw [hl, hcs, ← Nat.add_mul]; exact Nat.mul_le_mul_right _ hroom
      have hr2 := run_append_room (P := P) w t ty e i ht hi g' n cap cur hgh a m c news hl hnews h1 hroom hfit
      rw [hr] at hr2
      injection hr2 with e1 e2
      subst e1
      have hj : j < xs.length := (List.getElem?_eq_some_iff.1 hu).1
      have := h2.cells (g := g') rfl j u (by rw [List.getElem?_append_left hj]; exact hu)
      rwa [Addr.add_lit, Nat.zero_add] at this
    · have holds2 : ∀ j u, xs[j]? = some u → w.cell? ((⟨g', 0, none⟩ : Addr).add j) = some u := hown.cells (g := g') rfl
      have hr2 := run_append_grow (P := P) w t ty e i z ht hi hz ⟨g', 0, none⟩ n cap xs hown.1 holds2 a m c news hl hnews (by omega) (by omega) (growslice_fits (by omega) hbytes)
      rw [hr] at hr2
      injection hr2 with e1 e2
      rw [e2]
      have hb : Below w.heap.size w (w.drew.alloc (.cells (xs.toArray ++ news.toArray ++ Builtin.zeroCells z.cells (grownCap w (n + m) cap e - (n + m))) e)) := (Below.refl _ w).drew.alloc (by simp) _
      exact (hb.cell (p := ⟨g', j, none⟩) hlt.2).trans holds
/-- A config as it lies in memory. -/
structure CfM where
  c : Cfg
  a : Option Addr
  n : Nat
def CfM.vs (t : CfM) : List Value := [.int .i64 t.c.pc, .slice t.a t.c.regs.length t.n]
def vsC (L : List CfM) : List Value := L.flatMap CfM.vs
theorem vsC_len : ∀ L : List CfM, (vsC L).length = L.length * 2
  | [] => rfl
  | t :: L => by have := vsC_len L; simp only [vsC, List.flatMap_cons, List.length_append, List.length_cons, CfM.vs, List.length_nil] at *; omega
theorem vsC_get : ∀ (L : List CfM) (i j : Nat) (t : CfM), L[i]? = some t → j < 2 → (vsC L)[i * 2 + j]? = t.vs[j]?
  | [], i, j, t, h, _ => by simp at h
  | s :: L, 0, j, t, h, hj => by
    simp at h; subst h
    simp only [Nat.zero_mul, Nat.zero_add, vsC, List.flatMap_cons]
    rw [List.getElem?_append_left (by simpa [CfM.vs] using hj)]
  | s :: L, i + 1, j, t, h, hj => by
    have ih := vsC_get L i j t (by simpa using h) hj
    simp only [vsC, List.flatMap_cons]
    rw [List.getElem?_append_right (by simp [CfM.vs]; omega), ← ih]
    congr 1
    simp [CfM.vs]; omega
theorem vsC_one (L : List CfM) : ∀ u ∈ vsC L, u.oneCell' = true := fun u hu => by
  simp only [vsC, List.mem_flatMap] at hu
  obtain ⟨t, _, ht⟩ := hu
  simp [CfM.vs] at ht
  rcases ht with rfl | rfl <;> simp [Value.oneCell']
/-- v is a list of configs that is being built: its own cells are its own, the registers lie elsewhere. -/
structure CfR (E : TypeId) (w : World) (B : Nat) (v : Value) (cs : List Cfg) : Prop where
  ex : ∃ L : List CfM, L.map CfM.c = cs ∧ w.ownsRow B E 2 v cs.length (vsC L) ∧ ∀ t, t ∈ L → SlI (fun g => g ∉ ob v) w t.a t.c.regs
/-- Registers that lie outside of some blocks. -/
theorem SlI.move {S T : Nat → Prop} {w w' : World} {a : Option Addr} {xs : List Int} (h : SlI S w a xs) (hs : ∀ k, k < w.heap.size → S k → w'.heap[k]? = w.heap[k]?) (ht : ∀ k, k < w.heap.size → S k → T k) : SlI T w' a xs := by
  refine ⟨h.len, fun h0 => ⟨?_, (h.ptr h0).2⟩, fun i hi => ?_⟩
  · have := World.block_lt_of_cell? w _ (h.cell 0 h0)
    exact ht _ this (h.ptr h0).1
  · have hb := World.block_lt_of_cell? w _ (h.cell i hi)
    rw [World.cell?_of_block (w := w) (hs _ hb (h.ptr (by omega)).1)]
    exact h.cell i hi
theorem CfR.below {E : TypeId} {w w' : World} {B : Nat} {v : Value} {cs : List Cfg} (h : CfR E w B v cs) (hb : Below w.heap.size w w') : CfR E w' B v cs := by
  obtain ⟨L, h1, h2, h3⟩ := h.ex
  exact ⟨L, h1, ownsRow_kept h2 (fun g hg => hb.block g (ob_lt h2 g hg).2), fun t ht => (h3 t ht).below hb⟩
theorem CfR.lt {E : TypeId} {w : World} {B : Nat} {v : Value} {cs : List Cfg} (h : CfR E w B v cs) : ∀ g, g ∈ ob v → B ≤ g ∧ g < w.heap.size := by
  obtain ⟨L, h1, h2, h3⟩ := h.ex
  exact ob_lt h2
theorem CfR.val {E : TypeId} {w : World} {B : Nat} {v : Value} {cs : List Cfg} (h : CfR E w B v cs) (h0 : 0 < cs.length) : ∃ g c, v = .slice (some ⟨g, 0, none⟩) cs.length c ∧ cs.length ≤ c := by
  obtain ⟨L, h1, h2, h3⟩ := h.ex
  rcases h2.2 with ⟨_, h⟩ | ⟨g, cap, cur, h1, _, _, hn, _⟩
  · omega
  · exact ⟨g, cap, h1, hn⟩
/-- The cells of such a list, at whatever place it has lain. -/
structure VwC (w : World) (S : Nat → Prop) (g : Nat) (cs : List Cfg) : Prop where
  c0 : ∀ i, i < cs.length → w.cell? ⟨g, i * 2, none⟩ = some (.int .i64 (nthCfg cs i).pc)
  c1 : ∀ i, i < cs.length → ∃ a c, w.cell? ⟨g, i * 2 + 1, none⟩ = some (.slice a (nthCfg cs i).regs.length c) ∧ SlI S w a (nthCfg cs i).regs
theorem CfR.vw {E : TypeId} {w : World} {B g n c : Nat} {cs : List Cfg} (h : CfR E w B (.slice (some ⟨g, 0, none⟩) n c) cs) : VwC w (fun x => x ≠ g) g cs := by
  obtain ⟨L, h1, h2, h3⟩ := h.ex
  have hL : L.length = cs.length := by rw [← h1]; simp
  have key : ∀ i (hi : i < cs.length), ∃ t, L[i]? = some t ∧ t.c = nthCfg cs i ∧ t ∈ L := fun i hi => by
    refine ⟨L[i], by simp, ?_, List.getElem_mem (by omega)⟩
    rw [nthCfg_lt hi]
    subst h1
    simp
  have cell : ∀ i j u (t : CfM), L[i]? = some t → j < 2 → t.vs[j]? = some u → w.cell? ⟨g, i * 2 + j, none⟩ = some u := fun i j u t ht hj hu => by
    have := h2.cells (g := g) rfl (i * 2 + j) u (by rw [vsC_get L i j t ht hj]; exact hu)
    rwa [Addr.add_lit, Nat.zero_add] at this
  refine ⟨fun i hi => ?_, fun i hi => ?_⟩
  · obtain ⟨t, ht, hc, _⟩ := key i hi
    have := cell i 0 _ t ht (by omega) rfl
    rw [hc] at this; exact this
  · obtain ⟨t, ht, hc, hm⟩ := key i hi
    have := cell i 1 _ t ht (by omega) rfl
    rw [hc] at this
    refine ⟨t.a, t.n, this, ?_⟩
    rw [← hc]
    have h := h3 t hm
    refine ⟨h.len, fun h0 => ⟨fun e => (h.ptr h0).1 (mem_ob.2 (by rw [e]; rfl)), (h.ptr h0).2⟩, h.cell⟩
theorem VwC.below {w w' : World} {S : Nat → Prop} {g : Nat} {cs : List Cfg} (h : VwC w S g cs) (hb : Below w.heap.size w w') : VwC w' S g cs :=
  ⟨fun i hi => (hb.cell (World.block_lt_of_cell? w _ (h.c0 i hi))).trans (h.c0 i hi), fun i hi => by
    obtain ⟨a, c, h1, h2⟩ := h.c1 i hi
    exact ⟨a, c, (hb.cell (World.block_lt_of_cell? w _ h1)).trans h1, h2.below hb⟩⟩
/-- What one config more brings. -/
structure CfNext (E : TypeId) (w w' : World) (B : Nat) (v v' : Value) (cs : List Cfg) (c : Cfg) : Prop where
  row : CfR E w' B v' (cs ++ [c])
  chg : Chg (ob v) w w'
  mem : ∀ g, g ∈ ob v' → g ∈ ob v ∨ w.heap.size ≤ g
  old : ∀ g, g ∈ ob v → ∀ j u, j < cs.length * 2 → w.cell? ⟨g, j, none⟩ = some u → w'.cell? ⟨g, j, none⟩ = some u
/-- An old place of the list, behind one config more. -/
theorem CfNext.vw {E : TypeId} {w w' : World} {B g : Nat} {v v' : Value} {cs pre : List Cfg} {c : Cfg} (h : CfNext E w w' B v v' cs c) (hv : VwC w (fun x => x ∉ ob v) g pre) (hp : pre.length ≤ cs.length) : VwC w' (fun x => x ∉ ob v') g pre := by
  have key : ∀ j u, j < pre.length * 2 → w.cell? ⟨g, j, none⟩ = some u → w'.cell? ⟨g, j, none⟩ = some u := fun j u hj hu => by
    by_cases hg : g ∈ ob v
    · exact h.old g hg j u (by omega) hu
    · rw [h.chg.cell (World.block_lt_of_cell? w _ hu) hg j]; exact hu
  refine ⟨fun i hi => key _ _ (by omega) (hv.c0 i hi), fun i hi => ?_⟩
  obtain ⟨a, n, h1, h2⟩ := hv.c1 i hi
  refine ⟨a, n, key _ _ (by omega) h1, h2.move (fun k hk hs => h.chg.block k hk hs) (fun k hk hs e => ?_)⟩
  rcases h.mem k e with e | e
  · exact hs e
  · omega
theorem run_cfr {P : Program} {w : World} {B : Nat} {T ty E : TypeId} {bytes : Nat} {z : Value} (tab : Tab P T E z 2 bytes) (hzs : z.cells.size = 2) (hby : bytes ≤ 1024)
    {v : Value} {cs : List Cfg} (h : CfR E w B v cs) {g : Nat} (c : Cfg) (a : Option Addr) (n : Nat) (h0 : w.cell? ⟨g, 0, none⟩ = some (.int .i64 c.pc)) (h1 : w.cell? ⟨g, 1, none⟩ = some (.slice a c.regs.length n)) (hs : SlI (fun g => g ∉ ob v) w a c.regs) (hlen : cs.length < 4294967296) (hB : B ≤ w.heap.size) :
    ∃ v' w', (Builtin.append_ #[T, T] ty #[v, .slice (some ⟨g, 0, none⟩) 1 1]).run P w = .ok v' w' ∧ CfNext E w w' B v v' cs c := by
  obtain ⟨L, q1, q2, q3⟩ := h.ex
  obtain ⟨i0, hi, hz0, hz1, hz2⟩ := info_parts tab.info
  obtain ⟨v', w', e, o1, o2, o3, o4⟩ := run_app2 (P := P) w B T ty E i0 z 2 bytes tab.under hi hz0 hz1 hz2 hzs (by omega) v cs.length (vsC L) q2 ⟨g, 0, none⟩ 1 1 (CfM.vs ⟨c, a, n⟩) rfl (fun j u hu => by
      rw [Addr.add_lit, Nat.zero_add]
      match j, hu with
      | 0, hu => (simp [CfM.vs] at hu; subst hu; exact h0)
      | 1, hu => (simp [CfM.vs] at hu; subst hu; exact h1)) (by simp [CfM.vs, Value.oneCell']) (by unfold maxLen; omega)
    (by have : (cs.length + 1) * bytes ≤ 4294967296 * 1024 := Nat.mul_le_mul (by omega) hby
        omega) hB (by omega)
  have hc := grown_chg o2
  have hmem : ∀ g, g ∈ ob v' → g ∈ ob v ∨ w.heap.size ≤ g := fun g hg => by
    rcases o3 g (mem_ob.1 hg) with h | h
    · exact .inl (mem_ob.2 h)
    · exact .inr h
  have mv : ∀ (a : Option Addr) (xs : List Int), SlI (fun g => g ∉ ob v) w a xs → SlI (fun g => g ∉ ob v') w' a xs := fun a xs h =>
    h.move (fun k hk hs => hc.block k hk hs) (fun k hk hs e => by rcases hmem k e with e | e; exact hs e; omega)
  refine ⟨v', w', e, ⟨⟨L ++ [⟨c, a, n⟩], by simp [q1], ?_, fun t ht => ?_⟩, hc, hmem, fun g hg j u hj hu => ?_⟩⟩
  · have e1 : vsC (L ++ [⟨c, a, n⟩]) = vsC L ++ CfM.vs ⟨c, a, n⟩ := by simp [vsC]
    rw [e1, List.length_append]; exact o1
  · rcases List.mem_append.1 ht with ht | ht
    · exact mv _ _ (q3 t ht)
    · simp at ht; subst ht; exact mv _ _ hs
  · have hv := vsC_len L
    have hL : L.length = cs.length := by rw [← q1]; simp
    have hx : (vsC L)[j]? = some ((vsC L)[j]'(by omega)) := List.getElem?_eq_getElem (by omega)
    have h8 := q2.cells (g := g) (mem_ob.1 hg) j _ hx
    rw [Addr.add_lit, Nat.zero_add] at h8
    rw [h8] at hu
    cases hu
    exact o4 g (mem_ob.1 hg) j _ hx
/-- 'append(v, config)' in the order of the text. -/
theorem app_cfr {P : Program} {ops : Array Oper} {rest : List Oper} {o : Oper} {ac : Act} {Q : Exit → Act → World → Prop} {w : World} (hgd : o.guard = none) (s x : Operand) (T : TypeId)
    (ho : o.op = .call { callee := .builtin .append, args := #[s, x], argTypes := #[T, T] }) {E bytes : Nat} {z : Value} (tab : Tab P T E z 2 bytes) (hzs : z.cells.size = 2) (hby : bytes ≤ 1024)
    (B : Nat) (v : Value) (cs : List Cfg) (hs : ac.eval s = v) (h : CfR E w B v cs) (g : Nat) (c : Cfg) (a : Option Addr) (n : Nat) (hx : ac.eval x = .slice (some ⟨g, 0, none⟩) 1 1) (h0 : w.cell? ⟨g, 0, none⟩ = some (.int .i64 c.pc)) (h1 : w.cell? ⟨g, 1, none⟩ = some (.slice a c.regs.length n)) (hsl : SlI (fun g => g ∉ ob v) w a c.regs) (hlen : cs.length < 4294967296) (hB : B ≤ w.heap.size)
    (K : ∀ v' w', CfNext E w w' B v v' cs c → wpList P ops Q rest (ac.put o.dst v') w') : wpList P ops Q (o :: rest) ac w := by
  refine wpList_plain hgd fun _ hK => ?_
  obtain ⟨v', w', e, hn⟩ := run_cfr (P := P) (ty := o.type) tab hzs hby h c a n h0 h1 hsl hlen hB
  unfold Oper.wp execOp
  simp only [ho, resolve, invoke, builtin, Sem.run_bind, Sem.run_pure, Result.andThen_ok, List.map_toArray, List.map_cons, List.map_nil, hs, hx, e]
  exact hK _ _ (K v' w' hn)
/-- A list of one config. -/
theorem CfR.one {E : TypeId} {w : World} {B : Nat} (c : Cfg) (a : Option Addr) (n : Nat) (hs : SlI Any w a c.regs) (hB : B ≤ w.heap.size) : CfR E (w.alloc (.cells #[.int .i64 c.pc, .slice a c.regs.length n] E)) B (.slice (some ⟨w.heap.size, 0, none⟩) 1 1) [c] := by
  refine ⟨[⟨c, a, n⟩], rfl, ⟨by simp [vsC, CfM.vs], .inr ⟨w.heap.size, 1, _, rfl, hB, heap_alloc_new w _, Nat.le_refl _, by simp [maxLen], rfl, by simp [vsC, CfM.vs]⟩⟩, fun t ht => ?_⟩
  simp at ht; subst ht
  exact hs.move (fun k hk _ => (below_alloc w _).block k hk) (fun k hk _ e => by have := mem_ob.1 e; simp [Value.ownBlock] at this; omega)
/-- Of a list of one's own, the first part. -/
theorem Bld.first {E : Nat} {w : World} {B g n c : Nat} {xs ys : List Value} (h : Bld E w B (.slice (some ⟨g, 0, none⟩) n c) (xs ++ ys)) : Bld E w B (.slice (some ⟨g, 0, none⟩) xs.length c) xs := by
  obtain ⟨h0, h2⟩ := h
  refine ⟨by simp, ?_⟩
  rcases h2 with ⟨h1, _⟩ | ⟨g', cap, cur, h1, hB, hg, hn, hcap, hs, ht⟩
  · cases h1
  · cases h1
    refine .inr ⟨g, c, cur, rfl, hB, hg, ?_, hcap, hs, ?_⟩
    · simp only [List.length_append] at hn; omega
    · simp only [List.length_append, Nat.mul_one] at ht ⊢
      have := congrArg (List.take xs.length) ht
      rw [List.take_take, List.take_append_of_le_length (Nat.le_refl _), List.take_length] at this
      rwa [Nat.min_eq_left (by omega)] at this
end Go.Proofs.Ytncndnholheemaa
