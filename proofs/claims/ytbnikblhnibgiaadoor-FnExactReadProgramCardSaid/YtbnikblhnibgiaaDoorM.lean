/- Lists of rows under construction: each row's data lie in memory of their own. No program is in sight. -/
import Derived.Test.YtbnikblhnibgiaaDoorY
namespace Go.Proofs.YtbnikblhnibgiaaDoor
open Go.RowKit

/-- 'append' onto a list of one's own: where the result lies. -/
theorem run_app {P : Program} (w : World) (base : Nat) (t ty e : TypeId) (i : TypeInfo) (z : Value) (size bytes : Nat) (ht : P.underlying t = some (.slice e)) (hi : P.info? e = some i) (hz : i.zero = some z)
    (hsize : i.size = size) (hby : i.bytes = bytes) (hzs : z.cells.size = size) (hsz : 0 < size)
    (v : Value) (n : Nat) (xs : List Value) (hown : w.ownsRow base e size v n xs)
    (a : Addr) (m c : Nat) (news : List Value) (hl : news.length = m * size) (hnews : ∀ j u, news[j]? = some u → w.cell? (a.add j) = some u) (h1 : ∀ u ∈ news, u.oneCell' = true)
    (h63 : n + m ≤ maxLen) (hbytes : (n + m) * bytes ≤ 140737488355328) (hbase : base ≤ w.heap.size) (hm : 0 < m) :
    ∃ v' w', (Builtin.append_ #[t, t] ty #[v, .slice (some a) m c]).run P w = .ok v' w' ∧ w'.ownsRow base e size v' (n + m) (xs ++ news) ∧ w.grownBy w' v.ownBlock ∧
      (∀ g, v'.ownBlock = some g → v.ownBlock = some g ∨ w.heap.size ≤ g) := by
  obtain ⟨v', w', hr, h2, h3, _⟩ := run_append_own (P := P) w base t ty e i z size bytes ht hi hz hsize hby hzs hsz v n xs hown a m c news hl hnews h1 h63 hbytes hbase
  refine ⟨v', w', hr, h2, h3, ?_⟩
  have hsmall : n + m ≤ 9223372036854775807 := by simp only [maxLen] at h63; omega
  subst hsize
  subst hby
  rcases hown.2 with ⟨rfl, rfl⟩ | ⟨g, cap, cur, rfl, hbg, hg, hnc, hcm, hcs, htake⟩
  · have hr2 := run_append_nil (P := P) w t ty e i z ht hi hz a m c news hl hnews hm (by omega) (by have hb := hbytes; simp only [Nat.zero_add] at hb; omega)
    rw [hr] at hr2
    injection hr2 with e1 e2
    subst e1
    intro g hg; right
    simp [Value.ownBlock] at hg; omega
  · by_cases hroom : n + m ≤ cap
    · have hfit : n * i.size + news.length ≤ cur.size := by rw [hl, hcs, ← Nat.add_mul]; exact Nat.mul_le_mul_right _ hroom
      have hr2 := run_append_room (P := P) w t ty e i ht hi g n cap cur hg a m c news hl hnews h1 hroom hfit
      rw [hr] at hr2
      injection hr2 with e1 e2
      subst e1
      intro g' hg'; left
      simpa [Value.ownBlock] using hg'
    · have holds : ∀ j u, xs[j]? = some u → w.cell? ((⟨g, 0, none⟩ : Addr).add j) = some u := hown.cells (g := g) rfl
      have hr2 := run_append_grow (P := P) w t ty e i z ht hi hz ⟨g, 0, none⟩ n cap xs hown.1 holds a m c news hl hnews (by omega) (by omega) (growslice_fits (by omega) hbytes)
      rw [hr] at hr2
      injection hr2 with e1 e2
      subst e1
      intro g' hg'; right
      simp [Value.ownBlock] at hg'; omega

/-- The block of a slice's array. -/
def ob (v : Value) : List Nat := match v.ownBlock with | some g => [g] | none => []
theorem mem_ob {v : Value} {g : Nat} : g ∈ ob v ↔ v.ownBlock = some g := by
  unfold ob
  cases h : v.ownBlock with
  | none => simp
  | some x => simp [eq_comm]
/-- v is a list of n rows (of k cells each) that is being built: its cells hold the data ds; all of it lies in the blocks G, from B on. -/
def Lst (E : TypeId) (k : Nat) (w : World) (B : Nat) (v : Value) (n : Nat) (ds : List D) (G : List Nat) : Prop :=
  ∃ vs F, w.ownsRow B E k v n vs ∧ OwA w ds vs F ∧ F.Nodup ∧ (∀ g, g ∈ F → B ≤ g) ∧ (∀ g, g ∈ ob v → g ∉ F) ∧ G = ob v ++ F
theorem OwA.lt {w : World} : ∀ (ds : List D) (vs : List Value) (F : List Nat), OwA w ds vs F → ∀ g, g ∈ F → g < w.heap.size
  | [], [], F, h, g, hg => by rw [show F = [] from h] at hg; cases hg
  | d :: ds, v :: vs, F, h, g, hg => by
    obtain ⟨F1, F2, h1, h2, rfl⟩ := h
    rcases List.mem_append.1 hg with hg | hg
    · exact Ow.lt d v F1 h1 g hg
    · exact OwA.lt ds vs F2 h2 g hg
  | [], _ :: _, _, h, _, _ => h.elim
  | _ :: _, [], _, h, _, _ => h.elim
theorem OwA.stable {w w' : World} : ∀ (ds : List D) (vs : List Value) (F : List Nat), Agree (· ∈ F) w w' → OwA w ds vs F → OwA w' ds vs F
  | [], [], _, _, h => h
  | d :: ds, v :: vs, F, ha, h => by
    obtain ⟨F1, F2, h1, h2, rfl⟩ := h
    exact ⟨F1, F2, Ow.stable d v F1 (fun k hk => ha k (by simp [hk])) h1, OwA.stable ds vs F2 (fun k hk => ha k (by simp [hk])) h2, rfl⟩
  | [], _ :: _, _, _, h => h.elim
  | _ :: _, [], _, _, h => h.elim
theorem OwA.app {w : World} : ∀ (ds : List D) (vs : List Value) (F : List Nat) (ds' : List D) (vs' : List Value) (F' : List Nat), OwA w ds vs F → OwA w ds' vs' F' → OwA w (ds ++ ds') (vs ++ vs') (F ++ F')
  | [], [], F, ds', vs', F', h, h' => by rw [show F = [] from h]; exact h'
  | d :: ds, v :: vs, F, ds', vs', F', h, h' => by
    obtain ⟨F1, F2, h1, h2, rfl⟩ := h
    exact ⟨F1, F2 ++ F', h1, OwA.app ds vs F2 ds' vs' F' h2 h', by simp⟩
  | [], _ :: _, _, _, _, _, h, _ => h.elim
  | _ :: _, [], _, _, _, _, h, _ => h.elim
theorem OwA.owL {w : World} {g : Nat} : ∀ (ds : List D) (vs : List Value) (F : List Nat) (o : Nat), OwA w ds vs F → (∀ j u, vs[j]? = some u → w.cell? ⟨g, o + j, none⟩ = some u ∧ w.frozen? ⟨g, o + j, none⟩ = false) → OwL w ds g o F
  | [], [], _, _, h, _ => h
  | d :: ds, v :: vs, F, o, h, hc => by
    obtain ⟨F1, F2, h1, h2, rfl⟩ := h
    have h0 := hc 0 v (by simp)
    refine ⟨v, F1, F2, by simpa using h0.1, by simpa using h0.2, h1, OwA.owL ds vs F2 (o + 1) h2 (fun j u hu => ?_), rfl⟩
    have := hc (j + 1) u (by simpa using hu)
    rwa [show o + (j + 1) = o + 1 + j from by omega] at this
  | [], _ :: _, _, _, h, _ => h.elim
  | _ :: _, [], _, _, h, _ => h.elim
theorem ownsRow_kept {w w' : World} {B : Nat} {E : TypeId} {k n : Nat} {v : Value} {vs : List Value} (h : w.ownsRow B E k v n vs) (hb : ∀ g, g ∈ ob v → w'.heap[g]? = w.heap[g]?) : w'.ownsRow B E k v n vs := by
  obtain ⟨h0, h2⟩ := h
  refine ⟨h0, ?_⟩
  rcases h2 with h2 | ⟨g, cap, cur, rfl, hB, hg, h3⟩
  · exact .inl h2
  · exact .inr ⟨g, cap, cur, rfl, hB, (hb g (mem_ob.2 rfl)).trans hg, h3⟩
theorem ob_lt {w : World} {B : Nat} {E : TypeId} {k n : Nat} {v : Value} {vs : List Value} (h : w.ownsRow B E k v n vs) : ∀ g, g ∈ ob v → B ≤ g ∧ g < w.heap.size := fun g hg => h.lt g (mem_ob.1 hg)
theorem Lst.lt {E : TypeId} {k : Nat} {w : World} {B : Nat} {v : Value} {n : Nat} {ds : List D} {G : List Nat} (h : Lst E k w B v n ds G) : ∀ g, g ∈ G → B ≤ g ∧ g < w.heap.size := by
  obtain ⟨vs, F, h1, h2, h3, h4, h5, rfl⟩ := h
  intro g hg
  rcases List.mem_append.1 hg with hg | hg
  · exact ob_lt h1 g hg
  · exact ⟨h4 g hg, OwA.lt ds vs F h2 g hg⟩
theorem Lst.keep {E : TypeId} {k : Nat} {w w' : World} {B : Nat} {v : Value} {n : Nat} {ds : List D} {G F' : List Nat} (h : Lst E k w B v n ds G) (hc : Chg F' w w') (hd : ∀ g, g ∈ G → g ∉ F') : Lst E k w' B v n ds G := by
  have hlt := h.lt
  obtain ⟨vs, F, h1, h2, h3, h4, h5, rfl⟩ := h
  exact ⟨vs, F, ownsRow_kept h1 (fun g hg => hc.block g (hlt g (by simp [hg])).2 (hd g (by simp [hg]))), OwA.stable ds vs F (fun g hg => hc.block g (hlt g (by simp [hg])).2 (hd g (by simp [hg]))) h2, h3, h4, h5, rfl⟩
theorem Lst.below {E : TypeId} {k : Nat} {w w' : World} {B : Nat} {v : Value} {n : Nat} {ds : List D} {G : List Nat} (h : Lst E k w B v n ds G) (hb : Below w.heap.size w w') : Lst E k w' B v n ds G :=
  h.keep (F' := []) (Chg.ofBelow hb) (by simp)
theorem Lst.val {E : TypeId} {k : Nat} {w : World} {B : Nat} {v : Value} {n : Nat} {ds : List D} {G : List Nat} (h : Lst E k w B v n ds G) : ds.length = n * k ∧ ∃ a c, v = .slice a n c := by
  obtain ⟨vs, F, h1, h2, _⟩ := h
  refine ⟨by rw [← owA_len ds vs F h2]; exact h1.1, ?_⟩
  rcases h1.2 with ⟨rfl, rfl⟩ | ⟨g, cap, cur, rfl, _⟩
  · exact ⟨none, 0, rfl⟩
  · exact ⟨_, cap, rfl⟩
theorem Lst.nil (E : TypeId) (k : Nat) (w : World) (B : Nat) : Lst E k w B (.slice none 0 0) 0 [] [] :=
  ⟨[], [], World.ownsRow_nil w B E k, rfl, by simp, by simp, by simp [ob, Value.ownBlock], by simp [ob, Value.ownBlock]⟩
theorem Lst.made (E : TypeId) (k : Nat) (w : World) (B : Nat) (hB : B ≤ w.heap.size) : Lst E k (w.alloc (.cells #[] E)) B (.slice (some ⟨w.heap.size, 0, none⟩) 0 0) 0 [] [w.heap.size] :=
  ⟨[], [], by have := World.ownsRow_made (size := k) (base := B) (e := E) w #[] 0 hB (by simp [maxLen]) (by simp); simpa using this, rfl, by simp, by simp, by simp, by simp [ob, Value.ownBlock]⟩
/-- What has been built is owned. -/
theorem Lst.ow {E : TypeId} {k : Nat} {w : World} {B : Nat} {v : Value} {n : Nat} {ds : List D} {G : List Nat} (h : Lst E k w B v n ds G) (_hk : 0 < k) (hm : n ≤ maxLen) : ∃ G', Ow w (.l k ds) v G' ∧ G'.Nodup ∧ (∀ g, g ∈ G' → g ∈ G) := by
  have hv := h.val
  obtain ⟨vs, F, h1, h2, h3, h4, h5, rfl⟩ := h
  obtain ⟨hl, a, c, rfl⟩ := hv
  by_cases e : ds = []
  · subst e
    exact ⟨[], ⟨a, n, c, rfl, hl, hm, .inl ⟨rfl, rfl⟩⟩, by simp, by simp⟩
  · have hcells := fun g => World.ownsRow.cells (g := g) h1
    rcases h1.2 with ⟨hv, rfl⟩ | ⟨g, cap, cur, hv, hB, hg, hcp, _⟩
    · rw [Nat.zero_mul] at hl
      exact absurd (List.eq_nil_of_length_eq_zero hl) e
    · cases hv
      refine ⟨g :: F, ⟨_, n, c, rfl, hl, hm, .inr ⟨g, 0, F, rfl, ⟨e, hcp⟩, rfl, OwA.owL ds vs F 0 h2 fun j u hu => ⟨?_, ?_⟩⟩⟩, List.nodup_cons.2 ⟨h5 g (mem_ob.2 rfl), h3⟩, fun x hx => ?_⟩
      · have := hcells g rfl j u hu
        rwa [Addr.add_lit] at this
      · simp [World.frozen?, hg]
      · rcases List.mem_cons.1 hx with rfl | hx
        · exact List.mem_append_left _ (mem_ob.2 rfl)
        · exact List.mem_append_right _ hx
theorem grown_chg {w w' : World} {v : Value} (h : w.grownBy w' v.ownBlock) : Chg (ob v) w w' :=
  ⟨h.os, h.tape, h.output, h.size, fun k hk hn => h.block k hk (fun e => hn (mem_ob.2 e.symm))⟩
/-- What the next row adds: rows rs in the blocks F2, in front of it the list. -/
structure LstNext (E : TypeId) (k : Nat) (w w' : World) (B : Nat) (v v' : Value) (n : Nat) (ds rs : List D) (G F2 G' : List Nat) : Prop where
  lst : Lst E k w' B v' (n + 1) (ds ++ rs) G'
  chg : Chg (ob v) w w'
  mem : ∀ g, g ∈ G' → g ∈ G ∨ g ∈ F2 ∨ w.heap.size ≤ g
theorem Lst.next {E : TypeId} {k : Nat} {w w' : World} {B : Nat} {v v' : Value} {n : Nat} {ds rs : List D} {vs news : List Value} {F F2 : List Nat} (_h1 : w.ownsRow B E k v n vs) (h2 : OwA w ds vs F) (h3 : F.Nodup) (h4 : ∀ g, g ∈ F → B ≤ g) (h5 : ∀ g, g ∈ ob v → g ∉ F)
    (g1 : OwA w rs news F2) (g2 : F2.Nodup) (g3 : ∀ g, g ∈ F2 → B ≤ g) (g4 : ∀ g, g ∈ F2 → g ∉ ob v ++ F) (o1 : w'.ownsRow B E k v' (n + 1) (vs ++ news)) (o2 : w.grownBy w' v.ownBlock) (o3 : ∀ g, v'.ownBlock = some g → v.ownBlock = some g ∨ w.heap.size ≤ g) :
    ∃ G', LstNext E k w w' B v v' n ds rs (ob v ++ F) F2 G' := by
  have hc := grown_chg o2
  have a1 : OwA w' ds vs F := OwA.stable ds vs F (fun g hg => hc.block g (OwA.lt ds vs F h2 g hg) (fun e => h5 g e hg)) h2
  have a2 : OwA w' rs news F2 := OwA.stable rs news F2 (fun g hg => hc.block g (OwA.lt rs news F2 g1 g hg) (fun e => g4 g hg (by simp [e]))) g1
  refine ⟨ob v' ++ (F ++ F2), ⟨vs ++ news, F ++ F2, o1, OwA.app _ _ _ _ _ _ a1 a2, List.nodup_append.2 ⟨h3, g2, fun a ha b hb e => g4 b hb (by subst e; simp [ha])⟩, fun g hg => ?_, fun g hg hg2 => ?_, rfl⟩, hc, fun g hg => ?_⟩
  · rcases List.mem_append.1 hg with hg | hg
    · exact h4 g hg
    · exact g3 g hg
  · rcases o3 g (mem_ob.1 hg) with hh | hh
    · rcases List.mem_append.1 hg2 with hg2 | hg2
      · exact h5 g (mem_ob.2 hh) hg2
      · exact g4 g hg2 (by simp [mem_ob.2 hh])
    · rcases List.mem_append.1 hg2 with hg2 | hg2
      · have := OwA.lt ds vs F h2 g hg2; omega
      · have := OwA.lt rs news F2 g1 g hg2; omega
  · rcases List.mem_append.1 hg with hg | hg
    · rcases o3 g (mem_ob.1 hg) with hh | hh
      · exact .inl (by simp [mem_ob.2 hh])
      · exact .inr (.inr hh)
    · rcases List.mem_append.1 hg with hg | hg
      · exact .inl (by simp [hg])
      · exact .inr (.inl hg)
/-- What a row that lies at g (in its own new block) takes. -/
structure RowAt (w : World) (g k : Nat) (B : Nat) (rs : List D) (news : List Value) (F2 G : List Nat) : Prop where
  own : OwA w rs news F2
  len : news.length = k
  nodup : F2.Nodup
  lo : ∀ x, x ∈ F2 → B ≤ x
  apart : ∀ x, x ∈ F2 → x ∉ G
  cells : ∀ j u, news[j]? = some u → w.cell? ⟨g, j, none⟩ = some u
  one : ∀ u ∈ news, u.oneCell' = true
theorem run_lst {P : Program} {w : World} {B : Nat} {T ty E : TypeId} {k bytes : Nat} {z : Value} (tab : Tab P T E z k bytes) (hzs : z.cells.size = k) (hk : 0 < k) (hby : bytes ≤ 1024)
    {v : Value} {n : Nat} {ds rs : List D} {G F2 : List Nat} {news : List Value} (h : Lst E k w B v n ds G) {g : Nat} (hr : RowAt w g k B rs news F2 G) (hlen : n < 4294967296) (hB : B ≤ w.heap.size) :
    ∃ v' w', (Builtin.append_ #[T, T] ty #[v, .slice (some ⟨g, 0, none⟩) 1 1]).run P w = .ok v' w' ∧ ∃ G', LstNext E k w w' B v v' n ds rs G F2 G' := by
  obtain ⟨vs, F, h1, h2, h3, h4, h5, rfl⟩ := h
  obtain ⟨i0, hi, hz0, hz1, hz2⟩ := info_parts tab.info
  obtain ⟨v', w', e, o1, o2, o3⟩ := run_app (P := P) w B T ty E i0 z k bytes tab.under hi hz0 hz1 hz2 hzs hk v n vs h1 ⟨g, 0, none⟩ 1 1 news (by rw [hr.len, Nat.one_mul]) (fun j u hu => by rw [Addr.add_lit, Nat.zero_add]; exact hr.cells j u hu) hr.one (by unfold maxLen; omega)
    (by have : (n + 1) * bytes ≤ 4294967296 * 1024 := Nat.mul_le_mul (by omega) hby
        omega) hB (by omega)
  exact ⟨v', w', e, Lst.next h1 h2 h3 h4 h5 hr.own hr.nodup hr.lo hr.apart o1 o2 o3⟩
/-- 'append(v, row)' in the order of the text. -/
theorem app_lst {P : Program} {ops : Array Oper} {rest : List Oper} {o : Oper} {ac : Act} {Q : Exit → Act → World → Prop} {w : World} (hgd : o.guard = none) (s x : Operand) (T : TypeId)
    (ho : o.op = .call { callee := .builtin .append, args := #[s, x], argTypes := #[T, T] }) {E k bytes : Nat} {z : Value} (tab : Tab P T E z k bytes) (hzs : z.cells.size = k) (hk : 0 < k) (hby : bytes ≤ 1024)
    (B : Nat) (v : Value) (n : Nat) (ds rs : List D) (G F2 : List Nat) (news : List Value) (hs : ac.eval s = v) (h : Lst E k w B v n ds G) (g : Nat) (hx : ac.eval x = .slice (some ⟨g, 0, none⟩) 1 1) (hr : RowAt w g k B rs news F2 G) (hlen : n < 4294967296) (hB : B ≤ w.heap.size)
    (K : ∀ v' w' G', LstNext E k w w' B v v' n ds rs G F2 G' → wpList P ops Q rest (ac.put o.dst v') w') : wpList P ops Q (o :: rest) ac w := by
  refine wpList_plain hgd fun _ hK => ?_
  obtain ⟨v', w', e, G', hn⟩ := run_lst (P := P) (ty := o.type) tab hzs hk hby h hr hlen hB
  unfold Oper.wp execOp
  simp only [ho, resolve, invoke, builtin, Sem.run_bind, Sem.run_pure, Result.andThen_ok, List.map_toArray, List.map_cons, List.map_nil, hs, hx, e]
  exact hK _ _ (K v' w' G' hn)
/-- The same at a step of a region that draws its order. -/
theorem step_lst {P : Program} {ops : Array Oper} {o : Oper} {ac : Act} {w : World} {K : Act → World → Prop} {Q : Exit → Act → World → Prop} {X : Prop} (hgd : o.guard = none) (s x : Operand) (T : TypeId)
    (ho : o.op = .call { callee := .builtin .append, args := #[s, x], argTypes := #[T, T] }) {E k bytes : Nat} {z : Value} (tab : Tab P T E z k bytes) (hzs : z.cells.size = k) (hk : 0 < k) (hby : bytes ≤ 1024)
    (B : Nat) (v : Value) (n : Nat) (ds rs : List D) (G F2 : List Nat) (news : List Value) (hs : ac.eval s = v) (h : Lst E k w B v n ds G) (g : Nat) (hx : ac.eval x = .slice (some ⟨g, 0, none⟩) 1 1) (hr : RowAt w g k B rs news F2 G) (hlen : n < 4294967296) (hB : B ≤ w.heap.size)
    (hK : ∀ v' w' G', LstNext E k w w' B v v' n ds rs G F2 G' → K (ac.put o.dst v') w') : if Region.wanted o (yielded ops ac.tmps) = true then Oper.wp P o ac w K Q else X := by
  have hw : Region.wanted o (yielded ops ac.tmps) = true := by simp [Region.wanted, hgd]
  rw [if_pos hw]
  obtain ⟨v', w', e, G', hn⟩ := run_lst (P := P) (ty := o.type) tab hzs hk hby h hr hlen hB
  unfold Oper.wp execOp
  simp only [ho, resolve, invoke, builtin, Sem.run_bind, Sem.run_pure, Result.andThen_ok, List.map_toArray, List.map_cons, List.map_nil, hs, hx, e]
  exact hK v' w' G' hn
theorem Chg.cell {F : List Nat} {w w' : World} (h : Chg F w w') {b : Nat} (hb : b < w.heap.size) (hF : b ∉ F) (i : Nat) : w'.cell? ⟨b, i, none⟩ = w.cell? ⟨b, i, none⟩ := World.cell?_of_block (w := w) (h.block b hb hF)
theorem Chg.frozen {F : List Nat} {w w' : World} (h : Chg F w w') {b : Nat} (hb : b < w.heap.size) (hF : b ∉ F) (i : Nat) : w'.frozen? ⟨b, i, none⟩ = w.frozen? ⟨b, i, none⟩ := World.frozen?_of_block (w := w) (h.block b hb hF)
theorem Chg.refl (F : List Nat) (w : World) : Chg F w w := ⟨rfl, rfl, rfl, Nat.le_refl _, fun _ _ _ => rfl⟩
end Go.Proofs.YtbnikblhnibgiaaDoor
