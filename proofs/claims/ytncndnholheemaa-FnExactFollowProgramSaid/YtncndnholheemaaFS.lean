/- The index of the first rule of an order: the reference's function. Written by mkfs.py. -/
import Derived.Test.YtncndnholheemaaFP
import Derived.Test.YtncndnholheemaaRM
import Derived.Test.YtncndnholheemaaLG
namespace Go.Proofs.Ytncndnholheemaa
open Go.RowKit

/-- The cells of a list of orders. -/
def ordV (os : List Ord) : List Value := os.flatMap fun o => [.int .i64 o.op, .int .i64 o.reg, .int .i64 o.to, .int .i64 o.els]
theorem ordV_len : ∀ os : List Ord, (ordV os).length = os.length * 4
  | [] => rfl
  | o :: os => by have := ordV_len os; simp only [ordV, List.flatMap_cons, List.length_append, List.length_cons, List.length_nil] at *; omega
theorem ordV_get : ∀ (os : List Ord) (i j : Nat) (u : Value), i < os.length → ([Value.int .i64 (nthO os i).op, .int .i64 (nthO os i).reg, .int .i64 (nthO os i).to, .int .i64 (nthO os i).els] : List Value)[j]? = some u → (ordV os)[i * 4 + j]? = some u
  | [], i, j, u, h, _ => by simp at h
  | o :: os, 0, j, u, _, hu => by
    have hj : j < 4 := by
      have := (List.getElem?_eq_some_iff.1 hu).1
      simpa using this
    simp only [Nat.zero_mul, Nat.zero_add, ordV, List.flatMap_cons]
    rw [List.getElem?_append_left (by simpa using hj)]
    simpa [nthO] using hu
  | o :: os, i + 1, j, u, h, hu => by
    have ih := ordV_get os i j u (by simpa using h) (by simpa [nthO] using hu)
    have e : (ordV (o :: os))[(i + 1) * 4 + j]? = (ordV os)[i * 4 + j]? := by
      simp only [ordV, List.flatMap_cons]
      rw [List.getElem?_append_right (by simp; omega)]
      congr 1
      simp; omega
    rw [e]; exact ih
theorem ordV_one : ∀ os : List Ord, ∀ u ∈ ordV os, u.oneCell' = true := fun os u hu => by
  simp only [ordV, List.mem_flatMap] at hu
  obtain ⟨o, _, ho⟩ := hu
  simp at ho
  rcases ho with rfl | rfl | rfl | rfl <;> simp [Value.oneCell']
/-- The orders at a place of one's own. -/
structure OrC (w : World) (g : Nat) (qs : List Ord) : Prop where
  c0 : ∀ i, i < qs.length → w.cell? ⟨g, i * 4, none⟩ = some (.int .i64 (nthO qs i).op)
  c1 : ∀ i, i < qs.length → w.cell? ⟨g, i * 4 + 1, none⟩ = some (.int .i64 (nthO qs i).reg)
  c2 : ∀ i, i < qs.length → w.cell? ⟨g, i * 4 + 2, none⟩ = some (.int .i64 (nthO qs i).to)
  c3 : ∀ i, i < qs.length → w.cell? ⟨g, i * 4 + 3, none⟩ = some (.int .i64 (nthO qs i).els)
  free : ∀ j, w.frozen? ⟨g, j, none⟩ = false
theorem OrC.of {w : World} {E : TypeId} {B g n c : Nat} {os : List Ord} (h : w.ownsRow B E 4 (.slice (some ⟨g, 0, none⟩) n c) os.length (ordV os)) : OrC w g os := by
  have key : ∀ i j u, i < os.length → ([Value.int .i64 (nthO os i).op, .int .i64 (nthO os i).reg, .int .i64 (nthO os i).to, .int .i64 (nthO os i).els] : List Value)[j]? = some u → w.cell? ⟨g, i * 4 + j, none⟩ = some u := fun i j u hi hu => by
    have := World.ownsRow.cells (g := g) h rfl (i * 4 + j) u (ordV_get os i j u hi hu)
    rwa [Addr.add_lit, Nat.zero_add] at this
  refine ⟨fun i hi => key i 0 _ hi rfl, fun i hi => key i 1 _ hi rfl, fun i hi => key i 2 _ hi rfl, fun i hi => key i 3 _ hi rfl, fun j => ?_⟩
  rcases h.2 with ⟨h1, _⟩ | ⟨g', cap, cur, h1, _, hg, _⟩
  · cases h1
  · cases h1; simp [World.frozen?, hg]
theorem OrC.slO {w : World} {g : Nat} {qs : List Ord} (h : OrC w g qs) (hl : qs.length ≤ maxLen) : SlO Any w (some ⟨g, 0, none⟩) qs :=
  ⟨hl, fun _ => ⟨trivial, _, _, rfl⟩, fun i hi => by simpa [adr, blk, ofs] using h.c0 i hi, fun i hi => by simpa [adr, blk, ofs] using h.c1 i hi, fun i hi => by simpa [adr, blk, ofs] using h.c2 i hi, fun i hi => by simpa [adr, blk, ofs] using h.c3 i hi⟩
theorem OrC.below {w w' : World} {g : Nat} {qs : List Ord} (h : OrC w g qs) (hg : g < w.heap.size) (hb : Below w.heap.size w w') : OrC w' g qs :=
  ⟨fun i hi => (bcell1 hb hg).trans (h.c0 i hi), fun i hi => (bcell1 hb hg).trans (h.c1 i hi), fun i hi => (bcell1 hb hg).trans (h.c2 i hi), fun i hi => (bcell1 hb hg).trans (h.c3 i hi), fun j => (hb.frozen (p := ⟨g, j, none⟩) hg).trans (h.free j)⟩
theorem OrC.set {w : World} {g : Nat} {qs : List Ord} (h : OrC w g qs) {i : Nat} (hi : i < qs.length) (a b c d : Int) :
    OrC ((((w.setCell ⟨g, i * 4, none⟩ (.int .i64 a)).setCell ⟨g, i * 4 + 1, none⟩ (.int .i64 b)).setCell ⟨g, i * 4 + 2, none⟩ (.int .i64 c)).setCell ⟨g, i * 4 + 3, none⟩ (.int .i64 d)) g (qs.set i ⟨a, b, c, d⟩) := by
  have n : ∀ j, j < (qs.set i ⟨a, b, c, d⟩).length → nthO (qs.set i ⟨a, b, c, d⟩) j = if i = j then ⟨a, b, c, d⟩ else nthO qs j := fun j hj => by
    rw [nthO_lt hj, List.getElem_set]
    split
    · rfl
    · rw [nthO_lt (by simpa using hj)]
  refine ⟨fun j hj => ?_, fun j hj => ?_, fun j hj => ?_, fun j hj => ?_, fun j => by rw [World.frozen?_setCell, World.frozen?_setCell, World.frozen?_setCell, World.frozen?_setCell]; exact h.free j⟩
  all_goals
    rw [n j hj]
    simp only [List.length_set] at hj
    by_cases e : i = j
    · subst e
      rw [if_pos rfl]
      first
        | (rw [cell_far _ _ (i * 4 + 3) (i * 4) _ (by omega), cell_far _ _ (i * 4 + 2) (i * 4) _ (by omega), cell_far _ _ (i * 4 + 1) (i * 4) _ (by omega)]; exact World.cell?_setCell_same _ _ _ (h.c0 i hi))
        | (rw [cell_far _ _ (i * 4 + 3) (i * 4 + 1) _ (by omega), cell_far _ _ (i * 4 + 2) (i * 4 + 1) _ (by omega)]; exact World.cell?_setCell_same _ _ _ (by rw [cell_far _ _ (i * 4) (i * 4 + 1) _ (by omega)]; exact h.c1 i hi))
        | (rw [cell_far _ _ (i * 4 + 3) (i * 4 + 2) _ (by omega)]; exact World.cell?_setCell_same _ _ _ (by rw [cell_far _ _ (i * 4 + 1) (i * 4 + 2) _ (by omega), cell_far _ _ (i * 4) (i * 4 + 2) _ (by omega)]; exact h.c2 i hi))
        | exact World.cell?_setCell_same _ _ _ (by rw [cell_far _ _ (i * 4 + 2) (i * 4 + 3) _ (by omega), cell_far _ _ (i * 4 + 1) (i * 4 + 3) _ (by omega), cell_far _ _ (i * 4) (i * 4 + 3) _ (by omega)]; exact h.c3 i hi)
    · rw [if_neg e, cell_far _ _ _ _ _ (by omega), cell_far _ _ _ _ _ (by omega), cell_far _ _ _ _ _ (by omega), cell_far _ _ _ _ _ (by omega)]
      first | exact h.c0 j hj | exact h.c1 j hj | exact h.c2 j hj | exact h.c3 j hj
/-- 'append(v, rows...)' to an empty list, at a step of a region that draws its order. -/
theorem step_rows {P : Program} {ops : Array Oper} {o : Oper} {ac : Act} {w : World} {K : Act → World → Prop} {Q : Exit → Act → World → Prop} {X : Prop} (hgd : o.guard = none) (s x : Operand) (T : TypeId)
    (ho : o.op = .call { callee := .builtin .append, args := #[s, x], argTypes := #[T, T] }) {E k bytes : Nat} {z : Value} (tab : Tab P T E z k bytes) (hzs : z.cells.size = k) (hk : 0 < k) (hby : bytes ≤ 1024)
    (B : Nat) (v : Value) (hs : ac.eval s = v) (h : w.ownsRow B E k v 0 []) (ad : Addr) (m c : Nat) (ys : List Value) (hx : ac.eval x = .slice (some ad) m c) (hn : ys.length = m * k) (hc : ∀ j u, ys[j]? = some u → w.cell? (ad.add j) = some u) (h1 : ∀ u ∈ ys, u.oneCell' = true) (hlen : m < 4294967296) (hm : 0 < m) (hB : B ≤ w.heap.size)
    (hK : ∀ v' w', w'.ownsRow B E k v' m ys → Chg (ob v) w w' → (∀ g, g ∈ ob v' → g ∈ ob v ∨ w.heap.size ≤ g) → K (ac.put o.dst v') w') : if Region.wanted o (yielded ops ac.tmps) = true then Oper.wp P o ac w K Q else X := by
  have hw : Region.wanted o (yielded ops ac.tmps) = true := by simp [Region.wanted, hgd]
  rw [if_pos hw]
  obtain ⟨i0, hi, hz0, hz1, hz2⟩ := info_parts tab.info
  obtain ⟨v', w', e, q2, q3, q4⟩ := run_app (P := P) (ty := o.type) w B T E i0 z k bytes tab.under hi hz0 hz1 hz2 hzs hk v 0 [] h ad m c ys hn hc h1 (by unfold maxLen; omega) (by
    have : (0 + m) * bytes ≤ 4294967296 * 1024 := Nat.mul_le_mul (by omega) hby
    omega) hB hm
  unfold Oper.wp execOp
  simp only [ho, resolve, invoke, builtin, Sem.run_bind, Sem.run_pure, Result.andThen_ok, List.map_toArray, List.map_cons, List.map_nil, hs, hx, e]
  refine hK v' w' (by simpa using q2) (grown_chg q3) fun g hg => ?_
  rcases q4 g (mem_ob.1 hg) with hh | hh
  · exact .inl (mem_ob.2 hh)
  · exact .inr hh

theorem fldSys (k : Int) (a1 a2 : Option Addr) (n1 c1 n2 c2 : Nat) (w' : World) : (Instr.field 120 (.agg #[.int .i64 k, .slice a1 n1 c1, .slice a2 n2 c2]) 2).run Try.prog w' = .ok (.slice a2 n2 c2) w' := by
  simp [Instr.field, go_sem, run_underlying Try.underlying120, asAgg]
theorem cell_blk (w : World) {g b : Nat} (i j : Nat) {v : Value} (h : g ≠ b) : (w.setCell ⟨g, i, none⟩ v).cell? ⟨b, j, none⟩ = w.cell? ⟨b, j, none⟩ := World.cell?_setCell_other _ _ _ _ (by intro e; injection e with e1; exact h e1)
theorem rowVal {w : World} {B E k n : Nat} {v : Value} {vs : List Value} (h : w.ownsRow B E k v n vs) (hn : 0 < n) : ∃ g c, v = .slice (some ⟨g, 0, none⟩) n c := by
  rcases h.2 with ⟨_, h0⟩ | ⟨g, cap, cur, h1, _⟩
  · omega
  · exact ⟨g, cap, h1⟩
theorem rowMade (E k : Nat) (w : World) (B : Nat) (hB : B ≤ w.heap.size) : (w.alloc (.cells #[] E)).ownsRow B E k (.slice (some ⟨w.heap.size, 0, none⟩) 0 0) 0 [] := by
  have := World.ownsRow_made (size := k) (base := B) (e := E) w #[] 0 hB (by simp [maxLen]) (by simp)
  simpa using this
set_option maxHeartbeats 4000000 in
set_option maxRecDepth 100000 in
theorem l05First_c (R p : Nat) (ao : Option Addr) (co : Nat) (os : List Ord) (mode : Int) (at_ : Nat) (w : World) (ho : SlO Any w ao os) (hp0 : w.cell? ⟨p, 0, none⟩ = some (.int .i64 R)) (hp1 : w.cell? ⟨p, 1, none⟩ = some (.slice ao os.length co)) (hpg : PgOk R os) (hm : 1 ≤ mode ∧ mode ≤ 3) (hat : at_ ≤ os.length) :
    Calls Try.prog 88 #[.pointer (some ⟨p, 0, none⟩), .int .i64 mode, .int .i64 at_] w (RetV w (.int .i64 (baseS R os mode at_))) := by
  have h1 := hpg.n1
  have h6 := hpg.n6
  have zp : p < w.heap.size := World.block_lt_of_cell? w _ hp0
  obtain ⟨_, gd, od, rfl⟩ := ho.ptr (by omega)
  obtain ⟨ad, had⟩ : ∃ ad : Addr, ad = ⟨gd, od, none⟩ := ⟨_, rfl⟩
  have HVL : Hid (∀ wx, Below w.heap.size w wx → ∀ j u, (ordV os)[j]? = some u → wx.cell? (ad.add j) = some u) := Lib.hid (fun wx hb j u hu => by
    have hw := ho.below hb
    have hj : j < os.length * 4 := by rw [← ordV_len]; exact (List.getElem?_eq_some_iff.1 hu).1
    obtain ⟨q, r, rfl, hr⟩ : ∃ q r, j = q * 4 + r ∧ (r = 0 ∨ r = 1 ∨ r = 2 ∨ r = 3) := ⟨j / 4, j % 4, by omega, by omega⟩
    have hi : q < os.length := by omega
    rw [had, Addr.add_lit]
    have g := fun k v (h : ([Value.int .i64 (nthO os q).op, .int .i64 (nthO os q).reg, .int .i64 (nthO os q).to, .int .i64 (nthO os q).els] : List Value)[k]? = some v) => ordV_get os q k v hi h
    have d0 := hw.c0 _ hi
    have d1 := hw.c1 _ hi
    have d2 := hw.c2 _ hi
    have d3 := hw.c3 _ hi
    simp only [adr, blk, ofs] at d0 d1 d2 d3
    rcases hr with rfl | rfl | rfl | rfl
    · rw [g 0 _ rfl] at hu; cases hu; simpa using d0
    · rw [g 1 _ rfl] at hu; cases hu; exact d1
    · rw [g 2 _ rfl] at hu; cases hu; exact d2
    · rw [g 3 _ rfl] at hu; cases hu; exact d3)
  rw [← had] at hp1 ho
  have HPG := Lib.hid hpg
  have HM := Lib.hid hm
  have HAT := Lib.hid hat
  clear had ho hpg hm hat
  go_enter Try.func88, Try.ntmps88
  go_wp2
  rename_i K hK
  suffices key : ∀ {t10 t11 t12 t13 t14 t15 t16 t17 t18 t19 t20 : Value} {wE : World} {b g5 c5 : Nat}, Hid (Below w.heap.size w wE) → Hid (wE.cell? ⟨b, 0, none⟩ = some (.int .i64 R)) → Hid (wE.cell? ⟨b, 1, none⟩ = some (.slice (some ⟨g5, 0, none⟩) os.length c5)) → Hid (w.heap.size ≤ b ∧ b < wE.heap.size) → Hid (∀ g, g ∈ ob (.slice (some ⟨g5, 0, none⟩) os.length c5) → g ≠ b) → Hid (wE.ownsRow w.heap.size 125 4 (.slice (some ⟨g5, 0, none⟩) os.length c5) os.length (ordV os)) → K ⟨#[.pointer (some ⟨p, 0, none⟩), .int .i64 mode, .int .i64 at_, undef, undef, undef, .int .i64 0, .pointer (some ⟨b, 0, none⟩), undef, undef, t10, t11, t12, t13, t14, t15, t16, t17, t18, t19, t20, undef, undef, undef, undef, undef, undef, undef, undef, undef, undef, undef, undef, undef, undef, undef, undef, undef, undef, undef, undef, undef, undef], []⟩ wE by
    have hcD : Below w.heap.size w w.drew := (Below.refl _ _).drew
    have hS0 : w.drew.cell? ⟨p, 0, none⟩ = some (.int .i64 (R : Int)) ∧ w.drew.cell? ⟨p, 1, none⟩ = some (.slice (some ad) os.length co) := ⟨hp0, hp1⟩
    refine wp_region_C (n := 13) (l := #[false, false, false, false, false, false, false, false, false, false, false, false, false]) (fun wx => wx.cell? ⟨p, 0, none⟩ = some (.int .i64 (R : Int)) ∧ wx.cell? ⟨p, 1, none⟩ = some (.slice (some ad) os.length co)) [12] (by kernel_rfl) rfl rfl ?_
    refine wpC_take (i := 0) (v := ?v0_1) (l' := #[true, false, false, false, false, false, false, false, false, false, false, false, false]) [1, 2, 3, 10, 12] rfl (by kernel_rfl) (by kernel_rfl) (by kernel_rfl) (by kernel_rfl) (by kernel_rfl) rfl (fun _ _ _ h => h) (by rfl) (fun wx hS => ?q0_1) (by assumption) ?_
    case q0_1 => (go_simp; try with_reducible rfl)
    try simp only [List.getElem_toArray, List.getElem_cons_zero, Act.put, List.setIfInBounds_toArray, List.set_cons_zero, List.set_cons_succ]
    refine wpC_take (i := 1) (v := ?v1_2) (l' := #[true, true, false, false, false, false, false, false, false, false, false, false, false]) [2, 3, 10, 12] rfl (by kernel_rfl) (by kernel_rfl) (by kernel_rfl) (by kernel_rfl) (by kernel_rfl) rfl (fun _ _ _ h => h) (by rfl) (fun wx hS => ?q1_2) (by assumption) ?_
    case q1_2 => ((try dsimp only at hS); obtain ⟨hS1, hS2⟩ := hS; go_simp; try with_reducible rfl)
    try simp only [List.getElem_toArray, List.getElem_cons_succ, List.getElem_cons_zero, Act.put, List.setIfInBounds_toArray, List.set_cons_zero, List.set_cons_succ]
    refine wpC_take (i := 2) (v := ?v2_3) (l' := #[true, true, true, false, false, false, false, false, false, false, false, false, false]) [3, 10, 12] rfl (by kernel_rfl) (by kernel_rfl) (by kernel_rfl) (by kernel_rfl) (by kernel_rfl) rfl (fun _ _ _ h => h) (by rfl) (fun wx hS => ?q2_3) (by assumption) ?_
    case q2_3 => (go_simp; try with_reducible rfl)
    try simp only [List.getElem_toArray, List.getElem_cons_succ, List.getElem_cons_zero, Act.put, List.setIfInBounds_toArray, List.set_cons_zero, List.set_cons_succ]
    refine wpC_take (i := 3) (v := ?v3_4) (l' := #[true, true, true, true, false, false, false, false, false, false, false, false, false]) [10, 12] rfl (by kernel_rfl) (by kernel_rfl) (by kernel_rfl) (by kernel_rfl) (by kernel_rfl) rfl (fun _ _ _ h => h) (by rfl) (fun wx hS => ?q3_4) (by assumption) ?_
    case q3_4 => ((try dsimp only at hS); obtain ⟨hS1, hS2⟩ := hS; go_simp; try with_reducible rfl)
    try simp only [List.getElem_toArray, List.getElem_cons_succ, List.getElem_cons_zero, Act.put, List.setIfInBounds_toArray, List.set_cons_zero, List.set_cons_succ]
    refine wpC_take (i := 5) (v := ?v5_5) (l' := #[true, true, true, true, false, true, false, false, false, false, false, false, false]) [6, 7, 8, 9, 10, 12] rfl (by kernel_rfl) (by kernel_rfl) (by kernel_rfl) (by kernel_rfl) (by kernel_rfl) rfl (fun _ _ _ h => h) (by rfl) (fun wx hS => ?q5_5) (by assumption) ?_
    case q5_5 => (go_simp; try with_reducible rfl)
    try simp only [List.getElem_toArray, List.getElem_cons_succ, List.getElem_cons_zero, Act.put, List.setIfInBounds_toArray, List.set_cons_zero, List.set_cons_succ]
    refine wpC_take (i := 6) (v := ?v6_6) (l' := #[true, true, true, true, false, true, true, false, false, false, false, false, false]) [7, 8, 9, 10, 12] rfl (by kernel_rfl) (by kernel_rfl) (by kernel_rfl) (by kernel_rfl) (by kernel_rfl) rfl (fun _ _ _ h => h) (by rfl) (fun wx hS => ?q6_6) (by assumption) ?_
    case q6_6 => ((try dsimp only at hS); obtain ⟨hS1, hS2⟩ := hS; go_simp; try with_reducible rfl)
    try simp only [List.getElem_toArray, List.getElem_cons_succ, List.getElem_cons_zero, Act.put, List.setIfInBounds_toArray, List.set_cons_zero, List.set_cons_succ]
    refine wpC_take (i := 7) (v := ?v7_7) (l' := #[true, true, true, true, false, true, true, true, false, false, false, false, false]) [8, 9, 10, 12] rfl (by kernel_rfl) (by kernel_rfl) (by kernel_rfl) (by kernel_rfl) (by kernel_rfl) rfl (fun _ _ _ h => h) (by rfl) (fun wx hS => ?q7_7) (by assumption) ?_
    case q7_7 => (go_simp; try with_reducible rfl)
    try simp only [List.getElem_toArray, List.getElem_cons_succ, List.getElem_cons_zero, Act.put, List.setIfInBounds_toArray, List.set_cons_zero, List.set_cons_succ]
    refine wpC_take (i := 8) (v := ?v8_8) (l' := #[true, true, true, true, false, true, true, true, true, false, false, false, false]) [9, 10, 12] rfl (by kernel_rfl) (by kernel_rfl) (by kernel_rfl) (by kernel_rfl) (by kernel_rfl) rfl (fun _ _ _ h => h) (by rfl) (fun wx hS => ?q8_8) (by assumption) ?_
    case q8_8 => ((try dsimp only at hS); obtain ⟨hS1, hS2⟩ := hS; go_simp; try with_reducible rfl)
    try simp only [List.getElem_toArray, List.getElem_cons_succ, List.getElem_cons_zero, Act.put, List.setIfInBounds_toArray, List.set_cons_zero, List.set_cons_succ]
    refine wpC_two (i := 4) (j := 11) (l' := #[true, true, true, true, true, true, true, true, true, false, false, false, false]) (l'' := #[true, true, true, true, false, true, true, true, true, false, false, true, false]) (by kernel_rfl) rfl rfl rfl rfl (by rfl) (by rfl) (fun Kr hKr => ?_) (fun Kr hKr => ?_)
    · go_simp
      refine hKr _ _ (fun _ => ⟨(bcell1 (below_dr (below_alloc _ _)) zp).trans hp0, (bcell1 (below_dr (below_alloc _ _)) zp).trans hp1⟩) ?_
      clear hKr Kr
      try simp only [List.getElem_toArray, List.getElem_cons_succ, List.getElem_cons_zero, Act.put, List.setIfInBounds_toArray, List.set_cons_zero, List.set_cons_succ]
      obtain ⟨wM, hwM⟩ : ∃ wz, wz = (w.alloc (.cells #[] 125)).drew := ⟨_, rfl⟩
      rw [← hwM]
      have hcM : Below w.heap.size w wM := by rw [hwM]; exact (below_dr (below_alloc _ _))
      have hxM : Below w.heap.size w wM := by rw [hwM]; exact (below_dr (below_alloc _ _))
      have ltM : w.heap.size < wM.heap.size := by rw [hwM]; simp
      have hqM := hcM.size
      have hgM := hxM.size
      have hLM : wM.ownsRow w.heap.size 125 4 (.slice (some ⟨w.heap.size, 0, none⟩) 0 0) 0 [] := by rw [hwM]; exact ownsRow_kept (rowMade 125 4 w w.heap.size (Nat.le_refl _)) (fun _ _ => rfl)
      clear hwM
      have hSM : wM.cell? ⟨p, 0, none⟩ = some (.int .i64 (R : Int)) ∧ wM.cell? ⟨p, 1, none⟩ = some (.slice (some ad) os.length co) := ⟨(bcell1 hcM zp).trans hp0, (bcell1 hcM zp).trans hp1⟩
      refine wpC_two (i := 9) (j := 11) (l' := #[true, true, true, true, true, true, true, true, true, true, false, false, false]) (l'' := #[true, true, true, true, true, true, true, true, true, false, false, true, false]) (by kernel_rfl) rfl rfl rfl rfl (by rfl) (by rfl) (fun Kr hKr => ?_) (fun Kr hKr => ?_)
      · have hcb9 := HVL.out wM hcM
        refine step_rows rfl _ _ 50 rfl tabO rfl (by omega) (by decide) w.heap.size (.slice (some ⟨w.heap.size, 0, none⟩) 0 0) rfl hLM ad os.length co (ordV os) rfl (ordV_len os) hcb9 (ordV_one os) (by omega) (by omega) hcM.size ?_
        intro v5 w5 hL5 hch5 hg5
        obtain ⟨g5, c5, rfl⟩ := rowVal hL5 (by omega)
        have hob5 : ob (.slice (some ⟨w.heap.size, 0, none⟩) 0 0) = [w.heap.size] := rfl
        rw [hob5] at hch5 hg5
        have hc5 : Below w.heap.size w w5 := hcM.trans (hch5.below hcM.size (fun y hy => by simp at hy; omega))
        have hq5 := hc5.size
        have hqq5 := hch5.size
        refine hKr _ _ (fun _ => ⟨(bcell1 hc5 zp).trans hp0, (bcell1 hc5 zp).trans hp1⟩) ?_
        clear hKr Kr
        try simp only [List.getElem_toArray, List.getElem_cons_succ, List.getElem_cons_zero, Act.put, List.setIfInBounds_toArray, List.set_cons_zero, List.set_cons_succ]
        have hS5 : w5.cell? ⟨p, 0, none⟩ = some (.int .i64 (R : Int)) ∧ w5.cell? ⟨p, 1, none⟩ = some (.slice (some ad) os.length co) := ⟨(bcell1 hc5 zp).trans hp0, (bcell1 hc5 zp).trans hp1⟩
        refine wpC_take (i := 10) (v := ?v10_9) (l' := #[true, true, true, true, true, true, true, true, true, true, true, false, false]) [12] rfl (by kernel_rfl) (by kernel_rfl) (by kernel_rfl) (by kernel_rfl) (by kernel_rfl) rfl (fun _ _ _ h => h) (by rfl) (fun wx hS => ?q10_9) (by assumption) ?_
        case q10_9 => (go_simp; try with_reducible rfl)
        try simp only [List.getElem_toArray, List.getElem_cons_succ, List.getElem_cons_zero, Act.put, List.setIfInBounds_toArray, List.set_cons_zero, List.set_cons_succ]
        refine wpC_one (i := 11) (l' := #[true, true, true, true, true, true, true, true, true, true, true, true, false]) (by kernel_rfl) rfl rfl (by rfl) (fun Kr hKr => ?_)
        go_simp
        refine hKr _ _ (fun _ => ⟨(bcell1 (hc5.trans ((below_alloc _ _).mono hc5.size)) zp).trans hp0, (bcell1 (hc5.trans ((below_alloc _ _).mono hc5.size)) zp).trans hp1⟩) ?_
        clear hKr Kr
        try simp only [List.getElem_toArray, List.getElem_cons_succ, List.getElem_cons_zero, Act.put, List.setIfInBounds_toArray, List.set_cons_zero, List.set_cons_succ]
        have hL50 := hL5
        obtain ⟨wA, hwA⟩ : ∃ wz, wz = w5.alloc (.cells #[.int .i64 0, .slice none 0 0] 52) := ⟨_, rfl⟩
        rw [← hwA]
        have hcA : Below w.heap.size w wA := by rw [hwA]; exact (hc5.trans ((below_alloc _ _).mono hc5.size))
        have hxA : Below w5.heap.size w5 wA := by rw [hwA]; exact below_alloc _ _
        have ltA : w5.heap.size < wA.heap.size := by rw [hwA]; simp
        have hqA := hcA.size
        have hgA := hxA.size
        have zc0 : wA.cell? ⟨w5.heap.size, 0, none⟩ = some (.int .i64 0) := by rw [hwA]; simp [go_sem]
        have zy0 : wA.frozen? ⟨w5.heap.size, 0, none⟩ = false := by rw [hwA]; simp [go_sem]
        have zc1 : wA.cell? ⟨w5.heap.size, 1, none⟩ = some (.slice none 0 0) := by rw [hwA]; simp [go_sem]
        have zy1 : wA.frozen? ⟨w5.heap.size, 1, none⟩ = false := by rw [hwA]; simp [go_sem]
        clear hwA
        have hSA : wA.cell? ⟨p, 0, none⟩ = some (.int .i64 (R : Int)) ∧ wA.cell? ⟨p, 1, none⟩ = some (.slice (some ad) os.length co) := ⟨(bcell1 hcA zp).trans hp0, (bcell1 hcA zp).trans hp1⟩
        replace hL5 := ownsRow_kept hL5 (w' := wA) (fun g hg => hxA.block g (ob_lt hL5 g hg).2)
        have hna5 : ∀ g, g ∈ ob (.slice (some ⟨g5, 0, none⟩) os.length c5) → g ≠ w5.heap.size := fun g hg e => by have := (ob_lt hL50 g hg).2; omega
        refine wpC_one (i := 12) (l' := #[true, true, true, true, true, true, true, true, true, true, true, true, true]) (by kernel_rfl) rfl rfl (by rfl) (fun Kr hKr => ?_)
        have hBB : w.heap.size ≤ w5.heap.size := by omega
        go_simp
        have hE := box2 (.int .i64 (R : Int)) (.slice (some ⟨g5, 0, none⟩) os.length c5) hcA hBB ltA zc0 zc1
        refine hKr _ _ (fun _ => ⟨(bcell1 hE.1 zp).trans hp0, (bcell1 hE.1 zp).trans hp1⟩) ?_
        clear hKr Kr
        try simp only [List.getElem_toArray, List.getElem_cons_succ, List.getElem_cons_zero, Act.put, List.setIfInBounds_toArray, List.set_cons_zero, List.set_cons_succ]
        refine wpC_done (by kernel_rfl) ?_ _
        obtain ⟨hE1, hE2, _, hE4, hE5⟩ := hE
        exact key (Lib.hid hE1) (Lib.hid hE4) (Lib.hid hE5) (Lib.hid ⟨hBB, hE2⟩) (Lib.hid hna5) (Lib.hid (ownsRow_kept hL5 (fun g hg => by rw [Below.heap_setCell _ _ _ _ (hna5 g hg), Below.heap_setCell _ _ _ _ (hna5 g hg)])))
      · go_simp
        refine hKr _ _ (fun _ => ⟨(bcell1 (hcM.trans ((below_alloc _ _).mono hcM.size)) zp).trans hp0, (bcell1 (hcM.trans ((below_alloc _ _).mono hcM.size)) zp).trans hp1⟩) ?_
        clear hKr Kr
        try simp only [List.getElem_toArray, List.getElem_cons_succ, List.getElem_cons_zero, Act.put, List.setIfInBounds_toArray, List.set_cons_zero, List.set_cons_succ]
        obtain ⟨wA, hwA⟩ : ∃ wz, wz = wM.alloc (.cells #[.int .i64 0, .slice none 0 0] 52) := ⟨_, rfl⟩
        rw [← hwA]
        have hcA : Below w.heap.size w wA := by rw [hwA]; exact (hcM.trans ((below_alloc _ _).mono hcM.size))
        have hxA : Below wM.heap.size wM wA := by rw [hwA]; exact below_alloc _ _
        have ltA : wM.heap.size < wA.heap.size := by rw [hwA]; simp
        have hqA := hcA.size
        have hgA := hxA.size
        have zc0 : wA.cell? ⟨wM.heap.size, 0, none⟩ = some (.int .i64 0) := by rw [hwA]; simp [go_sem]
        have zy0 : wA.frozen? ⟨wM.heap.size, 0, none⟩ = false := by rw [hwA]; simp [go_sem]
        have zc1 : wA.cell? ⟨wM.heap.size, 1, none⟩ = some (.slice none 0 0) := by rw [hwA]; simp [go_sem]
        have zy1 : wA.frozen? ⟨wM.heap.size, 1, none⟩ = false := by rw [hwA]; simp [go_sem]
        replace hLM := ownsRow_kept hLM (w' := wA) (fun g hg => hxA.block g (ob_lt hLM g hg).2)
        clear hwA
        have hSA : wA.cell? ⟨p, 0, none⟩ = some (.int .i64 (R : Int)) ∧ wA.cell? ⟨p, 1, none⟩ = some (.slice (some ad) os.length co) := ⟨(bcell1 hcA zp).trans hp0, (bcell1 hcA zp).trans hp1⟩
        refine wpC_one (i := 9) (l' := #[true, true, true, true, true, true, true, true, true, true, false, true, false]) (by kernel_rfl) rfl rfl (by rfl) (fun Kr hKr => ?_)
        have hcb9 := HVL.out wA hcA
        refine step_rows rfl _ _ 50 rfl tabO rfl (by omega) (by decide) w.heap.size (.slice (some ⟨w.heap.size, 0, none⟩) 0 0) rfl hLM ad os.length co (ordV os) rfl (ordV_len os) hcb9 (ordV_one os) (by omega) (by omega) hcA.size ?_
        intro v5 w5 hL5 hch5 hg5
        obtain ⟨g5, c5, rfl⟩ := rowVal hL5 (by omega)
        have hob5 : ob (.slice (some ⟨w.heap.size, 0, none⟩) 0 0) = [w.heap.size] := rfl
        rw [hob5] at hch5 hg5
        have hc5 : Below w.heap.size w w5 := hcA.trans (hch5.below hcA.size (fun y hy => by simp at hy; omega))
        have hq5 := hc5.size
        have hqq5 := hch5.size
        have hna : wM.heap.size ∉ [w.heap.size] := by simp; omega
        replace zc0 := (hch5.cell ltA hna 0).trans zc0
        replace zy0 := (hch5.frozen ltA hna 0).trans zy0
        replace zc1 := (hch5.cell ltA hna 1).trans zc1
        replace zy1 := (hch5.frozen ltA hna 1).trans zy1
        have lt5 : wM.heap.size < w5.heap.size := Nat.lt_of_lt_of_le ltA hch5.size
        have hna5 : ∀ g, g ∈ ob (.slice (some ⟨g5, 0, none⟩) os.length c5) → g ≠ wM.heap.size := fun g hg e => by rcases hg5 g hg with h | h; (simp at h; omega); omega
        refine hKr _ _ (fun _ => ⟨(bcell1 hc5 zp).trans hp0, (bcell1 hc5 zp).trans hp1⟩) ?_
        clear hKr Kr
        try simp only [List.getElem_toArray, List.getElem_cons_succ, List.getElem_cons_zero, Act.put, List.setIfInBounds_toArray, List.set_cons_zero, List.set_cons_succ]
        have hS5 : w5.cell? ⟨p, 0, none⟩ = some (.int .i64 (R : Int)) ∧ w5.cell? ⟨p, 1, none⟩ = some (.slice (some ad) os.length co) := ⟨(bcell1 hc5 zp).trans hp0, (bcell1 hc5 zp).trans hp1⟩
        refine wpC_take (i := 10) (v := ?v10_10) (l' := #[true, true, true, true, true, true, true, true, true, true, true, true, false]) [12] rfl (by kernel_rfl) (by kernel_rfl) (by kernel_rfl) (by kernel_rfl) (by kernel_rfl) rfl (fun _ _ _ h => h) (by rfl) (fun wx hS => ?q10_10) (by assumption) ?_
        case q10_10 => (go_simp; try with_reducible rfl)
        try simp only [List.getElem_toArray, List.getElem_cons_succ, List.getElem_cons_zero, Act.put, List.setIfInBounds_toArray, List.set_cons_zero, List.set_cons_succ]
        refine wpC_one (i := 12) (l' := #[true, true, true, true, true, true, true, true, true, true, true, true, true]) (by kernel_rfl) rfl rfl (by rfl) (fun Kr hKr => ?_)
        have hBB : w.heap.size ≤ wM.heap.size := by omega
        go_simp
        have hE := box2 (.int .i64 (R : Int)) (.slice (some ⟨g5, 0, none⟩) os.length c5) hc5 hBB lt5 zc0 zc1
        refine hKr _ _ (fun _ => ⟨(bcell1 hE.1 zp).trans hp0, (bcell1 hE.1 zp).trans hp1⟩) ?_
        clear hKr Kr
        try simp only [List.getElem_toArray, List.getElem_cons_succ, List.getElem_cons_zero, Act.put, List.setIfInBounds_toArray, List.set_cons_zero, List.set_cons_succ]
        refine wpC_done (by kernel_rfl) ?_ _
        obtain ⟨hE1, hE2, _, hE4, hE5⟩ := hE
        exact key (Lib.hid hE1) (Lib.hid hE4) (Lib.hid hE5) (Lib.hid ⟨hBB, hE2⟩) (Lib.hid hna5) (Lib.hid (ownsRow_kept hL5 (fun g hg => by rw [Below.heap_setCell _ _ _ _ (hna5 g hg), Below.heap_setCell _ _ _ _ (hna5 g hg)])))
    · go_simp
      refine hKr _ _ (fun _ => ⟨(bcell1 (below_dr (below_alloc _ _)) zp).trans hp0, (bcell1 (below_dr (below_alloc _ _)) zp).trans hp1⟩) ?_
      clear hKr Kr
      try simp only [List.getElem_toArray, List.getElem_cons_succ, List.getElem_cons_zero, Act.put, List.setIfInBounds_toArray, List.set_cons_zero, List.set_cons_succ]
      obtain ⟨wA, hwA⟩ : ∃ wz, wz = (w.alloc (.cells #[.int .i64 0, .slice none 0 0] 52)).drew := ⟨_, rfl⟩
      rw [← hwA]
      have hcA : Below w.heap.size w wA := by rw [hwA]; exact (below_dr (below_alloc _ _))
      have hxA : Below w.heap.size w wA := by rw [hwA]; exact (below_dr (below_alloc _ _))
      have ltA : w.heap.size < wA.heap.size := by rw [hwA]; simp
      have hqA := hcA.size
      have hgA := hxA.size
      have zc0 : wA.cell? ⟨w.heap.size, 0, none⟩ = some (.int .i64 0) := by rw [hwA]; simp [go_sem]
      have zy0 : wA.frozen? ⟨w.heap.size, 0, none⟩ = false := by rw [hwA]; simp [go_sem]
      have zc1 : wA.cell? ⟨w.heap.size, 1, none⟩ = some (.slice none 0 0) := by rw [hwA]; simp [go_sem]
      have zy1 : wA.frozen? ⟨w.heap.size, 1, none⟩ = false := by rw [hwA]; simp [go_sem]
      clear hwA
      have hSA : wA.cell? ⟨p, 0, none⟩ = some (.int .i64 (R : Int)) ∧ wA.cell? ⟨p, 1, none⟩ = some (.slice (some ad) os.length co) := ⟨(bcell1 hcA zp).trans hp0, (bcell1 hcA zp).trans hp1⟩
      refine wpC_one (i := 4) (l' := #[true, true, true, true, true, true, true, true, true, false, false, true, false]) (by kernel_rfl) rfl rfl (by rfl) (fun Kr hKr => ?_)
      go_simp
      refine hKr _ _ (fun _ => ⟨(bcell1 (hcA.trans ((below_alloc _ _).mono hcA.size)) zp).trans hp0, (bcell1 (hcA.trans ((below_alloc _ _).mono hcA.size)) zp).trans hp1⟩) ?_
      clear hKr Kr
      try simp only [List.getElem_toArray, List.getElem_cons_succ, List.getElem_cons_zero, Act.put, List.setIfInBounds_toArray, List.set_cons_zero, List.set_cons_succ]
      obtain ⟨wM, hwM⟩ : ∃ wz, wz = wA.alloc (.cells #[] 125) := ⟨_, rfl⟩
      rw [← hwM]
      have hcM : Below w.heap.size w wM := by rw [hwM]; exact (hcA.trans ((below_alloc _ _).mono hcA.size))
      have hxM : Below wA.heap.size wA wM := by rw [hwM]; exact below_alloc _ _
      have ltM : wA.heap.size < wM.heap.size := by rw [hwM]; simp
      have hqM := hcM.size
      have hgM := hxM.size
      have hLM : wM.ownsRow w.heap.size 125 4 (.slice (some ⟨wA.heap.size, 0, none⟩) 0 0) 0 [] := by rw [hwM]; exact rowMade 125 4 wA w.heap.size hcA.size
      replace zc0 := (bcell1 hxM ltA).trans zc0
      replace zy0 := (hxM.frozen (p := ⟨w.heap.size, 0, none⟩) ltA).trans zy0
      replace zc1 := (bcell1 hxM ltA).trans zc1
      replace zy1 := (hxM.frozen (p := ⟨w.heap.size, 1, none⟩) ltA).trans zy1
      have ltAM : w.heap.size < wM.heap.size := Nat.lt_of_lt_of_le ltA hxM.size
      clear hwM
      have hSM : wM.cell? ⟨p, 0, none⟩ = some (.int .i64 (R : Int)) ∧ wM.cell? ⟨p, 1, none⟩ = some (.slice (some ad) os.length co) := ⟨(bcell1 hcM zp).trans hp0, (bcell1 hcM zp).trans hp1⟩
      refine wpC_one (i := 9) (l' := #[true, true, true, true, true, true, true, true, true, true, false, true, false]) (by kernel_rfl) rfl rfl (by rfl) (fun Kr hKr => ?_)
      have hcb9 := HVL.out wM hcM
      refine step_rows rfl _ _ 50 rfl tabO rfl (by omega) (by decide) w.heap.size (.slice (some ⟨wA.heap.size, 0, none⟩) 0 0) rfl hLM ad os.length co (ordV os) rfl (ordV_len os) hcb9 (ordV_one os) (by omega) (by omega) hcM.size ?_
      intro v5 w5 hL5 hch5 hg5
      obtain ⟨g5, c5, rfl⟩ := rowVal hL5 (by omega)
      have hob5 : ob (.slice (some ⟨wA.heap.size, 0, none⟩) 0 0) = [wA.heap.size] := rfl
      rw [hob5] at hch5 hg5
      have hc5 : Below w.heap.size w w5 := hcM.trans (hch5.below hcM.size (fun y hy => by simp at hy; omega))
      have hq5 := hc5.size
      have hqq5 := hch5.size
      have hna : w.heap.size ∉ [wA.heap.size] := by simp; omega
      replace zc0 := (hch5.cell ltAM hna 0).trans zc0
      replace zy0 := (hch5.frozen ltAM hna 0).trans zy0
      replace zc1 := (hch5.cell ltAM hna 1).trans zc1
      replace zy1 := (hch5.frozen ltAM hna 1).trans zy1
      have lt5 : w.heap.size < w5.heap.size := Nat.lt_of_lt_of_le ltAM hch5.size
      have hna5 : ∀ g, g ∈ ob (.slice (some ⟨g5, 0, none⟩) os.length c5) → g ≠ w.heap.size := fun g hg e => by rcases hg5 g hg with h | h; (simp at h; omega); omega
      refine hKr _ _ (fun _ => ⟨(bcell1 hc5 zp).trans hp0, (bcell1 hc5 zp).trans hp1⟩) ?_
      clear hKr Kr
      try simp only [List.getElem_toArray, List.getElem_cons_succ, List.getElem_cons_zero, Act.put, List.setIfInBounds_toArray, List.set_cons_zero, List.set_cons_succ]
      have hS5 : w5.cell? ⟨p, 0, none⟩ = some (.int .i64 (R : Int)) ∧ w5.cell? ⟨p, 1, none⟩ = some (.slice (some ad) os.length co) := ⟨(bcell1 hc5 zp).trans hp0, (bcell1 hc5 zp).trans hp1⟩
      refine wpC_take (i := 10) (v := ?v10_11) (l' := #[true, true, true, true, true, true, true, true, true, true, true, true, false]) [12] rfl (by kernel_rfl) (by kernel_rfl) (by kernel_rfl) (by kernel_rfl) (by kernel_rfl) rfl (fun _ _ _ h => h) (by rfl) (fun wx hS => ?q10_11) (by assumption) ?_
      case q10_11 => (go_simp; try with_reducible rfl)
      try simp only [List.getElem_toArray, List.getElem_cons_succ, List.getElem_cons_zero, Act.put, List.setIfInBounds_toArray, List.set_cons_zero, List.set_cons_succ]
      refine wpC_one (i := 12) (l' := #[true, true, true, true, true, true, true, true, true, true, true, true, true]) (by kernel_rfl) rfl rfl (by rfl) (fun Kr hKr => ?_)
      have hBB : w.heap.size ≤ w.heap.size := by omega
      go_simp
      have hE := box2 (.int .i64 (R : Int)) (.slice (some ⟨g5, 0, none⟩) os.length c5) hc5 hBB lt5 zc0 zc1
      refine hKr _ _ (fun _ => ⟨(bcell1 hE.1 zp).trans hp0, (bcell1 hE.1 zp).trans hp1⟩) ?_
      clear hKr Kr
      try simp only [List.getElem_toArray, List.getElem_cons_succ, List.getElem_cons_zero, Act.put, List.setIfInBounds_toArray, List.set_cons_zero, List.set_cons_succ]
      refine wpC_done (by kernel_rfl) ?_ _
      obtain ⟨hE1, hE2, _, hE4, hE5⟩ := hE
      exact key (Lib.hid hE1) (Lib.hid hE4) (Lib.hid hE5) (Lib.hid ⟨hBB, hE2⟩) (Lib.hid hna5) (Lib.hid (ownsRow_kept hL5 (fun g hg => by rw [Below.heap_setCell _ _ _ _ (hna5 g hg), Below.heap_setCell _ _ _ _ (hna5 g hg)])))
  intro t10 t11 t12 t13 t14 t15 t16 t17 t18 t19 t20 wE b g5 c5 HB H0 H1 HL HN HR
  apply hK
  have HQ := Lib.hid (OrC.of HR.out)
  have hgb : g5 ≠ b := HN.out g5 (mem_ob.2 rfl)
  have hgl := ob_lt HR.out g5 (mem_ob.2 rfl)
  have hbl := HL.out
  have i5 := ix_of (P := Try.prog) tabO.under tabO.size (a := some ⟨g5, 0, none⟩) (n := os.length) (fun _ => ⟨g5, 0, rfl⟩) c5
  simp only [adr, blk, ofs, Nat.zero_add] at i5
  clear hK HVL
  go_wp2
  go_loopw [8] (fun i wr => ∃ (k : Nat) (qs : List Ord), at_ ≤ k ∧ k ≤ os.length ∧ i = .int .i64 k ∧ Hid (qs.length = os.length) ∧ Hid (∀ j, j < k → nthO qs j = nthO (cutO os at_) j) ∧ Hid (Below w.heap.size w wr) ∧ Hid (wE.heap.size = wr.heap.size) ∧ Hid (wr.cell? ⟨b, 0, none⟩ = some (.int .i64 R)) ∧ wr.cell? ⟨b, 1, none⟩ = some (.slice (some ⟨g5, 0, none⟩) os.length c5) ∧ Hid (OrC wr g5 qs)) (fun i _ => os.length - (intOf i).toNat)
  case atStart => exact ⟨at_, os, Nat.le_refl _, HAT.out, rfl, Lib.hid rfl, Lib.hid (fun j hj => by rw [cutO_nth HAT.out (by have := HAT.out; omega), if_pos hj]), HB, Lib.hid rfl, H0, H1.out, HQ⟩
  case round =>
    obtain ⟨k, qs, hk0, hk, rfl, HLQ, HE, HBR, HZ, HP0, b1, HC⟩ := hrel
    by_cases hlt : k < os.length
    · have hki : (k : Int) < os.length := by omega
      have i6 := fun w' => i5 (k : Int) w' (by omega) hki
      simp only [Int.toNat_natCast] at i6
      have l0 := HC.out.c0 k (by rw [HLQ.out]; exact hlt)
      have l1 := HC.out.c1 k (by rw [HLQ.out]; exact hlt)
      have l2 := HC.out.c2 k (by rw [HLQ.out]; exact hlt)
      have l3 := HC.out.c3 k (by rw [HLQ.out]; exact hlt)
      have y0 := HC.out.free (k * 4)
      have y1 := HC.out.free (k * 4 + 1)
      have y2 := HC.out.free (k * 4 + 2)
      have y3 := HC.out.free (k * 4 + 3)
      go_wp2
      go_roundw
      case rel => exact ⟨k + 1, qs.set k ⟨3, 0, 0, 0⟩, by omega, by omega, by go_num, Lib.hid (by simpa using HLQ.out), Lib.hid (cutO_step HAT.out hlt hk0 HLQ.out HE.out), Lib.hid ((((HBR.out.setCell hgl.1 _).setCell hgl.1 _).setCell hgl.1 _).setCell hgl.1 _), Lib.hid (by rw [size_set, size_set, size_set, size_set]; exact HZ.out), Lib.hid (by rw [cell_blk _ _ _ hgb, cell_blk _ _ _ hgb, cell_blk _ _ _ hgb, cell_blk _ _ _ hgb]; exact HP0.out), by rw [cell_blk _ _ _ hgb, cell_blk _ _ _ hgb, cell_blk _ _ _ hgb, cell_blk _ _ _ hgb]; exact b1, Lib.hid (HC.out.set (by rw [HLQ.out]; exact hlt) 3 0 0 0)⟩
      case measure => simp [intOf]; omega
    · obtain rfl : k = os.length := by omega
      have hq : qs = cutO os at_ := nthO_ext (by rw [cutO_len HAT.out]; exact HLQ.out) (fun j hj => HE.out j (by rw [← HLQ.out]; exact hj))
      subst hq
      have hlen : (cutO os at_).length = os.length := HLQ.out
      rw [← hlen] at b1
      have HMD := Lib.hid (l05Made_c R b (some ⟨g5, 0, none⟩) c5 (cutO os at_) mode wr (HC.out.slO (by rw [hlen]; unfold maxLen; omega)) HP0.out b1 (cutO_ok HPG.out HAT.out) HM.out)
      have HRL : Hid ((rulesS R (cutO os at_) mode).length = baseS R os mode at_ + if mode = 3 then 1 else 0) := Lib.hid (cutO_rules R HAT.out)
      have hR25 : (rulesS R (cutO os at_) mode).length ≤ 25 := by have := rulesS_len R (cutO os at_) mode; omega
      obtain ⟨M, hM⟩ : ∃ M, M = (rulesS R (cutO os at_) mode).length := ⟨_, rfl⟩
      obtain ⟨W, hW⟩ : ∃ W, W = baseS R os mode at_ := ⟨_, rfl⟩
      rw [← hM] at HRL hR25
      rw [← hW] at HRL
      have HW := Lib.hid hW
      have HMM := Lib.hid hM
      clear hM hW
      rw [hlen] at b1
      clear hlen hlt HLQ HE HC hk0 HPG HAT i5
      by_cases hm3 : mode = 3
      · have hMW : M = W + 1 := by have := HRL.out; rw [if_pos hm3] at this; exact this
        subst hMW
        subst hm3
        go_wp2_with fail
        refine HMD.out.mono ?_
        rintro e w2 ⟨vs, F2, rfl, hb2, ho2, hn2, hF2⟩
        obtain ⟨a1, n1, c1, a2, c2, rfl⟩ := ho2.three
        rw [← HMM.out, show (Array.mk [Value.int .i64 (kindsN R (cutO os at_) 3 : Nat), .slice a1 n1 c1, .slice a2 (W + 1) c2] : Array Value) = #[.int .i64 (kindsN R (cutO os at_) 3 : Nat), .slice a1 n1 c1, .slice a2 (W + 1) c2] from rfl]
        have HB2 := Lib.hid (bnext HBR.out hb2 (Nat.le_refl _))
        have hfd := fun w' => fldSys (kindsN R (cutO os at_) 3 : Nat) a1 a2 n1 c1 (W + 1) c2 w'
        clear hb2 ho2 hn2 hF2
        go_wp2
        go_ret
        exact ⟨by rw [← HW.out]; rfl, HB2.out⟩
      · have hMW : M = W := by have := HRL.out; rw [if_neg hm3] at this; exact this
        subst hMW
        have b3 : (mode == 3) = false := by simpa using hm3
        clear hm3
        go_wp2_with fail
        refine HMD.out.mono ?_
        rintro e w2 ⟨vs, F2, rfl, hb2, ho2, hn2, hF2⟩
        obtain ⟨a1, n1, c1, a2, c2, rfl⟩ := ho2.three
        rw [← HMM.out, show (Array.mk [Value.int .i64 (kindsN R (cutO os at_) mode : Nat), .slice a1 n1 c1, .slice a2 (M) c2] : Array Value) = #[.int .i64 (kindsN R (cutO os at_) mode : Nat), .slice a1 n1 c1, .slice a2 (M) c2] from rfl]
        have HB2 := Lib.hid (bnext HBR.out hb2 (Nat.le_refl _))
        have hfd := fun w' => fldSys (kindsN R (cutO os at_) mode : Nat) a1 a2 n1 c1 (M) c2 w'
        clear hb2 ho2 hn2 hF2
        go_wp2
        go_ret
        exact ⟨by rw [← HW.out]; rfl, HB2.out⟩
end Go.Proofs.Ytncndnholheemaa
