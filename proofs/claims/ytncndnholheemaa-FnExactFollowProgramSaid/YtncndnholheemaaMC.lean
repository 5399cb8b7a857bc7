/- The rules that a program becomes: one rule more. Written by mkmb.py. -/
import Derived.Test.YtncndnholheemaaMB
import Derived.Test.YtncndnholheemaaYR
import Derived.Test.YtncndnholheemaaRM
namespace Go.Proofs.Ytncndnholheemaa
open Go.RowKit

theorem SlI.one {wx : World} {b : Nat} {x : Int} (h : wx.cell? ⟨b, 0, none⟩ = some (.int .i64 x)) : SlI Any wx (some ⟨b, 0, none⟩) [x] :=
  ⟨by simp [maxLen], fun _ => ⟨trivial, b, 0, rfl⟩, fun i hi => by
    have : i = 0 := by simpa using hi
    subst this; simpa [adr, blk, ofs, nth] using h⟩
theorem SlI.two {wx : World} {b : Nat} {x y : Int} (h : wx.cell? ⟨b, 0, none⟩ = some (.int .i64 x)) (h2 : wx.cell? ⟨b, 1, none⟩ = some (.int .i64 y)) : SlI Any wx (some ⟨b, 0, none⟩) [x, y] :=
  ⟨by simp [maxLen], fun _ => ⟨trivial, b, 0, rfl⟩, fun i hi => by
    match i, hi with
    | 0, _ => simpa [adr, blk, ofs, nth] using h
    | 1, _ => simpa [adr, blk, ofs, nth] using h2⟩
theorem SlI.nil0 (wx : World) (a : Option Addr) : SlI Any wx a [] := ⟨by simp, fun h => absurd h (by simp), fun i hi => absurd hi (by simp)⟩
theorem below_al {w wx : World} (h : Below w.heap.size w wx) (o : Obj) : Below w.heap.size w (wx.alloc o) := h.alloc h.size o
theorem below_dr {w wx : World} (h : Below w.heap.size w wx) : Below w.heap.size w wx.drew := h.drew
/-- What a call of 'bag' gives. -/
structure Bag1 (w pw wx w' : World) (K : Nat) (ks : List Int) (a : Option Addr) (c : Nat) (F : List Nat) : Prop where
  ow : Ow w' (dI (bagK K ks)) (.slice a K c) F
  nd : F.Nodup
  lo : ∀ x, x ∈ F → pw.heap.size ≤ x
  hi : ∀ x, x ∈ F → x < w'.heap.size
  b0 : Below w.heap.size w w'
  bp : Below pw.heap.size pw w'
  cell : ∀ {q : Addr} {x : Value}, wx.cell? q = some x → w'.cell? q = some x
theorem Bag1.of {w pw wx w' : World} {K : Nat} {ks : List Int} {v : Value} {F : List Nat} (hb : Below wx.heap.size wx w') (ho : Ow w' (dI (bagK K ks)) v F) (hn : F.Nodup) (hl : ∀ x, x ∈ F → wx.heap.size ≤ x) (hx : Below w.heap.size w wx) (hp : Below pw.heap.size pw wx) : ∃ a c, v = .slice a K c ∧ Bag1 w pw wx w' K ks a c F := by
  obtain ⟨a, c, rfl⟩ := ho.val
  rw [bagK_len] at *
  exact ⟨a, c, rfl, ho, hn, fun x hx' => Nat.le_trans hp.size (hl x hx'), Ow.lt _ _ _ ho, hx.trans (hb.mono hx.size), hp.trans (hb.mono hp.size), fun {q} {x} h => (hb.cell (World.block_lt_of_cell? wx _ h)).trans h⟩
/-- What a new row takes. -/
theorem RowAt.rul {E : TypeId} {B : Nat} {w w6 : World} {K : Nat} {rank : Int} {k1 k2 k3 k4 : List Int} {a1 a2 a3 a4 a5 : Option Addr} {c1 c2 c3 c4 c5 : Nat} {F1 F2 F3 F4 F5 G : List Nat}
    (h1 : Ow w6 (dI (bagK K k1)) (.slice a1 K c1) F1) (h2 : Ow w6 (dI (bagK K k2)) (.slice a2 K c2) F2) (h3 : Ow w6 (dI (bagK K k3)) (.slice a3 K c3) F3) (h4 : Ow w6 (dI (bagK K k4)) (.slice a4 K c4) F4) (h5 : Ow w6 (dI (bagK K [])) (.slice a5 K c5) F5)
    (hn : (F1 ++ (F2 ++ (F3 ++ (F4 ++ F5)))).Nodup) (hl : ∀ x, x ∈ F1 ++ (F2 ++ (F3 ++ (F4 ++ F5))) → w.heap.size ≤ x) (hB : B ≤ w.heap.size) (hG : ∀ x, x ∈ G → x < w.heap.size) :
    RowAt (w6.alloc (.cells #[.int .i64 0, .int .i64 rank, .slice a1 K c1, .slice a2 K c2, .slice a3 K c3, .slice a4 K c4, .slice a5 K c5, .slice none 0 0, .bool false] E)) w6.heap.size 9 B (rulK K rank k1 k2 k3 k4).ds [.int .i64 0, .int .i64 rank, .slice a1 K c1, .slice a2 K c2, .slice a3 K c3, .slice a4 K c4, .slice a5 K c5, .slice none 0 0, .bool false] (F1 ++ (F2 ++ (F3 ++ (F4 ++ F5)))) G := by
  have al := below_alloc w6 (.cells #[.int .i64 0, .int .i64 rank, .slice a1 K c1, .slice a2 K c2, .slice a3 K c3, .slice a4 K c4, .slice a5 K c5, .slice none 0 0, .bool false] E)
  refine ⟨⟨[], _, ⟨rfl, rfl⟩, ⟨[], _, ⟨rfl, rfl⟩, ⟨F1, F2 ++ (F3 ++ (F4 ++ F5)), h1.below al, ⟨F2, F3 ++ (F4 ++ F5), h2.below al, ⟨F3, F4 ++ F5, h3.below al, ⟨F4, F5, h4.below al, ⟨F5, [], h5.below al, ⟨[], [], Ow_empty _ _ _ _, ⟨[], [], ⟨rfl, rfl⟩, rfl, rfl⟩, rfl⟩, by simp⟩, rfl⟩, rfl⟩, rfl⟩, rfl⟩, rfl⟩, rfl⟩, rfl, hn, fun x hx => Nat.le_trans hB (hl x hx), fun x hx hg => ?_, fun j u hu => ?_, by simp [Value.oneCell']⟩
  · have := hl x hx; have := hG x hg; omega
  · match j, hu with
    | 0, hu => simp at hu; subst hu; simp
    | 1, hu => simp at hu; subst hu; simp
    | 2, hu => simp at hu; subst hu; simp
    | 3, hu => simp at hu; subst hu; simp
    | 4, hu => simp at hu; subst hu; simp
    | 5, hu => simp at hu; subst hu; simp
    | 6, hu => simp at hu; subst hu; simp
    | 7, hu => simp at hu; subst hu; simp
    | 8, hu => simp at hu; subst hu; simp
theorem RowAt.five {E : TypeId} {B : Nat} {w x1 x2 x3 x4 x5 w1 w2 w3 w4 w5 : World} {K : Nat} {rank : Int} {k1 k2 k3 k4 : List Int} {a1 a2 a3 a4 a5 : Option Addr} {c1 c2 c3 c4 c5 : Nat} {F1 F2 F3 F4 F5 G : List Nat}
    (q1 : Bag1 w w x1 w1 K k1 a1 c1 F1) (q2 : Bag1 w w1 x2 w2 K k2 a2 c2 F2) (q3 : Bag1 w w2 x3 w3 K k3 a3 c3 F3) (q4 : Bag1 w w3 x4 w4 K k4 a4 c4 F4) (q5 : Bag1 w w4 x5 w5 K [] a5 c5 F5) (hB : B ≤ w.heap.size) (hG : ∀ x, x ∈ G → x < w.heap.size) :
    RowAt (w5.alloc (.cells #[.int .i64 0, .int .i64 rank, .slice a1 K c1, .slice a2 K c2, .slice a3 K c3, .slice a4 K c4, .slice a5 K c5, .slice none 0 0, .bool false] E)) w5.heap.size 9 B (rulK K rank k1 k2 k3 k4).ds [.int .i64 0, .int .i64 rank, .slice a1 K c1, .slice a2 K c2, .slice a3 K c3, .slice a4 K c4, .slice a5 K c5, .slice none 0 0, .bool false] (F1 ++ (F2 ++ (F3 ++ (F4 ++ F5)))) G ∧
    ∀ x, x ∈ F1 ++ (F2 ++ (F3 ++ (F4 ++ F5))) → w.heap.size ≤ x := by
  have s1 := q1.bp.size
  have s2 := q2.bp.size
  have s3 := q3.bp.size
  have s4 := q4.bp.size
  have l5 := q5.lo
  have l4 : ∀ x, x ∈ F4 ++ F5 → w3.heap.size ≤ x := fun x hx => by
    rcases List.mem_append.1 hx with hx | hx
    · exact q4.lo x hx
    · have := l5 x hx; omega
  have l3 : ∀ x, x ∈ F3 ++ (F4 ++ F5) → w2.heap.size ≤ x := fun x hx => by
    rcases List.mem_append.1 hx with hx | hx
    · exact q3.lo x hx
    · have := l4 x hx; omega
  have l2 : ∀ x, x ∈ F2 ++ (F3 ++ (F4 ++ F5)) → w1.heap.size ≤ x := fun x hx => by
    rcases List.mem_append.1 hx with hx | hx
    · exact q2.lo x hx
    · have := l3 x hx; omega
  have l1 : ∀ x, x ∈ F1 ++ (F2 ++ (F3 ++ (F4 ++ F5))) → w.heap.size ≤ x := fun x hx => by
    rcases List.mem_append.1 hx with hx | hx
    · exact q1.lo x hx
    · have := l2 x hx; omega
  have n4 := nodup_next w4.heap.size q4.nd q5.nd q4.hi l5
  have n3 := nodup_next w3.heap.size q3.nd n4 q3.hi l4
  have n2 := nodup_next w2.heap.size q2.nd n3 q2.hi l3
  have n1 := nodup_next w1.heap.size q1.nd n2 q1.hi l2
  have r := Nat.le_refl
  have b45 := q5.bp
  have b35 := bnext q4.bp b45 (r _)
  have b25 := bnext q3.bp b35 (r _)
  have b15 := bnext q2.bp b25 (r _)
  exact ⟨RowAt.rul (q1.ow.below b15) (q2.ow.below b25) (q3.ow.below b35) (q4.ow.below b45) q5.ow n1 l1 hB hG, l1⟩
/-- One rule more has been made. -/
structure MkrNext (E : TypeId) (B : Nat) (w w' : World) (g K : Nat) (rs : List Rul) (r : Rul) (v : Value) (G : List Nat) (gl c : Nat) (G' : List Nat) : Prop where
  made : Mkr E B w' g K (rs ++ [r]) (.slice (some ⟨gl, 0, none⟩) (rs.length + 1) c) G'
  chg : Chg (g :: ob v) w w'
  mem : ∀ x, x ∈ G' → x ∈ G ∨ w.heap.size ≤ x
  gl : gl ∈ G'
  oth : ∀ i, i ≠ 1 → w'.cell? ⟨g, i, none⟩ = w.cell? ⟨g, i, none⟩ ∧ w'.frozen? ⟨g, i, none⟩ = w.frozen? ⟨g, i, none⟩
theorem MkrNext.later {E : TypeId} {B : Nat} {w w' w2 : World} {g K : Nat} {rs : List Rul} {r : Rul} {v : Value} {G : List Nat} {gl c : Nat} {G' : List Nat} (h : MkrNext E B w w' g K rs r v G gl c G') (hb : Below w'.heap.size w' w2) : MkrNext E B w w2 g K rs r v G gl c G' :=
  ⟨h.made.keep hb, Chg.trans h.chg (Chg.ofBelow hb), h.mem, h.gl, fun i hi => ⟨(bcell1 hb h.made.hg.2).trans (h.oth i hi).1, (hb.frozen (p := ⟨g, i, none⟩) h.made.hg.2).trans (h.oth i hi).2⟩⟩
theorem Mkr.next {E : TypeId} {B : Nat} {w wb w7 : World} {g K : Nat} {rs : List Rul} {r : Rul} {v v' : Value} {G F G' : List Nat} (h : Mkr E B w g K rs v G) (hb : Below w.heap.size w wb) (hN : LstNext E 9 wb w7 B v v' rs.length (rs.flatMap Rul.ds) r.ds G F G') (hF : ∀ x, x ∈ F → w.heap.size ≤ x) :
    w7.cell? ⟨g, 1, none⟩ = some v ∧ w7.frozen? ⟨g, 1, none⟩ = false ∧ ∃ gl c, v' = .slice (some ⟨gl, 0, none⟩) (rs.length + 1) c ∧ MkrNext E B w (w7.setCell ⟨g, 1, none⟩ v') g K rs r v G gl c G' := by
  have hk := h.keep hb
  have hgv : g ∉ ob v := fun e => h.ap (ob_sub h.lst _ e)
  have hz := hk.hg.2
  have c0 := (hN.chg.cell hz hgv 0).trans hk.c0
  have c1 := (hN.chg.cell hz hgv 1).trans hk.c1
  have fr := (hN.chg.frozen hz hgv 1).trans hk.fr
  have hG : ∀ x, x ∈ G' → x ∈ G ∨ w.heap.size ≤ x := fun x hx => by
    rcases hN.mem x hx with h | h | h
    · exact .inl h
    · exact .inr (hF x h)
    · exact .inr (Nat.le_trans hb.size h)
  have hng : g ∉ G' := fun e => by
    rcases hG g e with e | e
    · exact h.ap e
    · have := h.hg.2; omega
  have hL := hN.lst
  have hc9 : (rs.flatMap Rul.ds ++ r.ds) = (rs.flatMap Rul.ds ++ .i r.cell :: [.i r.rank, dI r.need, dI r.have_, dI r.lack, dI r.here, dI r.out, dInn r.into, .b r.melts]) := rfl
  rw [hc9] at hL
  obtain ⟨gl, c, rfl, _, _, hgl, _⟩ := Lst.num hL
  refine ⟨c1, fr, gl, c, rfl, ⟨⟨?_, World.cell?_setCell_same _ _ _ c1, by rw [World.frozen?_setCell]; exact fr, ?_, hng, h.hg.1, ?_⟩, ?_, hG, hgl, fun i hi => ⟨?_, ?_⟩⟩⟩
  · rw [World.cell?_setCell_other _ _ _ _ (by simp)]; exact c0
  · have := hN.lst.keep (chg_set w7 ⟨g, 1, none⟩ (.slice (some ⟨gl, 0, none⟩) (rs.length + 1) c) [g] (by simp)) (fun x hx e => by simp at e; subst e; exact hng hx)
    rw [List.flatMap_append, List.length_append]
    simpa using this
  · have h1 := hN.chg.size
    have h2 := (Exc.setCell w7 ⟨g, 1, none⟩ (.slice (some ⟨gl, 0, none⟩) (rs.length + 1) c)).size
    omega
  · refine Chg.trans (F := g :: ob v) (Chg.ofBelow hb) ⟨?_, ?_, ?_, ?_, fun k hk hF => ?_⟩
    · exact hN.chg.os
    · exact hN.chg.tape
    · exact hN.chg.output
    · have := (Exc.setCell w7 ⟨g, 1, none⟩ (.slice (some ⟨gl, 0, none⟩) (rs.length + 1) c)).size
      have := hN.chg.size
      omega
    · have h1 := hN.chg.block k hk (fun e => hF (by simp [e]))
      rw [← h1]
      exact (Exc.setCell w7 ⟨g, 1, none⟩ (.slice (some ⟨gl, 0, none⟩) (rs.length + 1) c)).block k (by simp; intro e; subst e; exact hF (by simp))
  · rw [World.cell?_setCell_other _ _ _ _ (by intro e; cases e; exact hi rfl), hN.chg.cell hz hgv i]
    exact bcell1 hb h.hg.2
  · rw [World.frozen?_setCell, hN.chg.frozen hz hgv i]
    exact hb.frozen (p := ⟨g, i, none⟩) h.hg.2
set_option maxHeartbeats 400000 in
set_option maxRecDepth 100000 in
theorem rule_c (K g : Nat) (tk : Int) (af : Option Addr) (cf : Nat) (from_ : List Int) (B : Nat) (rs : List Rul) (v : Value) (G : List Nat) (w : World) (hm : Mkr 173 B w g K rs v G) (hB : B ≤ w.heap.size) (hf : SlI Any w af from_) (hf2 : from_.length ≤ 2) (hfk : ∀ j, j < from_.length → 0 ≤ nth from_ j ∧ nth from_ j < K) (ht : 0 ≤ tk ∧ tk < K) (hK : K ≤ 17) (hr : rs.length ≤ 30) :
    Calls Try.prog 132 #[.pointer (some ⟨g, 0, none⟩), .int .i64 tk, .slice af from_.length cf] w (fun e w' => ∃ gl c G', e = .returned (.pointer (some ⟨gl, rs.length * 9, none⟩)) ∧ MkrNext 173 B w w' g K rs (rulK K 0 from_ [] [] [tk]) v G gl c G') := by
  have hrun := callFunc_run Try.func160 (by kernel_rfl) rfl
  have hg := hm.hg
  have hone : ∀ j, j < [tk].length → 0 ≤ nth [tk] j ∧ nth [tk] j < K := fun j hj => by
    have : j = 0 := by simpa using hj
    subst this
    exact ht
  have HC1 : Hid (∀ wx, Below w.heap.size w wx → Calls Try.prog 160 #[.pointer (some ⟨g, 0, none⟩), .slice af from_.length cf] wx (RetD wx (dI (bagK K from_)))) := Lib.hid fun wx h => bag_c K g af cf from_ wx (hf.below h) ((bcell1 h hg.2).trans hm.c0) hK hfk hf2
  have HC2 : Hid (∀ wx, Below w.heap.size w wx → Calls Try.prog 160 #[.pointer (some ⟨g, 0, none⟩), .slice none 0 0] wx (RetD wx (dI (bagK K [])))) := Lib.hid fun wx h => bag_c K g none 0 [] wx (SlI.nil0 _ _) ((bcell1 h hg.2).trans hm.c0) hK (by simp) (by simp)
  have HC3 : Hid (∀ wx b, Below w.heap.size w wx → wx.cell? ⟨b, 0, none⟩ = some (.int .i64 tk) → Calls Try.prog 160 #[.pointer (some ⟨g, 0, none⟩), .slice (some ⟨b, 0, none⟩) 1 1] wx (RetD wx (dI (bagK K [tk])))) := Lib.hid fun wx b h hc => bag_c K g (some ⟨b, 0, none⟩) 1 [tk] wx (SlI.one hc) ((bcell1 h hg.2).trans hm.c0) hK hone (by simp)
  have HM := Lib.hid hm
  have HLT : Hid (∀ x, x ∈ G → x < w.heap.size) := Lib.hid fun x hx => (hm.lst.lt x hx).2
  have f1 := hm.c1
  have f1w : ∀ {wx : World}, Below w.heap.size w wx → wx.cell? ⟨g, 1, none⟩ = some v := fun h => (bcell1 h hg.2).trans hm.c1
  clear hm hf hfk ht hone
  go_enter Try.func132, Try.ntmps132
  go_wp2
  rename_i Kc hKc
  have key : ∀ {t7 t8 t9 t10 t11 t12 t13 t14 t15 t16 t17 t18 t19 t20 t21 t22 t23 t24 t25 t26 t27 t28 t29 : Value} {w9 : World} {gl c : Nat} {G' : List Nat}, MkrNext 173 B w w9 g K rs (rulK K 0 from_ [] [] [tk]) v G gl c G' → Kc ⟨#[.pointer (some ⟨g, 0, none⟩), .int .i64 tk, .slice af from_.length cf, undef, undef, undef, .pointer none, t7, t8, t9, t10, t11, t12, t13, t14, t15, t16, t17, t18, t19, t20, t21, t22, t23, t24, t25, t26, t27, t28, t29, undef, undef, undef, undef, undef, undef, undef, undef, undef, undef, undef], []⟩ w9 := by
    intro t7 t8 t9 t10 t11 t12 t13 t14 t15 t16 t17 t18 t19 t20 t21 t22 t23 t24 t25 t26 t27 t28 t29 w9 gl c G' hN
    apply hKc
    clear hKc HC1 HC2 HC3 f1 f1w
    have c1 := hN.made.c1
    have i1 := ix_of (P := Try.prog) tabRuleSM.under tabRuleSM.size (a := some ⟨gl, 0, none⟩) (n := rs.length + 1) (fun _ => ⟨gl, 0, rfl⟩) c
    simp only [adr, blk, ofs, Nat.zero_add] at i1
    have HN := Lib.hid hN
    clear hN
    go_wp2
    go_quiet (fail)
    go_wp2
    go_ret
    exact ⟨gl, c, G', rfl, HN.out.later (by repeat (first | exact Below.refl _ _ | exact below_drewN _ _ _ | refine below_dr ?_))⟩
  have hs0 : w.drew.cell? ⟨g, 1, none⟩ = some v := f1w (below_dr (Below.refl _ _))
  refine wp_region_C (n := 24) (l := #[false, false, false, false, false, false, false, false, false, false, false, false, false, false, false, false, false, false, false, false, false, false, false, false]) (fun wx => wx.cell? ⟨g, 1, none⟩ = some v) [23] (by kernel_rfl) rfl rfl ?_
  refine wpC_take (i := 0) (v := ?v0_1) (l' := #[true, false, false, false, false, false, false, false, false, false, false, false, false, false, false, false, false, false, false, false, false, false, false, false]) [21, 22, 23] rfl (by kernel_rfl) (by kernel_rfl) (by kernel_rfl) (by kernel_rfl) (by kernel_rfl) rfl (fun _ _ _ h => h) (by rfl) (fun wx hS => ?q0_1) (by assumption) ?_
  case q0_1 => (go_simp; try with_reducible rfl)
  try simp only [List.getElem_toArray, List.getElem_cons_zero, Act.put, List.setIfInBounds_toArray, List.set_cons_zero, List.set_cons_succ]
  refine wpC_take (i := 1) (v := ?v1_2) (l' := #[true, true, false, false, false, false, false, false, false, false, false, false, false, false, false, false, false, false, false, false, false, false, false, false]) [2, 3, 4, 20, 21, 22, 23] rfl (by kernel_rfl) (by kernel_rfl) (by kernel_rfl) (by kernel_rfl) (by kernel_rfl) rfl (fun _ _ _ h => h) (by rfl) (fun wx hS => ?q1_2) (by assumption) ?_
  case q1_2 => (go_simp; try with_reducible rfl)
  try simp only [List.getElem_toArray, List.getElem_cons_succ, List.getElem_cons_zero, Act.put, List.setIfInBounds_toArray, List.set_cons_zero, List.set_cons_succ]
  refine wpC_take (i := 2) (v := ?v2_3) (l' := #[true, true, true, false, false, false, false, false, false, false, false, false, false, false, false, false, false, false, false, false, false, false, false, false]) [3, 4, 20, 21, 22, 23] rfl (by kernel_rfl) (by kernel_rfl) (by kernel_rfl) (by kernel_rfl) (by kernel_rfl) rfl (fun _ _ _ h => h) (by rfl) (fun wx hS => ?q2_3) (by assumption) ?_
  case q2_3 => (go_simp; try with_reducible rfl)
  try simp only [List.getElem_toArray, List.getElem_cons_succ, List.getElem_cons_zero, Act.put, List.setIfInBounds_toArray, List.set_cons_zero, List.set_cons_succ]
  refine wpC_take (i := 3) (v := ?v3_4) (l' := #[true, true, true, true, false, false, false, false, false, false, false, false, false, false, false, false, false, false, false, false, false, false, false, false]) [4, 20, 21, 22, 23] rfl (by kernel_rfl) (by kernel_rfl) (by kernel_rfl) (by kernel_rfl) (by kernel_rfl) rfl (fun _ _ _ h => h) (by rfl) (fun wx hS => ?q3_4) (by assumption) ?_
  case q3_4 => (go_simp; try with_reducible rfl)
  try simp only [List.getElem_toArray, List.getElem_cons_succ, List.getElem_cons_zero, Act.put, List.setIfInBounds_toArray, List.set_cons_zero, List.set_cons_succ]
  refine wpC_take (i := 4) (v := ?v4_5) (l' := #[true, true, true, true, true, false, false, false, false, false, false, false, false, false, false, false, false, false, false, false, false, false, false, false]) [20, 21, 22, 23] rfl (by kernel_rfl) (by kernel_rfl) (by kernel_rfl) (by kernel_rfl) (by kernel_rfl) rfl (fun _ _ _ h => h) (by rfl) (fun wx hS => ?q4_5) (by assumption) ?_
  case q4_5 => ((try dsimp only at hS); go_simp; try with_reducible rfl)
  try simp only [List.getElem_toArray, List.getElem_cons_succ, List.getElem_cons_zero, Act.put, List.setIfInBounds_toArray, List.set_cons_zero, List.set_cons_succ]
  refine wpC_take (i := 5) (v := ?v5_6) (l' := #[true, true, true, true, true, true, false, false, false, false, false, false, false, false, false, false, false, false, false, false, false, false, false, false]) [7, 9, 11, 15, 17, 18, 19, 20, 21, 22, 23] rfl (by kernel_rfl) (by kernel_rfl) (by kernel_rfl) (by kernel_rfl) (by kernel_rfl) rfl (fun _ _ _ h => h) (by rfl) (fun wx hS => ?q5_6) (by assumption) ?_
  case q5_6 => (go_simp; try with_reducible rfl)
  try simp only [List.getElem_toArray, List.getElem_cons_succ, List.getElem_cons_zero, Act.put, List.setIfInBounds_toArray, List.set_cons_zero, List.set_cons_succ]
  refine wpC_take (i := 6) (v := ?v6_7) (l' := #[true, true, true, true, true, true, true, false, false, false, false, false, false, false, false, false, false, false, false, false, false, false, false, false]) [7, 9, 11, 15, 17, 18, 19, 20, 21, 22, 23] rfl (by kernel_rfl) (by kernel_rfl) (by kernel_rfl) (by kernel_rfl) (by kernel_rfl) rfl (fun _ _ _ h => h) (by rfl) (fun wx hS => ?q6_7) (by assumption) ?_
  case q6_7 => (go_simp; try with_reducible rfl)
  try simp only [List.getElem_toArray, List.getElem_cons_succ, List.getElem_cons_zero, Act.put, List.setIfInBounds_toArray, List.set_cons_zero, List.set_cons_succ]
  refine wpC_take (i := 8) (v := ?v8_8) (l' := #[true, true, true, true, true, true, true, false, true, false, false, false, false, false, false, false, false, false, false, false, false, false, false, false]) [9, 11, 15, 17, 18, 19, 20, 21, 22, 23] rfl (by kernel_rfl) (by kernel_rfl) (by kernel_rfl) (by kernel_rfl) (by kernel_rfl) rfl (fun _ _ _ h => h) (by rfl) (fun wx hS => ?q8_8) (by assumption) ?_
  case q8_8 => (go_simp; try with_reducible rfl)
  try simp only [List.getElem_toArray, List.getElem_cons_succ, List.getElem_cons_zero, Act.put, List.setIfInBounds_toArray, List.set_cons_zero, List.set_cons_succ]
  refine wpC_take (i := 10) (v := ?v10_9) (l' := #[true, true, true, true, true, true, true, false, true, false, true, false, false, false, false, false, false, false, false, false, false, false, false, false]) [11, 15, 17, 18, 19, 20, 21, 22, 23] rfl (by kernel_rfl) (by kernel_rfl) (by kernel_rfl) (by kernel_rfl) (by kernel_rfl) rfl (fun _ _ _ h => h) (by rfl) (fun wx hS => ?q10_9) (by assumption) ?_
  case q10_9 => (go_simp; try with_reducible rfl)
  try simp only [List.getElem_toArray, List.getElem_cons_succ, List.getElem_cons_zero, Act.put, List.setIfInBounds_toArray, List.set_cons_zero, List.set_cons_succ]
  refine wpC_take (i := 12) (v := ?v12_10) (l' := #[true, true, true, true, true, true, true, false, true, false, true, false, true, false, false, false, false, false, false, false, false, false, false, false]) [15, 17, 18, 19, 20, 21, 22, 23] rfl (by kernel_rfl) (by kernel_rfl) (by kernel_rfl) (by kernel_rfl) (by kernel_rfl) rfl (fun _ _ _ h => h) (by rfl) (fun wx hS => ?q12_10) (by assumption) ?_
  case q12_10 => (go_simp; try with_reducible rfl)
  try simp only [List.getElem_toArray, List.getElem_cons_succ, List.getElem_cons_zero, Act.put, List.setIfInBounds_toArray, List.set_cons_zero, List.set_cons_succ]
  refine wpC_take (i := 13) (v := ?v13_11) (l' := #[true, true, true, true, true, true, true, false, true, false, true, false, true, true, false, false, false, false, false, false, false, false, false, false]) [14, 15, 17, 18, 19, 20, 21, 22, 23] rfl (by kernel_rfl) (by kernel_rfl) (by kernel_rfl) (by kernel_rfl) (by kernel_rfl) rfl (fun _ _ _ h => h) (by rfl) (fun wx hS => ?q13_11) (by assumption) ?_
  case q13_11 => (go_simp; try with_reducible rfl)
  try simp only [List.getElem_toArray, List.getElem_cons_succ, List.getElem_cons_zero, Act.put, List.setIfInBounds_toArray, List.set_cons_zero, List.set_cons_succ]
  refine wpC_take (i := 16) (v := ?v16_12) (l' := #[true, true, true, true, true, true, true, false, true, false, true, false, true, true, false, false, true, false, false, false, false, false, false, false]) [17, 18, 19, 20, 21, 22, 23] rfl (by kernel_rfl) (by kernel_rfl) (by kernel_rfl) (by kernel_rfl) (by kernel_rfl) rfl (fun _ _ _ h => h) (by rfl) (fun wx hS => ?q16_12) (by assumption) ?_
  case q16_12 => (go_simp; try with_reducible rfl)
  try simp only [List.getElem_toArray, List.getElem_cons_succ, List.getElem_cons_zero, Act.put, List.setIfInBounds_toArray, List.set_cons_zero, List.set_cons_succ]
  refine wpC_two (i := 7) (j := 14) (l' := #[true, true, true, true, true, true, true, true, true, false, true, false, true, true, false, false, true, false, false, false, false, false, false, false]) (l'' := #[true, true, true, true, true, true, true, false, true, false, true, false, true, true, true, false, true, false, false, false, false, false, false, false]) (by kernel_rfl) rfl rfl rfl rfl (by rfl) (by rfl) (fun Kr hKr => ?_) (fun Kr hKr => ?_)
  · refine step_callD rfl 160 #[.tmp 12, .tmp 13] _ rfl hrun #[.pointer (some ⟨g, 0, none⟩), .slice af from_.length cf] (by first | rfl | (simp [Act.eval]; done) | (simp [Act.eval]; rfl) | (simp [Act.eval]; repeat' constructor)) (dI (bagK K from_)) (HC1.out _ (by (repeat (first | exact q5.b0 | exact q4.b0 | exact q3.b0 | exact q2.b0 | exact q1.b0 | exact Below.refl _ _ | refine below_dr ?_ | refine below_al ?_ _)); done)) ?_; intro v F1 w1 hb ho hn hl; have hx0 := Bag1.of (w := w) (pw := w) hb ho hn hl; have hx1 := hx0 (by (repeat (first | exact q5.b0 | exact q4.b0 | exact q3.b0 | exact q2.b0 | exact q1.b0 | exact Below.refl _ _ | refine below_dr ?_ | refine below_al ?_ _)); done); have hx2 := hx1 (by (repeat (first | exact Below.refl _ _ | refine below_dr ?_ | refine below_al ?_ _)); done); clear hx0 hx1 hb ho hn hl; obtain ⟨a1, c1, rfl, q1⟩ := hx2
    refine hKr _ _ (fun _ => f1w q1.b0) ?_
    clear hKr Kr
    try simp only [List.getElem_toArray, List.getElem_cons_succ, List.getElem_cons_zero, Act.put, List.setIfInBounds_toArray, List.set_cons_zero, List.set_cons_succ]
    refine wpC_two (i := 9) (j := 14) (l' := #[true, true, true, true, true, true, true, true, true, true, true, false, true, true, false, false, true, false, false, false, false, false, false, false]) (l'' := #[true, true, true, true, true, true, true, true, true, false, true, false, true, true, true, false, true, false, false, false, false, false, false, false]) (by kernel_rfl) rfl rfl rfl rfl (by rfl) (by rfl) (fun Kr hKr => ?_) (fun Kr hKr => ?_)
    · refine step_callD rfl 160 #[.tmp 15, .const (.slice none 0 0)] _ rfl hrun #[.pointer (some ⟨g, 0, none⟩), .slice none 0 0] (by first | rfl | (simp [Act.eval]; done) | (simp [Act.eval]; rfl) | (simp [Act.eval]; repeat' constructor)) (dI (bagK K [])) (HC2.out _ (by (repeat (first | exact q5.b0 | exact q4.b0 | exact q3.b0 | exact q2.b0 | exact q1.b0 | exact Below.refl _ _ | refine below_dr ?_ | refine below_al ?_ _)); done)) ?_; intro v F2 w2 hb ho hn hl; have hx0 := Bag1.of (w := w) (pw := w1) hb ho hn hl; have hx1 := hx0 (by (repeat (first | exact q5.b0 | exact q4.b0 | exact q3.b0 | exact q2.b0 | exact q1.b0 | exact Below.refl _ _ | refine below_dr ?_ | refine below_al ?_ _)); done); have hx2 := hx1 (by (repeat (first | exact Below.refl _ _ | refine below_dr ?_ | refine below_al ?_ _)); done); clear hx0 hx1 hb ho hn hl; obtain ⟨a2, c2, rfl, q2⟩ := hx2
      refine hKr _ _ (fun _ => f1w q2.b0) ?_
      clear hKr Kr
      try simp only [List.getElem_toArray, List.getElem_cons_succ, List.getElem_cons_zero, Act.put, List.setIfInBounds_toArray, List.set_cons_zero, List.set_cons_succ]
      refine wpC_two (i := 11) (j := 14) (l' := #[true, true, true, true, true, true, true, true, true, true, true, true, true, true, false, false, true, false, false, false, false, false, false, false]) (l'' := #[true, true, true, true, true, true, true, true, true, true, true, false, true, true, true, false, true, false, false, false, false, false, false, false]) (by kernel_rfl) rfl rfl rfl rfl (by rfl) (by rfl) (fun Kr hKr => ?_) (fun Kr hKr => ?_)
      · refine step_callD rfl 160 #[.tmp 17, .const (.slice none 0 0)] _ rfl hrun #[.pointer (some ⟨g, 0, none⟩), .slice none 0 0] (by first | rfl | (simp [Act.eval]; done) | (simp [Act.eval]; rfl) | (simp [Act.eval]; repeat' constructor)) (dI (bagK K [])) (HC2.out _ (by (repeat (first | exact q5.b0 | exact q4.b0 | exact q3.b0 | exact q2.b0 | exact q1.b0 | exact Below.refl _ _ | refine below_dr ?_ | refine below_al ?_ _)); done)) ?_; intro v F3 w3 hb ho hn hl; have hx0 := Bag1.of (w := w) (pw := w2) hb ho hn hl; have hx1 := hx0 (by (repeat (first | exact q5.b0 | exact q4.b0 | exact q3.b0 | exact q2.b0 | exact q1.b0 | exact Below.refl _ _ | refine below_dr ?_ | refine below_al ?_ _)); done); have hx2 := hx1 (by (repeat (first | exact Below.refl _ _ | refine below_dr ?_ | refine below_al ?_ _)); done); clear hx0 hx1 hb ho hn hl; obtain ⟨a3, c3, rfl, q3⟩ := hx2
        refine hKr _ _ (fun _ => f1w q3.b0) ?_
        clear hKr Kr
        try simp only [List.getElem_toArray, List.getElem_cons_succ, List.getElem_cons_zero, Act.put, List.setIfInBounds_toArray, List.set_cons_zero, List.set_cons_succ]
        refine wpC_one (i := 14) (l' := #[true, true, true, true, true, true, true, true, true, true, true, true, true, true, true, false, true, false, false, false, false, false, false, false]) (by kernel_rfl) rfl rfl (by rfl) (fun Kr hKr => ?_)
        go_simp
        refine hKr _ _ (fun _ => f1w (by (repeat (first | exact q5.b0 | exact q4.b0 | exact q3.b0 | exact q2.b0 | exact q1.b0 | exact Below.refl _ _ | refine below_dr ?_ | refine below_al ?_ _)); done)) ?_
        clear hKr Kr
        try simp only [List.getElem_toArray, List.getElem_cons_succ, List.getElem_cons_zero, Act.put, List.setIfInBounds_toArray, List.set_cons_zero, List.set_cons_succ]
        refine wpC_one (i := 15) (l' := #[true, true, true, true, true, true, true, true, true, true, true, true, true, true, true, true, true, false, false, false, false, false, false, false]) (by kernel_rfl) rfl rfl (by rfl) (fun Kr hKr => ?_)
        refine step_callD rfl 160 #[.tmp 19, .tmp 21] _ rfl hrun #[.pointer (some ⟨g, 0, none⟩), .slice (some ⟨_, 0, none⟩) 1 1] (by first | rfl | (simp [Act.eval]; done) | (simp [Act.eval]; rfl) | (simp [Act.eval]; repeat' constructor)) (dI (bagK K [tk])) (HC3.out _ _ (by (repeat (first | exact q5.b0 | exact q4.b0 | exact q3.b0 | exact q2.b0 | exact q1.b0 | exact Below.refl _ _ | refine below_dr ?_ | refine below_al ?_ _)); done) (by first | (simp [go_sem]; done) | exact q3.cell (by first | (simp [go_sem]; done) | exact q2.cell (by first | (simp [go_sem]; done) | exact q1.cell (by simp [go_sem]))))) ?_; intro v F4 w4 hb ho hn hl; have hx0 := Bag1.of (w := w) (pw := w3) hb ho hn hl; have hx1 := hx0 (by (repeat (first | exact q5.b0 | exact q4.b0 | exact q3.b0 | exact q2.b0 | exact q1.b0 | exact Below.refl _ _ | refine below_dr ?_ | refine below_al ?_ _)); done); have hx2 := hx1 (by (repeat (first | exact Below.refl _ _ | refine below_dr ?_ | refine below_al ?_ _)); done); clear hx0 hx1 hb ho hn hl; obtain ⟨a4, c4, rfl, q4⟩ := hx2
        refine hKr _ _ (fun _ => f1w q4.b0) ?_
        clear hKr Kr
        try simp only [List.getElem_toArray, List.getElem_cons_succ, List.getElem_cons_zero, Act.put, List.setIfInBounds_toArray, List.set_cons_zero, List.set_cons_succ]
        refine wpC_one (i := 17) (l' := #[true, true, true, true, true, true, true, true, true, true, true, true, true, true, true, true, true, true, false, false, false, false, false, false]) (by kernel_rfl) rfl rfl (by rfl) (fun Kr hKr => ?_)
        refine step_callD rfl 160 #[.tmp 23, .const (.slice none 0 0)] _ rfl hrun #[.pointer (some ⟨g, 0, none⟩), .slice none 0 0] (by first | rfl | (simp [Act.eval]; done) | (simp [Act.eval]; rfl) | (simp [Act.eval]; repeat' constructor)) (dI (bagK K [])) (HC2.out _ (by (repeat (first | exact q5.b0 | exact q4.b0 | exact q3.b0 | exact q2.b0 | exact q1.b0 | exact Below.refl _ _ | refine below_dr ?_ | refine below_al ?_ _)); done)) ?_; intro v F5 w5 hb ho hn hl; have hx0 := Bag1.of (w := w) (pw := w4) hb ho hn hl; have hx1 := hx0 (by (repeat (first | exact q5.b0 | exact q4.b0 | exact q3.b0 | exact q2.b0 | exact q1.b0 | exact Below.refl _ _ | refine below_dr ?_ | refine below_al ?_ _)); done); have hx2 := hx1 (by (repeat (first | exact Below.refl _ _ | refine below_dr ?_ | refine below_al ?_ _)); done); clear hx0 hx1 hb ho hn hl; obtain ⟨a5, c5, rfl, q5⟩ := hx2
        refine hKr _ _ (fun _ => f1w q5.b0) ?_
        clear hKr Kr
        try simp only [List.getElem_toArray, List.getElem_cons_succ, List.getElem_cons_zero, Act.put, List.setIfInBounds_toArray, List.set_cons_zero, List.set_cons_succ]
        have hs17 := f1w q5.b0
        refine wpC_take (i := 18) (v := ?v18_13) (l' := #[true, true, true, true, true, true, true, true, true, true, true, true, true, true, true, true, true, true, true, false, false, false, false, false]) [19, 20, 21, 22, 23] rfl (by kernel_rfl) (by kernel_rfl) (by kernel_rfl) (by kernel_rfl) (by kernel_rfl) rfl (fun _ _ _ h => h) (by rfl) (fun wx hS => ?q18_13) (by assumption) ?_
        case q18_13 => (go_simp; try with_reducible rfl)
        try simp only [List.getElem_toArray, List.getElem_cons_succ, List.getElem_cons_zero, Act.put, List.setIfInBounds_toArray, List.set_cons_zero, List.set_cons_succ]
        refine wpC_one (i := 19) (l' := #[true, true, true, true, true, true, true, true, true, true, true, true, true, true, true, true, true, true, true, true, false, false, false, false]) (by kernel_rfl) rfl rfl (by rfl) (fun Kr hKr => ?_)
        go_simp
        refine hKr _ _ (fun _ => f1w (by (repeat (first | exact q5.b0 | exact q4.b0 | exact q3.b0 | exact q2.b0 | exact q1.b0 | exact Below.refl _ _ | refine below_dr ?_ | refine below_al ?_ _)); done)) ?_
        clear hKr Kr
        try simp only [List.getElem_toArray, List.getElem_cons_succ, List.getElem_cons_zero, Act.put, List.setIfInBounds_toArray, List.set_cons_zero, List.set_cons_succ]
        refine wpC_one (i := 20) (l' := #[true, true, true, true, true, true, true, true, true, true, true, true, true, true, true, true, true, true, true, true, true, false, false, false]) (by kernel_rfl) rfl rfl (by rfl) (fun Kr hKr => ?_)
        refine step_lst rfl (.tmp 11) (.tmp 26) 118 rfl tabRuleSM rfl (by omega) (by decide) B v rs.length (rs.flatMap Rul.ds) (rulK K 0 from_ [] [] [tk]).ds G _ _ rfl (HM.out.lst.below (below_al q5.b0 _)) w5.heap.size rfl (RowAt.five q1 q2 q3 q4 q5 hB HLT.out).1 (by omega) (Nat.le_trans hB (below_al q5.b0 _).size) ?_
        intro v7 w7 G7 hN
        obtain ⟨z1, z2, gl, cl, rfl, hNx⟩ := Mkr.next HM.out (below_al q5.b0 _) hN (RowAt.five (E := 0) (rank := 0) q1 q2 q3 q4 q5 hB HLT.out).2
        refine hKr _ _ (fun _ => z1) ?_
        clear hKr Kr
        try simp only [List.getElem_toArray, List.getElem_cons_succ, List.getElem_cons_zero, Act.put, List.setIfInBounds_toArray, List.set_cons_zero, List.set_cons_succ]
        refine wpC_take (i := 21) (v := ?v21_14) (l' := #[true, true, true, true, true, true, true, true, true, true, true, true, true, true, true, true, true, true, true, true, true, true, false, false]) [22, 23] rfl (by kernel_rfl) (by kernel_rfl) (by kernel_rfl) (by kernel_rfl) (by kernel_rfl) rfl (fun _ _ _ h => h) (by rfl) (fun wx hS => ?q21_14) (by assumption) ?_
        case q21_14 => (go_simp; try with_reducible rfl)
        try simp only [List.getElem_toArray, List.getElem_cons_succ, List.getElem_cons_zero, Act.put, List.setIfInBounds_toArray, List.set_cons_zero, List.set_cons_succ]
        refine wpC_take (i := 22) (v := ?v22_15) (l' := #[true, true, true, true, true, true, true, true, true, true, true, true, true, true, true, true, true, true, true, true, true, true, true, false]) [23] rfl (by kernel_rfl) (by kernel_rfl) (by kernel_rfl) (by kernel_rfl) (by kernel_rfl) rfl (fun _ _ _ h => h) (by rfl) (fun wx hS => ?q22_15) (by assumption) ?_
        case q22_15 => (go_simp; try with_reducible rfl)
        try simp only [List.getElem_toArray, List.getElem_cons_succ, List.getElem_cons_zero, Act.put, List.setIfInBounds_toArray, List.set_cons_zero, List.set_cons_succ]
        refine wpC_one (i := 23) (l' := #[true, true, true, true, true, true, true, true, true, true, true, true, true, true, true, true, true, true, true, true, true, true, true, true]) (by kernel_rfl) rfl rfl (by rfl) (fun Kr hKr => ?_)
        go_simp
        refine hKr _ _ (fun h => absurd (by decide) h) ?_
        clear hKr Kr
        try simp only [List.getElem_toArray, List.getElem_cons_succ, List.getElem_cons_zero, Act.put, List.setIfInBounds_toArray, List.set_cons_zero, List.set_cons_succ]
        refine wpC_done (by kernel_rfl) ?_ _
        exact key hNx
      · go_simp
        refine hKr _ _ (fun _ => f1w (by (repeat (first | exact q5.b0 | exact q4.b0 | exact q3.b0 | exact q2.b0 | exact q1.b0 | exact Below.refl _ _ | refine below_dr ?_ | refine below_al ?_ _)); done)) ?_
        clear hKr Kr
        try simp only [List.getElem_toArray, List.getElem_cons_succ, List.getElem_cons_zero, Act.put, List.setIfInBounds_toArray, List.set_cons_zero, List.set_cons_succ]
        refine wpC_one (i := 11) (l' := #[true, true, true, true, true, true, true, true, true, true, true, true, true, true, true, false, true, false, false, false, false, false, false, false]) (by kernel_rfl) rfl rfl (by rfl) (fun Kr hKr => ?_)
        refine step_callD rfl 160 #[.tmp 17, .const (.slice none 0 0)] _ rfl hrun #[.pointer (some ⟨g, 0, none⟩), .slice none 0 0] (by first | rfl | (simp [Act.eval]; done) | (simp [Act.eval]; rfl) | (simp [Act.eval]; repeat' constructor)) (dI (bagK K [])) (HC2.out _ (by (repeat (first | exact q5.b0 | exact q4.b0 | exact q3.b0 | exact q2.b0 | exact q1.b0 | exact Below.refl _ _ | refine below_dr ?_ | refine below_al ?_ _)); done)) ?_; intro v F3 w3 hb ho hn hl; have hx0 := Bag1.of (w := w) (pw := w2) hb ho hn hl; have hx1 := hx0 (by (repeat (first | exact q5.b0 | exact q4.b0 | exact q3.b0 | exact q2.b0 | exact q1.b0 | exact Below.refl _ _ | refine below_dr ?_ | refine below_al ?_ _)); done); have hx2 := hx1 (by (repeat (first | exact Below.refl _ _ | refine below_dr ?_ | refine below_al ?_ _)); done); clear hx0 hx1 hb ho hn hl; obtain ⟨a3, c3, rfl, q3⟩ := hx2
        refine hKr _ _ (fun _ => f1w q3.b0) ?_
        clear hKr Kr
        try simp only [List.getElem_toArray, List.getElem_cons_succ, List.getElem_cons_zero, Act.put, List.setIfInBounds_toArray, List.set_cons_zero, List.set_cons_succ]
        refine wpC_one (i := 15) (l' := #[true, true, true, true, true, true, true, true, true, true, true, true, true, true, true, true, true, false, false, false, false, false, false, false]) (by kernel_rfl) rfl rfl (by rfl) (fun Kr hKr => ?_)
        refine step_callD rfl 160 #[.tmp 19, .tmp 21] _ rfl hrun #[.pointer (some ⟨g, 0, none⟩), .slice (some ⟨_, 0, none⟩) 1 1] (by first | rfl | (simp [Act.eval]; done) | (simp [Act.eval]; rfl) | (simp [Act.eval]; repeat' constructor)) (dI (bagK K [tk])) (HC3.out _ _ (by (repeat (first | exact q5.b0 | exact q4.b0 | exact q3.b0 | exact q2.b0 | exact q1.b0 | exact Below.refl _ _ | refine below_dr ?_ | refine below_al ?_ _)); done) (by first | (simp [go_sem]; done) | exact q3.cell (by first | (simp [go_sem]; done) | exact q2.cell (by first | (simp [go_sem]; done) | exact q1.cell (by simp [go_sem]))))) ?_; intro v F4 w4 hb ho hn hl; have hx0 := Bag1.of (w := w) (pw := w3) hb ho hn hl; have hx1 := hx0 (by (repeat (first | exact q5.b0 | exact q4.b0 | exact q3.b0 | exact q2.b0 | exact q1.b0 | exact Below.refl _ _ | refine below_dr ?_ | refine below_al ?_ _)); done); have hx2 := hx1 (by (repeat (first | exact Below.refl _ _ | refine below_dr ?_ | refine below_al ?_ _)); done); clear hx0 hx1 hb ho hn hl; obtain ⟨a4, c4, rfl, q4⟩ := hx2
        refine hKr _ _ (fun _ => f1w q4.b0) ?_
        clear hKr Kr
        try simp only [List.getElem_toArray, List.getElem_cons_succ, List.getElem_cons_zero, Act.put, List.setIfInBounds_toArray, List.set_cons_zero, List.set_cons_succ]
        refine wpC_one (i := 17) (l' := #[true, true, true, true, true, true, true, true, true, true, true, true, true, true, true, true, true, true, false, false, false, false, false, false]) (by kernel_rfl) rfl rfl (by rfl) (fun Kr hKr => ?_)
        refine step_callD rfl 160 #[.tmp 23, .const (.slice none 0 0)] _ rfl hrun #[.pointer (some ⟨g, 0, none⟩), .slice none 0 0] (by first | rfl | (simp [Act.eval]; done) | (simp [Act.eval]; rfl) | (simp [Act.eval]; repeat' constructor)) (dI (bagK K [])) (HC2.out _ (by (repeat (first | exact q5.b0 | exact q4.b0 | exact q3.b0 | exact q2.b0 | exact q1.b0 | exact Below.refl _ _ | refine below_dr ?_ | refine below_al ?_ _)); done)) ?_; intro v F5 w5 hb ho hn hl; have hx0 := Bag1.of (w := w) (pw := w4) hb ho hn hl; have hx1 := hx0 (by (repeat (first | exact q5.b0 | exact q4.b0 | exact q3.b0 | exact q2.b0 | exact q1.b0 | exact Below.refl _ _ | refine below_dr ?_ | refine below_al ?_ _)); done); have hx2 := hx1 (by (repeat (first | exact Below.refl _ _ | refine below_dr ?_ | refine below_al ?_ _)); done); clear hx0 hx1 hb ho hn hl; obtain ⟨a5, c5, rfl, q5⟩ := hx2
        refine hKr _ _ (fun _ => f1w q5.b0) ?_
        clear hKr Kr
        try simp only [List.getElem_toArray, List.getElem_cons_succ, List.getElem_cons_zero, Act.put, List.setIfInBounds_toArray, List.set_cons_zero, List.set_cons_succ]
        have hs17 := f1w q5.b0
        refine wpC_take (i := 18) (v := ?v18_16) (l' := #[true, true, true, true, true, true, true, true, true, true, true, true, true, true, true, true, true, true, true, false, false, false, false, false]) [19, 20, 21, 22, 23] rfl (by kernel_rfl) (by kernel_rfl) (by kernel_rfl) (by kernel_rfl) (by kernel_rfl) rfl (fun _ _ _ h => h) (by rfl) (fun wx hS => ?q18_16) (by assumption) ?_
        case q18_16 => (go_simp; try with_reducible rfl)
        try simp only [List.getElem_toArray, List.getElem_cons_succ, List.getElem_cons_zero, Act.put, List.setIfInBounds_toArray, List.set_cons_zero, List.set_cons_succ]
        refine wpC_one (i := 19) (l' := #[true, true, true, true, true, true, true, true, true, true, true, true, true, true, true, true, true, true, true, true, false, false, false, false]) (by kernel_rfl) rfl rfl (by rfl) (fun Kr hKr => ?_)
        go_simp
        refine hKr _ _ (fun _ => f1w (by (repeat (first | exact q5.b0 | exact q4.b0 | exact q3.b0 | exact q2.b0 | exact q1.b0 | exact Below.refl _ _ | refine below_dr ?_ | refine below_al ?_ _)); done)) ?_
        clear hKr Kr
        try simp only [List.getElem_toArray, List.getElem_cons_succ, List.getElem_cons_zero, Act.put, List.setIfInBounds_toArray, List.set_cons_zero, List.set_cons_succ]
        refine wpC_one (i := 20) (l' := #[true, true, true, true, true, true, true, true, true, true, true, true, true, true, true, true, true, true, true, true, true, false, false, false]) (by kernel_rfl) rfl rfl (by rfl) (fun Kr hKr => ?_)
        refine step_lst rfl (.tmp 11) (.tmp 26) 118 rfl tabRuleSM rfl (by omega) (by decide) B v rs.length (rs.flatMap Rul.ds) (rulK K 0 from_ [] [] [tk]).ds G _ _ rfl (HM.out.lst.below (below_al q5.b0 _)) w5.heap.size rfl (RowAt.five q1 q2 q3 q4 q5 hB HLT.out).1 (by omega) (Nat.le_trans hB (below_al q5.b0 _).size) ?_
        intro v7 w7 G7 hN
        obtain ⟨z1, z2, gl, cl, rfl, hNx⟩ := Mkr.next HM.out (below_al q5.b0 _) hN (RowAt.five (E := 0) (rank := 0) q1 q2 q3 q4 q5 hB HLT.out).2
        refine hKr _ _ (fun _ => z1) ?_
        clear hKr Kr
        try simp only [List.getElem_toArray, List.getElem_cons_succ, List.getElem_cons_zero, Act.put, List.setIfInBounds_toArray, List.set_cons_zero, List.set_cons_succ]
        refine wpC_take (i := 21) (v := ?v21_17) (l' := #[true, true, true, true, true, true, true, true, true, true, true, true, true, true, true, true, true, true, true, true, true, true, false, false]) [22, 23] rfl (by kernel_rfl) (by kernel_rfl) (by kernel_rfl) (by kernel_rfl) (by kernel_rfl) rfl (fun _ _ _ h => h) (by rfl) (fun wx hS => ?q21_17) (by assumption) ?_
        case q21_17 => (go_simp; try with_reducible rfl)
        try simp only [List.getElem_toArray, List.getElem_cons_succ, List.getElem_cons_zero, Act.put, List.setIfInBounds_toArray, List.set_cons_zero, List.set_cons_succ]
        refine wpC_take (i := 22) (v := ?v22_18) (l' := #[true, true, true, true, true, true, true, true, true, true, true, true, true, true, true, true, true, true, true, true, true, true, true, false]) [23] rfl (by kernel_rfl) (by kernel_rfl) (by kernel_rfl) (by kernel_rfl) (by kernel_rfl) rfl (fun _ _ _ h => h) (by rfl) (fun wx hS => ?q22_18) (by assumption) ?_
        case q22_18 => (go_simp; try with_reducible rfl)
        try simp only [List.getElem_toArray, List.getElem_cons_succ, List.getElem_cons_zero, Act.put, List.setIfInBounds_toArray, List.set_cons_zero, List.set_cons_succ]
        refine wpC_one (i := 23) (l' := #[true, true, true, true, true, true, true, true, true, true, true, true, true, true, true, true, true, true, true, true, true, true, true, true]) (by kernel_rfl) rfl rfl (by rfl) (fun Kr hKr => ?_)
        go_simp
        refine hKr _ _ (fun h => absurd (by decide) h) ?_
        clear hKr Kr
        try simp only [List.getElem_toArray, List.getElem_cons_succ, List.getElem_cons_zero, Act.put, List.setIfInBounds_toArray, List.set_cons_zero, List.set_cons_succ]
        refine wpC_done (by kernel_rfl) ?_ _
        exact key hNx
    · go_simp
      refine hKr _ _ (fun _ => f1w (by (repeat (first | exact q5.b0 | exact q4.b0 | exact q3.b0 | exact q2.b0 | exact q1.b0 | exact Below.refl _ _ | refine below_dr ?_ | refine below_al ?_ _)); done)) ?_
      clear hKr Kr
      try simp only [List.getElem_toArray, List.getElem_cons_succ, List.getElem_cons_zero, Act.put, List.setIfInBounds_toArray, List.set_cons_zero, List.set_cons_succ]
      refine wpC_one (i := 9) (l' := #[true, true, true, true, true, true, true, true, true, true, true, false, true, true, true, false, true, false, false, false, false, false, false, false]) (by kernel_rfl) rfl rfl (by rfl) (fun Kr hKr => ?_)
      refine step_callD rfl 160 #[.tmp 15, .const (.slice none 0 0)] _ rfl hrun #[.pointer (some ⟨g, 0, none⟩), .slice none 0 0] (by first | rfl | (simp [Act.eval]; done) | (simp [Act.eval]; rfl) | (simp [Act.eval]; repeat' constructor)) (dI (bagK K [])) (HC2.out _ (by (repeat (first | exact q5.b0 | exact q4.b0 | exact q3.b0 | exact q2.b0 | exact q1.b0 | exact Below.refl _ _ | refine below_dr ?_ | refine below_al ?_ _)); done)) ?_; intro v F2 w2 hb ho hn hl; have hx0 := Bag1.of (w := w) (pw := w1) hb ho hn hl; have hx1 := hx0 (by (repeat (first | exact q5.b0 | exact q4.b0 | exact q3.b0 | exact q2.b0 | exact q1.b0 | exact Below.refl _ _ | refine below_dr ?_ | refine below_al ?_ _)); done); have hx2 := hx1 (by (repeat (first | exact Below.refl _ _ | refine below_dr ?_ | refine below_al ?_ _)); done); clear hx0 hx1 hb ho hn hl; obtain ⟨a2, c2, rfl, q2⟩ := hx2
      refine hKr _ _ (fun _ => f1w q2.b0) ?_
      clear hKr Kr
      try simp only [List.getElem_toArray, List.getElem_cons_succ, List.getElem_cons_zero, Act.put, List.setIfInBounds_toArray, List.set_cons_zero, List.set_cons_succ]
      refine wpC_one (i := 11) (l' := #[true, true, true, true, true, true, true, true, true, true, true, true, true, true, true, false, true, false, false, false, false, false, false, false]) (by kernel_rfl) rfl rfl (by rfl) (fun Kr hKr => ?_)
      refine step_callD rfl 160 #[.tmp 17, .const (.slice none 0 0)] _ rfl hrun #[.pointer (some ⟨g, 0, none⟩), .slice none 0 0] (by first | rfl | (simp [Act.eval]; done) | (simp [Act.eval]; rfl) | (simp [Act.eval]; repeat' constructor)) (dI (bagK K [])) (HC2.out _ (by (repeat (first | exact q5.b0 | exact q4.b0 | exact q3.b0 | exact q2.b0 | exact q1.b0 | exact Below.refl _ _ | refine below_dr ?_ | refine below_al ?_ _)); done)) ?_; intro v F3 w3 hb ho hn hl; have hx0 := Bag1.of (w := w) (pw := w2) hb ho hn hl; have hx1 := hx0 (by (repeat (first | exact q5.b0 | exact q4.b0 | exact q3.b0 | exact q2.b0 | exact q1.b0 | exact Below.refl _ _ | refine below_dr ?_ | refine below_al ?_ _)); done); have hx2 := hx1 (by (repeat (first | exact Below.refl _ _ | refine below_dr ?_ | refine below_al ?_ _)); done); clear hx0 hx1 hb ho hn hl; obtain ⟨a3, c3, rfl, q3⟩ := hx2
      refine hKr _ _ (fun _ => f1w q3.b0) ?_
      clear hKr Kr
      try simp only [List.getElem_toArray, List.getElem_cons_succ, List.getElem_cons_zero, Act.put, List.setIfInBounds_toArray, List.set_cons_zero, List.set_cons_succ]
      refine wpC_one (i := 15) (l' := #[true, true, true, true, true, true, true, true, true, true, true, true, true, true, true, true, true, false, false, false, false, false, false, false]) (by kernel_rfl) rfl rfl (by rfl) (fun Kr hKr => ?_)
      refine step_callD rfl 160 #[.tmp 19, .tmp 21] _ rfl hrun #[.pointer (some ⟨g, 0, none⟩), .slice (some ⟨_, 0, none⟩) 1 1] (by first | rfl | (simp [Act.eval]; done) | (simp [Act.eval]; rfl) | (simp [Act.eval]; repeat' constructor)) (dI (bagK K [tk])) (HC3.out _ _ (by (repeat (first | exact q5.b0 | exact q4.b0 | exact q3.b0 | exact q2.b0 | exact q1.b0 | exact Below.refl _ _ | refine below_dr ?_ | refine below_al ?_ _)); done) (by first | (simp [go_sem]; done) | exact q3.cell (by first | (simp [go_sem]; done) | exact q2.cell (by first | (simp [go_sem]; done) | exact q1.cell (by simp [go_sem]))))) ?_; intro v F4 w4 hb ho hn hl; have hx0 := Bag1.of (w := w) (pw := w3) hb ho hn hl; have hx1 := hx0 (by (repeat (first | exact q5.b0 | exact q4.b0 | exact q3.b0 | exact q2.b0 | exact q1.b0 | exact Below.refl _ _ | refine below_dr ?_ | refine below_al ?_ _)); done); have hx2 := hx1 (by (repeat (first | exact Below.refl _ _ | refine below_dr ?_ | refine below_al ?_ _)); done); clear hx0 hx1 hb ho hn hl; obtain ⟨a4, c4, rfl, q4⟩ := hx2
      refine hKr _ _ (fun _ => f1w q4.b0) ?_
      clear hKr Kr
      try simp only [List.getElem_toArray, List.getElem_cons_succ, List.getElem_cons_zero, Act.put, List.setIfInBounds_toArray, List.set_cons_zero, List.set_cons_succ]
      refine wpC_one (i := 17) (l' := #[true, true, true, true, true, true, true, true, true, true, true, true, true, true, true, true, true, true, false, false, false, false, false, false]) (by kernel_rfl) rfl rfl (by rfl) (fun Kr hKr => ?_)
      refine step_callD rfl 160 #[.tmp 23, .const (.slice none 0 0)] _ rfl hrun #[.pointer (some ⟨g, 0, none⟩), .slice none 0 0] (by first | rfl | (simp [Act.eval]; done) | (simp [Act.eval]; rfl) | (simp [Act.eval]; repeat' constructor)) (dI (bagK K [])) (HC2.out _ (by (repeat (first | exact q5.b0 | exact q4.b0 | exact q3.b0 | exact q2.b0 | exact q1.b0 | exact Below.refl _ _ | refine below_dr ?_ | refine below_al ?_ _)); done)) ?_; intro v F5 w5 hb ho hn hl; have hx0 := Bag1.of (w := w) (pw := w4) hb ho hn hl; have hx1 := hx0 (by (repeat (first | exact q5.b0 | exact q4.b0 | exact q3.b0 | exact q2.b0 | exact q1.b0 | exact Below.refl _ _ | refine below_dr ?_ | refine below_al ?_ _)); done); have hx2 := hx1 (by (repeat (first | exact Below.refl _ _ | refine below_dr ?_ | refine below_al ?_ _)); done); clear hx0 hx1 hb ho hn hl; obtain ⟨a5, c5, rfl, q5⟩ := hx2
      refine hKr _ _ (fun _ => f1w q5.b0) ?_
      clear hKr Kr
      try simp only [List.getElem_toArray, List.getElem_cons_succ, List.getElem_cons_zero, Act.put, List.setIfInBounds_toArray, List.set_cons_zero, List.set_cons_succ]
      have hs17 := f1w q5.b0
      refine wpC_take (i := 18) (v := ?v18_19) (l' := #[true, true, true, true, true, true, true, true, true, true, true, true, true, true, true, true, true, true, true, false, false, false, false, false]) [19, 20, 21, 22, 23] rfl (by kernel_rfl) (by kernel_rfl) (by kernel_rfl) (by kernel_rfl) (by kernel_rfl) rfl (fun _ _ _ h => h) (by rfl) (fun wx hS => ?q18_19) (by assumption) ?_
      case q18_19 => (go_simp; try with_reducible rfl)
      try simp only [List.getElem_toArray, List.getElem_cons_succ, List.getElem_cons_zero, Act.put, List.setIfInBounds_toArray, List.set_cons_zero, List.set_cons_succ]
      refine wpC_one (i := 19) (l' := #[true, true, true, true, true, true, true, true, true, true, true, true, true, true, true, true, true, true, true, true, false, false, false, false]) (by kernel_rfl) rfl rfl (by rfl) (fun Kr hKr => ?_)
      go_simp
      refine hKr _ _ (fun _ => f1w (by (repeat (first | exact q5.b0 | exact q4.b0 | exact q3.b0 | exact q2.b0 | exact q1.b0 | exact Below.refl _ _ | refine below_dr ?_ | refine below_al ?_ _)); done)) ?_
      clear hKr Kr
      try simp only [List.getElem_toArray, List.getElem_cons_succ, List.getElem_cons_zero, Act.put, List.setIfInBounds_toArray, List.set_cons_zero, List.set_cons_succ]
      refine wpC_one (i := 20) (l' := #[true, true, true, true, true, true, true, true, true, true, true, true, true, true, true, true, true, true, true, true, true, false, false, false]) (by kernel_rfl) rfl rfl (by rfl) (fun Kr hKr => ?_)
      refine step_lst rfl (.tmp 11) (.tmp 26) 118 rfl tabRuleSM rfl (by omega) (by decide) B v rs.length (rs.flatMap Rul.ds) (rulK K 0 from_ [] [] [tk]).ds G _ _ rfl (HM.out.lst.below (below_al q5.b0 _)) w5.heap.size rfl (RowAt.five q1 q2 q3 q4 q5 hB HLT.out).1 (by omega) (Nat.le_trans hB (below_al q5.b0 _).size) ?_
      intro v7 w7 G7 hN
      obtain ⟨z1, z2, gl, cl, rfl, hNx⟩ := Mkr.next HM.out (below_al q5.b0 _) hN (RowAt.five (E := 0) (rank := 0) q1 q2 q3 q4 q5 hB HLT.out).2
      refine hKr _ _ (fun _ => z1) ?_
      clear hKr Kr
      try simp only [List.getElem_toArray, List.getElem_cons_succ, List.getElem_cons_zero, Act.put, List.setIfInBounds_toArray, List.set_cons_zero, List.set_cons_succ]
      refine wpC_take (i := 21) (v := ?v21_20) (l' := #[true, true, true, true, true, true, true, true, true, true, true, true, true, true, true, true, true, true, true, true, true, true, false, false]) [22, 23] rfl (by kernel_rfl) (by kernel_rfl) (by kernel_rfl) (by kernel_rfl) (by kernel_rfl) rfl (fun _ _ _ h => h) (by rfl) (fun wx hS => ?q21_20) (by assumption) ?_
      case q21_20 => (go_simp; try with_reducible rfl)
      try simp only [List.getElem_toArray, List.getElem_cons_succ, List.getElem_cons_zero, Act.put, List.setIfInBounds_toArray, List.set_cons_zero, List.set_cons_succ]
      refine wpC_take (i := 22) (v := ?v22_21) (l' := #[true, true, true, true, true, true, true, true, true, true, true, true, true, true, true, true, true, true, true, true, true, true, true, false]) [23] rfl (by kernel_rfl) (by kernel_rfl) (by kernel_rfl) (by kernel_rfl) (by kernel_rfl) rfl (fun _ _ _ h => h) (by rfl) (fun wx hS => ?q22_21) (by assumption) ?_
      case q22_21 => (go_simp; try with_reducible rfl)
      try simp only [List.getElem_toArray, List.getElem_cons_succ, List.getElem_cons_zero, Act.put, List.setIfInBounds_toArray, List.set_cons_zero, List.set_cons_succ]
      refine wpC_one (i := 23) (l' := #[true, true, true, true, true, true, true, true, true, true, true, true, true, true, true, true, true, true, true, true, true, true, true, true]) (by kernel_rfl) rfl rfl (by rfl) (fun Kr hKr => ?_)
      go_simp
      refine hKr _ _ (fun h => absurd (by decide) h) ?_
      clear hKr Kr
      try simp only [List.getElem_toArray, List.getElem_cons_succ, List.getElem_cons_zero, Act.put, List.setIfInBounds_toArray, List.set_cons_zero, List.set_cons_succ]
      refine wpC_done (by kernel_rfl) ?_ _
      exact key hNx
  · go_simp
    refine hKr _ _ (fun _ => f1w (by (repeat (first | exact q5.b0 | exact q4.b0 | exact q3.b0 | exact q2.b0 | exact q1.b0 | exact Below.refl _ _ | refine below_dr ?_ | refine below_al ?_ _)); done)) ?_
    clear hKr Kr
    try simp only [List.getElem_toArray, List.getElem_cons_succ, List.getElem_cons_zero, Act.put, List.setIfInBounds_toArray, List.set_cons_zero, List.set_cons_succ]
    refine wpC_one (i := 7) (l' := #[true, true, true, true, true, true, true, true, true, false, true, false, true, true, true, false, true, false, false, false, false, false, false, false]) (by kernel_rfl) rfl rfl (by rfl) (fun Kr hKr => ?_)
    refine step_callD rfl 160 #[.tmp 12, .tmp 13] _ rfl hrun #[.pointer (some ⟨g, 0, none⟩), .slice af from_.length cf] (by first | rfl | (simp [Act.eval]; done) | (simp [Act.eval]; rfl) | (simp [Act.eval]; repeat' constructor)) (dI (bagK K from_)) (HC1.out _ (by (repeat (first | exact q5.b0 | exact q4.b0 | exact q3.b0 | exact q2.b0 | exact q1.b0 | exact Below.refl _ _ | refine below_dr ?_ | refine below_al ?_ _)); done)) ?_; intro v F1 w1 hb ho hn hl; have hx0 := Bag1.of (w := w) (pw := w) hb ho hn hl; have hx1 := hx0 (by (repeat (first | exact q5.b0 | exact q4.b0 | exact q3.b0 | exact q2.b0 | exact q1.b0 | exact Below.refl _ _ | refine below_dr ?_ | refine below_al ?_ _)); done); have hx2 := hx1 (by (repeat (first | exact Below.refl _ _ | refine below_dr ?_ | refine below_al ?_ _)); done); clear hx0 hx1 hb ho hn hl; obtain ⟨a1, c1, rfl, q1⟩ := hx2
    refine hKr _ _ (fun _ => f1w q1.b0) ?_
    clear hKr Kr
    try simp only [List.getElem_toArray, List.getElem_cons_succ, List.getElem_cons_zero, Act.put, List.setIfInBounds_toArray, List.set_cons_zero, List.set_cons_succ]
    refine wpC_one (i := 9) (l' := #[true, true, true, true, true, true, true, true, true, true, true, false, true, true, true, false, true, false, false, false, false, false, false, false]) (by kernel_rfl) rfl rfl (by rfl) (fun Kr hKr => ?_)
    refine step_callD rfl 160 #[.tmp 15, .const (.slice none 0 0)] _ rfl hrun #[.pointer (some ⟨g, 0, none⟩), .slice none 0 0] (by first | rfl | (simp [Act.eval]; done) | (simp [Act.eval]; rfl) | (simp [Act.eval]; repeat' constructor)) (dI (bagK K [])) (HC2.out _ (by (repeat (first | exact q5.b0 | exact q4.b0 | exact q3.b0 | exact q2.b0 | exact q1.b0 | exact Below.refl _ _ | refine below_dr ?_ | refine below_al ?_ _)); done)) ?_; intro v F2 w2 hb ho hn hl; have hx0 := Bag1.of (w := w) (pw := w1) hb ho hn hl; have hx1 := hx0 (by (repeat (first | exact q5.b0 | exact q4.b0 | exact q3.b0 | exact q2.b0 | exact q1.b0 | exact Below.refl _ _ | refine below_dr ?_ | refine below_al ?_ _)); done); have hx2 := hx1 (by (repeat (first | exact Below.refl _ _ | refine below_dr ?_ | refine below_al ?_ _)); done); clear hx0 hx1 hb ho hn hl; obtain ⟨a2, c2, rfl, q2⟩ := hx2
    refine hKr _ _ (fun _ => f1w q2.b0) ?_
    clear hKr Kr
    try simp only [List.getElem_toArray, List.getElem_cons_succ, List.getElem_cons_zero, Act.put, List.setIfInBounds_toArray, List.set_cons_zero, List.set_cons_succ]
    refine wpC_one (i := 11) (l' := #[true, true, true, true, true, true, true, true, true, true, true, true, true, true, true, false, true, false, false, false, false, false, false, false]) (by kernel_rfl) rfl rfl (by rfl) (fun Kr hKr => ?_)
    refine step_callD rfl 160 #[.tmp 17, .const (.slice none 0 0)] _ rfl hrun #[.pointer (some ⟨g, 0, none⟩), .slice none 0 0] (by first | rfl | (simp [Act.eval]; done) | (simp [Act.eval]; rfl) | (simp [Act.eval]; repeat' constructor)) (dI (bagK K [])) (HC2.out _ (by (repeat (first | exact q5.b0 | exact q4.b0 | exact q3.b0 | exact q2.b0 | exact q1.b0 | exact Below.refl _ _ | refine below_dr ?_ | refine below_al ?_ _)); done)) ?_; intro v F3 w3 hb ho hn hl; have hx0 := Bag1.of (w := w) (pw := w2) hb ho hn hl; have hx1 := hx0 (by (repeat (first | exact q5.b0 | exact q4.b0 | exact q3.b0 | exact q2.b0 | exact q1.b0 | exact Below.refl _ _ | refine below_dr ?_ | refine below_al ?_ _)); done); have hx2 := hx1 (by (repeat (first | exact Below.refl _ _ | refine below_dr ?_ | refine below_al ?_ _)); done); clear hx0 hx1 hb ho hn hl; obtain ⟨a3, c3, rfl, q3⟩ := hx2
    refine hKr _ _ (fun _ => f1w q3.b0) ?_
    clear hKr Kr
    try simp only [List.getElem_toArray, List.getElem_cons_succ, List.getElem_cons_zero, Act.put, List.setIfInBounds_toArray, List.set_cons_zero, List.set_cons_succ]
    refine wpC_one (i := 15) (l' := #[true, true, true, true, true, true, true, true, true, true, true, true, true, true, true, true, true, false, false, false, false, false, false, false]) (by kernel_rfl) rfl rfl (by rfl) (fun Kr hKr => ?_)
    refine step_callD rfl 160 #[.tmp 19, .tmp 21] _ rfl hrun #[.pointer (some ⟨g, 0, none⟩), .slice (some ⟨_, 0, none⟩) 1 1] (by first | rfl | (simp [Act.eval]; done) | (simp [Act.eval]; rfl) | (simp [Act.eval]; repeat' constructor)) (dI (bagK K [tk])) (HC3.out _ _ (by (repeat (first | exact q5.b0 | exact q4.b0 | exact q3.b0 | exact q2.b0 | exact q1.b0 | exact Below.refl _ _ | refine below_dr ?_ | refine below_al ?_ _)); done) (by first | (simp [go_sem]; done) | exact q3.cell (by first | (simp [go_sem]; done) | exact q2.cell (by first | (simp [go_sem]; done) | exact q1.cell (by simp [go_sem]))))) ?_; intro v F4 w4 hb ho hn hl; have hx0 := Bag1.of (w := w) (pw := w3) hb ho hn hl; have hx1 := hx0 (by (repeat (first | exact q5.b0 | exact q4.b0 | exact q3.b0 | exact q2.b0 | exact q1.b0 | exact Below.refl _ _ | refine below_dr ?_ | refine below_al ?_ _)); done); have hx2 := hx1 (by (repeat (first | exact Below.refl _ _ | refine below_dr ?_ | refine below_al ?_ _)); done); clear hx0 hx1 hb ho hn hl; obtain ⟨a4, c4, rfl, q4⟩ := hx2
    refine hKr _ _ (fun _ => f1w q4.b0) ?_
    clear hKr Kr
    try simp only [List.getElem_toArray, List.getElem_cons_succ, List.getElem_cons_zero, Act.put, List.setIfInBounds_toArray, List.set_cons_zero, List.set_cons_succ]
    refine wpC_one (i := 17) (l' := #[true, true, true, true, true, true, true, true, true, true, true, true, true, true, true, true, true, true, false, false, false, false, false, false]) (by kernel_rfl) rfl rfl (by rfl) (fun Kr hKr => ?_)
    refine step_callD rfl 160 #[.tmp 23, .const (.slice none 0 0)] _ rfl hrun #[.pointer (some ⟨g, 0, none⟩), .slice none 0 0] (by first | rfl | (simp [Act.eval]; done) | (simp [Act.eval]; rfl) | (simp [Act.eval]; repeat' constructor)) (dI (bagK K [])) (HC2.out _ (by (repeat (first | exact q5.b0 | exact q4.b0 | exact q3.b0 | exact q2.b0 | exact q1.b0 | exact Below.refl _ _ | refine below_dr ?_ | refine below_al ?_ _)); done)) ?_; intro v F5 w5 hb ho hn hl; have hx0 := Bag1.of (w := w) (pw := w4) hb ho hn hl; have hx1 := hx0 (by (repeat (first | exact q5.b0 | exact q4.b0 | exact q3.b0 | exact q2.b0 | exact q1.b0 | exact Below.refl _ _ | refine below_dr ?_ | refine below_al ?_ _)); done); have hx2 := hx1 (by (repeat (first | exact Below.refl _ _ | refine below_dr ?_ | refine below_al ?_ _)); done); clear hx0 hx1 hb ho hn hl; obtain ⟨a5, c5, rfl, q5⟩ := hx2
    refine hKr _ _ (fun _ => f1w q5.b0) ?_
    clear hKr Kr
    try simp only [List.getElem_toArray, List.getElem_cons_succ, List.getElem_cons_zero, Act.put, List.setIfInBounds_toArray, List.set_cons_zero, List.set_cons_succ]
    have hs17 := f1w q5.b0
    refine wpC_take (i := 18) (v := ?v18_22) (l' := #[true, true, true, true, true, true, true, true, true, true, true, true, true, true, true, true, true, true, true, false, false, false, false, false]) [19, 20, 21, 22, 23] rfl (by kernel_rfl) (by kernel_rfl) (by kernel_rfl) (by kernel_rfl) (by kernel_rfl) rfl (fun _ _ _ h => h) (by rfl) (fun wx hS => ?q18_22) (by assumption) ?_
    case q18_22 => (go_simp; try with_reducible rfl)
    try simp only [List.getElem_toArray, List.getElem_cons_succ, List.getElem_cons_zero, Act.put, List.setIfInBounds_toArray, List.set_cons_zero, List.set_cons_succ]
    refine wpC_one (i := 19) (l' := #[true, true, true, true, true, true, true, true, true, true, true, true, true, true, true, true, true, true, true, true, false, false, false, false]) (by kernel_rfl) rfl rfl (by rfl) (fun Kr hKr => ?_)
    go_simp
    refine hKr _ _ (fun _ => f1w (by (repeat (first | exact q5.b0 | exact q4.b0 | exact q3.b0 | exact q2.b0 | exact q1.b0 | exact Below.refl _ _ | refine below_dr ?_ | refine below_al ?_ _)); done)) ?_
    clear hKr Kr
    try simp only [List.getElem_toArray, List.getElem_cons_succ, List.getElem_cons_zero, Act.put, List.setIfInBounds_toArray, List.set_cons_zero, List.set_cons_succ]
    refine wpC_one (i := 20) (l' := #[true, true, true, true, true, true, true, true, true, true, true, true, true, true, true, true, true, true, true, true, true, false, false, false]) (by kernel_rfl) rfl rfl (by rfl) (fun Kr hKr => ?_)
    refine step_lst rfl (.tmp 11) (.tmp 26) 118 rfl tabRuleSM rfl (by omega) (by decide) B v rs.length (rs.flatMap Rul.ds) (rulK K 0 from_ [] [] [tk]).ds G _ _ rfl (HM.out.lst.below (below_al q5.b0 _)) w5.heap.size rfl (RowAt.five q1 q2 q3 q4 q5 hB HLT.out).1 (by omega) (Nat.le_trans hB (below_al q5.b0 _).size) ?_
    intro v7 w7 G7 hN
    obtain ⟨z1, z2, gl, cl, rfl, hNx⟩ := Mkr.next HM.out (below_al q5.b0 _) hN (RowAt.five (E := 0) (rank := 0) q1 q2 q3 q4 q5 hB HLT.out).2
    refine hKr _ _ (fun _ => z1) ?_
    clear hKr Kr
    try simp only [List.getElem_toArray, List.getElem_cons_succ, List.getElem_cons_zero, Act.put, List.setIfInBounds_toArray, List.set_cons_zero, List.set_cons_succ]
    refine wpC_take (i := 21) (v := ?v21_23) (l' := #[true, true, true, true, true, true, true, true, true, true, true, true, true, true, true, true, true, true, true, true, true, true, false, false]) [22, 23] rfl (by kernel_rfl) (by kernel_rfl) (by kernel_rfl) (by kernel_rfl) (by kernel_rfl) rfl (fun _ _ _ h => h) (by rfl) (fun wx hS => ?q21_23) (by assumption) ?_
    case q21_23 => (go_simp; try with_reducible rfl)
    try simp only [List.getElem_toArray, List.getElem_cons_succ, List.getElem_cons_zero, Act.put, List.setIfInBounds_toArray, List.set_cons_zero, List.set_cons_succ]
    refine wpC_take (i := 22) (v := ?v22_24) (l' := #[true, true, true, true, true, true, true, true, true, true, true, true, true, true, true, true, true, true, true, true, true, true, true, false]) [23] rfl (by kernel_rfl) (by kernel_rfl) (by kernel_rfl) (by kernel_rfl) (by kernel_rfl) rfl (fun _ _ _ h => h) (by rfl) (fun wx hS => ?q22_24) (by assumption) ?_
    case q22_24 => (go_simp; try with_reducible rfl)
    try simp only [List.getElem_toArray, List.getElem_cons_succ, List.getElem_cons_zero, Act.put, List.setIfInBounds_toArray, List.set_cons_zero, List.set_cons_succ]
    refine wpC_one (i := 23) (l' := #[true, true, true, true, true, true, true, true, true, true, true, true, true, true, true, true, true, true, true, true, true, true, true, true]) (by kernel_rfl) rfl rfl (by rfl) (fun Kr hKr => ?_)
    go_simp
    refine hKr _ _ (fun h => absurd (by decide) h) ?_
    clear hKr Kr
    try simp only [List.getElem_toArray, List.getElem_cons_succ, List.getElem_cons_zero, Act.put, List.setIfInBounds_toArray, List.set_cons_zero, List.set_cons_succ]
    refine wpC_done (by kernel_rfl) ?_ _
    exact key hNx
end Go.Proofs.Ytncndnholheemaa
